/- Part 32 of the proof: texts TryzShelf, V33a, V33b, V33c, V33d, V33z, X1, X2, XO. -/
import Derived.Test.YtclaplngjmgnoaaGreatDoorP28
import Derived.Test.YtclaplngjmgnoaaGreatDoorP29
import Derived.Shelf.Strings.Builder1
import Derived.Shelf.Strings.Builder2
import Derived.Shelf.Strings.OnBuilder
import Derived.Shelf.Small.Utf8
import Derived.Shelf.Small.Bits
import Derived.Shelf.Small.Strs
import Derived.Shelf.Small.Wraps
import Derived.Shelf.Strings.BuilderF
import Derived.Shelf.Strings.BuilderK
import Derived.Shelf.Strconv.Atoi
import Derived.Shelf.Strconv.Itoa0
import Derived.Shelf.Strconv.Itoa1
import Derived.Shelf.LaysM
import Derived.Shelf.Strconv.Itoa2
import Derived.Shelf.Strconv.Itoa3
import Derived.Shelf.Strconv.AtoiErrFast
import Derived.Shelf.Strconv.ParseIntEmpty
import Derived.Shelf.Strconv.AtoiFail
import Derived.Shelf.Strconv.Clone
import Derived.Shelf.Strconv.SyntaxError
import Derived.Shelf.LaysC
import Derived.Shelf.Strconv.ToError
import Derived.Shelf.Strconv.Lower
import Derived.Shelf.Strconv.ParseUint10
import Derived.Shelf.Strconv.ParseUint10Empty
import Derived.Shelf.Strconv.ParseUint10Any
import Derived.Shelf.Strconv.ParseInt10
import Derived.Shelf.Strconv.AtoiLong
import Derived.Shelf.Strconv.AtoiInnerAll
import Derived.Shelf.Strconv.RangeError
import Derived.Shelf.Strconv.ToErrorRange
import Derived.Shelf.Strconv.AtoiAll
import Derived.Shelf.Strconv.ErrVarAll
import Derived.Shelf.Strings.Search1
import Derived.Shelf.Strings.Search2
import Derived.Shelf.Strings.Search3
import Derived.Shelf.Strings.Cut
import Derived.Shelf.Strings.Count
import Derived.Shelf.Strings.Shaped
import Derived.Shelf.Strings.Prefix
import Derived.Shelf.Strings.Split
import Derived.Shelf.Strings.Replace
import Derived.Shelf.Strings.SplitShaped
import Derived.Shelf.Strings.Runes
import Derived.Shelf.Strings.IndexAny
import Derived.Shelf.Strings.AsciiSet
import Derived.Shelf.Strings.IndexAnyAll
import Derived.Shelf.Bits.Mul64
import Derived.Shelf.Strings.Repeat
import Derived.Shelf.Unicode.DecodeSlow
import Derived.Shelf.Unicode.DecodeAny
import Derived.Shelf.Slices.Turned
import Derived.Ground.Names2Prog
import Derived.Shelf.Slices.Clone
import Derived.Shelf.Slices.SearchI
import Derived.Ground.SlgnProg
import Derived.Shelf.SlicesE.Clone
import Derived.Ground.SlgmProg
import Derived.Shelf.SortM.Plain
import Derived.Shelf.SortM.SortNone
import Derived.Test.YtclaplngjmgnoaaGreatDoorProg
import Derived.Lib.AppendIntMem
import Derived.Lib.SplitLaws
set_option linter.all false
namespace Go.Proofs
open Go.Shelf
def Tryz.lays156_ren : Go.Shelf.Ren := ⟨fun | 156 => 57 | 165 => 110 | 166 => 34 | 169 => 36 | 240 => 61 | 241 => 173 | 276 => 114 | 277 => 241 | n => n, fun | 31 => 58 | 9 => 9 | 3 => 3 | 4 => 4 | 0 => 0 | 20 => 20 | 72 => 89 | 76 => 95 | 70 => 86 | 37 => 87 | 75 => 94 | 127 => 142 | 164 => 199 | 5 => 5 | 80 => 36 | n => n, fun | n => n⟩
theorem Tryz.lays156 : Go.Proofs.Lays.n156 Tryz.prog Tryz.lays156_ren := {
 mixed := by kernel_rfl
 f156 := Tryz.func57.trans (congrArg some (by kernel_rfl))
 f165 := Tryz.func110.trans (congrArg some (by kernel_rfl))
 f166 := Tryz.func34.trans (congrArg some (by kernel_rfl))
 f169 := Tryz.func36.trans (congrArg some (by kernel_rfl))
 f240 := Tryz.func61.trans (congrArg some (by kernel_rfl))
 f241 := Tryz.func173.trans (congrArg some (by kernel_rfl))
 f276 := Tryz.func114.trans (congrArg some (by kernel_rfl))
 f277 := Tryz.func241.trans (congrArg some (by kernel_rfl))
 t0 := Tryz.underlying0
 a0 := Tryz.isAgg0
 z0 := Tryz.sizeOf0
 v0 := Tryz.zeroValue0
 t3 := Tryz.underlying3
 a3 := Tryz.isAgg3
 z3 := Tryz.sizeOf3
 v3 := Tryz.zeroValue3
 t4 := Tryz.underlying4
 a4 := Tryz.isAgg4
 z4 := Tryz.sizeOf4
 v4 := Tryz.zeroValue4
 t9 := Tryz.underlying9
 a9 := Tryz.isAgg9
 z9 := Tryz.sizeOf9
 v9 := Tryz.zeroValue9
 t20 := Tryz.underlying20
 a20 := Tryz.isAgg20
 z20 := Tryz.sizeOf20
 v20 := Tryz.zeroValue20
 t31 := Tryz.underlying58
 a31 := Tryz.isAgg58
 z31 := Tryz.sizeOf58
 v31 := Tryz.zeroValue58
 t37 := Tryz.underlying87
 a37 := Tryz.isAgg87
 z37 := Tryz.sizeOf87
 v37 := Tryz.zeroValue87
 t70 := Tryz.underlying86
 a70 := Tryz.isAgg86
 z70 := Tryz.sizeOf86
 v70 := Tryz.zeroValue86
 t72 := Tryz.underlying89
 a72 := Tryz.isAgg89
 z72 := Tryz.sizeOf89
 v72 := Tryz.zeroValue89
 t75 := Tryz.underlying94
 a75 := Tryz.isAgg94
 z75 := Tryz.sizeOf94
 v75 := Tryz.zeroValue94
 t76 := Tryz.underlying95
 a76 := Tryz.isAgg95
 z76 := Tryz.sizeOf95
 v76 := Tryz.zeroValue95
 t127 := Tryz.underlying142
 a127 := Tryz.isAgg142
 z127 := Tryz.sizeOf142
 v127 := Tryz.zeroValue142
 t164 := Tryz.underlying199
 a164 := Tryz.isAgg199
 z164 := Tryz.sizeOf199
 v164 := Tryz.zeroValue199 }
theorem Tryz.Builder_Extra_156 : Builder.Extra Tryz.prog Tryz.lays156_ren := {
 sizeBuilder := by kernel_rfl
 liesBuilder := by kernel_rfl
 t5 := Tryz.underlying5
 a5 := Tryz.isAgg5
 z5 := Tryz.sizeOf5
 v5 := Tryz.zeroValue5
 infoByte := by kernel_rfl
 cellsByte := by kernel_rfl
 sizeByte := by kernel_rfl
 neB5 := by decide }
open Go.RowKit in
theorem Tryz.strings_Join_none (a : Option Addr) (c : Nat) (sep : ByteArray) (w : World) :
  Calls Tryz.prog 57 #[.slice a 0 c, .string sep] w fun e w' => e = .returned (.string ⟨#[]⟩) ∧ w' = w := Any.strings_Join_none Tryz.lays156 Tryz.Builder_Extra_156 a c sep w
open Go.RowKit in
theorem Tryz.strings_Join (bk o c : Nat) (xs : List ByteArray) (sep : ByteArray) (w : World) (hcells : ∀ (j : Nat) x, xs[j]? = some x → w.cell? ⟨bk, o + j, none⟩ = some (.string x)) (hbk : bk < w.heap.size) (hN : xs.length ≤ 140737488355328) (hcap : xs.length ≤ c) (hlen : (Lib.join (xs.map (·.data.toList)) sep.data.toList).length ≤ 140737488355328) :
  Calls Tryz.prog 57 #[.slice (some ⟨bk, o, none⟩) xs.length c, .string sep] w fun e w' => e = .returned (.string ⟨(Lib.join (xs.map (·.data.toList)) sep.data.toList).toArray⟩) ∧ Below w.heap.size w w' := Any.strings_Join Tryz.lays156 Tryz.Builder_Extra_156 bk o c xs sep w hcells hbk hN hcap hlen
def Tryz.lays137_ren : Go.Shelf.Ren := ⟨fun | 137 => 320 | 217 => 251 | 266 => 315 | n => n, fun | 9 => 9 | 5 => 5 | 3 => 3 | n => n, fun | n => n⟩
theorem Tryz.lays137 : Go.Proofs.Lays.n137 Tryz.prog Tryz.lays137_ren := {
 mixed := by kernel_rfl
 f137 := Tryz.func320.trans (congrArg some (by kernel_rfl))
 f217 := Tryz.func251.trans (congrArg some (by kernel_rfl))
 f266 := Tryz.func315.trans (congrArg some (by kernel_rfl))
 t3 := Tryz.underlying3
 a3 := Tryz.isAgg3
 z3 := Tryz.sizeOf3
 v3 := Tryz.zeroValue3
 t5 := Tryz.underlying5
 a5 := Tryz.isAgg5
 z5 := Tryz.sizeOf5
 v5 := Tryz.zeroValue5
 t9 := Tryz.underlying9
 a9 := Tryz.isAgg9
 z9 := Tryz.sizeOf9
 v9 := Tryz.zeroValue9 }
open Go.RowKit in
theorem Tryz.strings_IndexByte (s : ByteArray) (c : Int) (w : World) :
  Calls Tryz.prog 320 #[.string s, .int .u8 c] w fun e w' => e = .returned (.int .i64 (Lib.indexByte s.data.toList c.toNat.toUInt8)) ∧ w' = w := Any.strings_IndexByte Tryz.lays137 s c w
def Tryz.lays103_ren : Go.Shelf.Ren := ⟨fun | 103 => 65 | 210 => 117 | 206 => 176 | n => n, fun | 9 => 9 | 4 => 4 | 24 => 146 | 3 => 3 | n => n, fun | n => n⟩
theorem Tryz.lays103 : Go.Proofs.Lays.n103 Tryz.prog Tryz.lays103_ren := {
 mixed := by kernel_rfl
 f103 := Tryz.func65.trans (congrArg some (by kernel_rfl))
 f206 := Tryz.func176.trans (congrArg some (by kernel_rfl))
 f210 := Tryz.func117.trans (congrArg some (by kernel_rfl))
 t3 := Tryz.underlying3
 a3 := Tryz.isAgg3
 z3 := Tryz.sizeOf3
 v3 := Tryz.zeroValue3
 t4 := Tryz.underlying4
 a4 := Tryz.isAgg4
 z4 := Tryz.sizeOf4
 v4 := Tryz.zeroValue4
 t9 := Tryz.underlying9
 a9 := Tryz.isAgg9
 z9 := Tryz.sizeOf9
 v9 := Tryz.zeroValue9
 t24 := Tryz.underlying146
 a24 := Tryz.isAgg146
 z24 := Tryz.sizeOf146
 v24 := Tryz.zeroValue146 }
open Go.RowKit in
theorem Tryz.strings_CutPrefix (s p : ByteArray) (w : World) :
  Calls Tryz.prog 65 #[.string s, .string p] w fun e w' => e = .returned (.tuple #[.string ⟨(Lib.trimPrefix s.data.toList p.data.toList).toArray⟩, .bool (Lib.hasPrefix s.data.toList p.data.toList)]) ∧ w' = w := Any.strings_CutPrefix Tryz.lays103 s p w
def Tryz.laysM171_ren : Go.Shelf.Ren := ⟨fun | 171 => 55 | 243 => 106 | 246 => 167 | 283 => 231 | 284 => 232 | 285 => 233 | 286 => 234 | 129 => 162 | 317 => 299 | 318 => 300 | 319 => 301 | 320 => 302 | 337 => 353 | 338 => 354 | n => n, fun | 3 => 3 | 9 => 9 | 2 => 2 | 4 => 4 | 171 => 315 | 0 => 0 | 53 => 257 | 37 => 87 | 5 => 5 | 173 => 317 | 212 => 375 | 51 => 255 | 20 => 20 | 213 => 376 | 46 => 183 | 232 => 440 | 233 => 441 | n => n, fun | 17 => 3 | 18 => 7 | 19 => 8 | n => n⟩
theorem Tryz.laysM171 : Go.Proofs.LaysM.n171 Tryz.prog Tryz.laysM171_ren := {
 mixed := by kernel_rfl
 f129 := Tryz.func162.trans (congrArg some (by kernel_rfl))
 f171 := Tryz.func55.trans (congrArg some (by kernel_rfl))
 f243 := Tryz.func106.trans (congrArg some (by kernel_rfl))
 f246 := Tryz.func167.trans (congrArg some (by kernel_rfl))
 f283 := Tryz.func231.trans (congrArg some (by kernel_rfl))
 f284 := Tryz.func232.trans (congrArg some (by kernel_rfl))
 f285 := Tryz.func233.trans (congrArg some (by kernel_rfl))
 f286 := Tryz.func234.trans (congrArg some (by kernel_rfl))
 f317 := Tryz.func299.trans (congrArg some (by kernel_rfl))
 f318 := Tryz.func300.trans (congrArg some (by kernel_rfl))
 f319 := Tryz.func301.trans (congrArg some (by kernel_rfl))
 f320 := Tryz.func302.trans (congrArg some (by kernel_rfl))
 f337 := Tryz.func353.trans (congrArg some (by kernel_rfl))
 f338 := Tryz.func354.trans (congrArg some (by kernel_rfl))
 t0 := Tryz.underlying0
 a0 := Tryz.isAgg0
 z0 := Tryz.sizeOf0
 v0 := Tryz.zeroValue0
 t2 := Tryz.underlying2
 a2 := Tryz.isAgg2
 z2 := Tryz.sizeOf2
 v2 := Tryz.zeroValue2
 t3 := Tryz.underlying3
 a3 := Tryz.isAgg3
 z3 := Tryz.sizeOf3
 v3 := Tryz.zeroValue3
 t4 := Tryz.underlying4
 a4 := Tryz.isAgg4
 z4 := Tryz.sizeOf4
 v4 := Tryz.zeroValue4
 t5 := Tryz.underlying5
 a5 := Tryz.isAgg5
 z5 := Tryz.sizeOf5
 v5 := Tryz.zeroValue5
 t9 := Tryz.underlying9
 a9 := Tryz.isAgg9
 z9 := Tryz.sizeOf9
 v9 := Tryz.zeroValue9
 t20 := Tryz.underlying20
 a20 := Tryz.isAgg20
 z20 := Tryz.sizeOf20
 v20 := Tryz.zeroValue20
 t37 := Tryz.underlying87
 a37 := Tryz.isAgg87
 z37 := Tryz.sizeOf87
 v37 := Tryz.zeroValue87
 t46 := Tryz.underlying183
 a46 := Tryz.isAgg183
 z46 := Tryz.sizeOf183
 v46 := Tryz.zeroValue183
 t51 := Tryz.underlying255
 a51 := Tryz.isAgg255
 z51 := Tryz.sizeOf255
 v51 := Tryz.zeroValue255
 t53 := Tryz.underlying257
 a53 := Tryz.isAgg257
 z53 := Tryz.sizeOf257
 v53 := Tryz.zeroValue257
 t171 := Tryz.underlying315
 a171 := Tryz.isAgg315
 z171 := Tryz.sizeOf315
 v171 := Tryz.zeroValue315
 t173 := Tryz.underlying317
 a173 := Tryz.isAgg317
 z173 := Tryz.sizeOf317
 v173 := Tryz.zeroValue317
 t212 := Tryz.underlying375
 a212 := Tryz.isAgg375
 z212 := Tryz.sizeOf375
 v212 := Tryz.zeroValue375
 t213 := Tryz.underlying376
 a213 := Tryz.isAgg376
 z213 := Tryz.sizeOf376
 t232 := Tryz.underlying440
 a232 := Tryz.isAgg440
 z232 := Tryz.sizeOf440
 v232 := Tryz.zeroValue440
 t233 := Tryz.underlying441
 a233 := Tryz.isAgg441
 z233 := Tryz.sizeOf441
 v233 := Tryz.zeroValue441
 g17 := by kernel_rfl
 g18 := by kernel_rfl
 g19 := by kernel_rfl
 i0 := by kernel_rfl
 i2 := by kernel_rfl
 i3 := by kernel_rfl
 i4 := by kernel_rfl
 i5 := by kernel_rfl
 i9 := by kernel_rfl
 i20 := by kernel_rfl
 i37 := by kernel_rfl
 i46 := by kernel_rfl
 i51 := by kernel_rfl
 i53 := by kernel_rfl
 i171 := by kernel_rfl
 i173 := by kernel_rfl
 i212 := by kernel_rfl
 i232 := by kernel_rfl
 i233 := by kernel_rfl
 m17 := by kernel_rfl
 m18 := by kernel_rfl
 m19 := by kernel_rfl }
open Go.RowKit Go.Sort Go.Lib in
theorem Tryz.strconv_Itoa (n : Int) (h0 : -9223372036854775808 ≤ n) (h1 : n ≤ 9223372036854775807) (w : World) (htab : Lib.TabIs Tryz.prog w "internal/strconv.uint64pow10" .u64 Lib.pow10Tab) :
  Calls Tryz.prog 55 #[.int .i64 n] w fun e w' => e = .returned (.string ⟨(Lib.itoa n).toArray⟩) ∧ ∃ k os, w' = grow (w.drewN k) os := Any.strconv_Itoa Tryz.laysM171 n h0 h1 w htab
def Tryz.laysC172_ren : Go.Shelf.Ren := ⟨fun | 172 => 68 | 244 => 119 | 245 => 120 | 247 => 178 | 279 => 179 | 280 => 180 | 281 => 181 | 282 => 182 | 287 => 255 | 316 => 256 | 171 => 55 | 205 => 257 | 321 => 317 | 322 => 318 | 243 => 106 | 246 => 167 | 283 => 231 | 284 => 232 | 285 => 233 | 286 => 234 | 129 => 162 | 317 => 299 | 318 => 300 | 319 => 301 | 320 => 302 | 337 => 353 | 338 => 354 | n => n, fun | 9 => 9 | 3 => 3 | 75 => 94 | 76 => 95 | 4 => 4 | 5 => 5 | 167 => 270 | 37 => 87 | 0 => 0 | 85 => 271 | 2 => 2 | 168 => 273 | 53 => 257 | 175 => 337 | 46 => 183 | 210 => 340 | 127 => 142 | 145 => 386 | 143 => 384 | 21 => 21 | 171 => 315 | 173 => 317 | 212 => 375 | 51 => 255 | 20 => 20 | 213 => 376 | 232 => 440 | 233 => 441 | 80 => 36 | n => n, fun | 15 => 1 | 16 => 2 | 17 => 3 | 18 => 7 | 19 => 8 | n => n⟩
theorem Tryz.laysC172 : Go.Proofs.LaysC.n172 Tryz.prog Tryz.laysC172_ren := {
 mixed := by kernel_rfl
 f129 := Tryz.func162.trans (congrArg some (by kernel_rfl))
 f171 := Tryz.func55.trans (congrArg some (by kernel_rfl))
 f172 := Tryz.func68.trans (congrArg some (by kernel_rfl))
 f205 := Tryz.func257.trans (congrArg some (by kernel_rfl))
 f243 := Tryz.func106.trans (congrArg some (by kernel_rfl))
 f244 := Tryz.func119.trans (congrArg some (by kernel_rfl))
 f245 := Tryz.func120.trans (congrArg some (by kernel_rfl))
 f246 := Tryz.func167.trans (congrArg some (by kernel_rfl))
 f247 := Tryz.func178.trans (congrArg some (by kernel_rfl))
 f279 := Tryz.func179.trans (congrArg some (by kernel_rfl))
 f280 := Tryz.func180.trans (congrArg some (by kernel_rfl))
 f281 := Tryz.func181.trans (congrArg some (by kernel_rfl))
 f282 := Tryz.func182.trans (congrArg some (by kernel_rfl))
 f283 := Tryz.func231.trans (congrArg some (by kernel_rfl))
 f284 := Tryz.func232.trans (congrArg some (by kernel_rfl))
 f285 := Tryz.func233.trans (congrArg some (by kernel_rfl))
 f286 := Tryz.func234.trans (congrArg some (by kernel_rfl))
 f287 := Tryz.func255.trans (congrArg some (by kernel_rfl))
 f316 := Tryz.func256.trans (congrArg some (by kernel_rfl))
 f317 := Tryz.func299.trans (congrArg some (by kernel_rfl))
 f318 := Tryz.func300.trans (congrArg some (by kernel_rfl))
 f319 := Tryz.func301.trans (congrArg some (by kernel_rfl))
 f320 := Tryz.func302.trans (congrArg some (by kernel_rfl))
 f321 := Tryz.func317.trans (congrArg some (by kernel_rfl))
 f322 := Tryz.func318.trans (congrArg some (by kernel_rfl))
 f337 := Tryz.func353.trans (congrArg some (by kernel_rfl))
 f338 := Tryz.func354.trans (congrArg some (by kernel_rfl))
 t0 := Tryz.underlying0
 a0 := Tryz.isAgg0
 z0 := Tryz.sizeOf0
 v0 := Tryz.zeroValue0
 t2 := Tryz.underlying2
 a2 := Tryz.isAgg2
 z2 := Tryz.sizeOf2
 v2 := Tryz.zeroValue2
 t3 := Tryz.underlying3
 a3 := Tryz.isAgg3
 z3 := Tryz.sizeOf3
 v3 := Tryz.zeroValue3
 t4 := Tryz.underlying4
 a4 := Tryz.isAgg4
 z4 := Tryz.sizeOf4
 v4 := Tryz.zeroValue4
 t5 := Tryz.underlying5
 a5 := Tryz.isAgg5
 z5 := Tryz.sizeOf5
 v5 := Tryz.zeroValue5
 t9 := Tryz.underlying9
 a9 := Tryz.isAgg9
 z9 := Tryz.sizeOf9
 v9 := Tryz.zeroValue9
 t20 := Tryz.underlying20
 a20 := Tryz.isAgg20
 z20 := Tryz.sizeOf20
 v20 := Tryz.zeroValue20
 t21 := Tryz.underlying21
 a21 := Tryz.isAgg21
 z21 := Tryz.sizeOf21
 v21 := Tryz.zeroValue21
 t37 := Tryz.underlying87
 a37 := Tryz.isAgg87
 z37 := Tryz.sizeOf87
 v37 := Tryz.zeroValue87
 t46 := Tryz.underlying183
 a46 := Tryz.isAgg183
 z46 := Tryz.sizeOf183
 v46 := Tryz.zeroValue183
 t51 := Tryz.underlying255
 a51 := Tryz.isAgg255
 z51 := Tryz.sizeOf255
 v51 := Tryz.zeroValue255
 t53 := Tryz.underlying257
 a53 := Tryz.isAgg257
 z53 := Tryz.sizeOf257
 v53 := Tryz.zeroValue257
 t75 := Tryz.underlying94
 a75 := Tryz.isAgg94
 z75 := Tryz.sizeOf94
 v75 := Tryz.zeroValue94
 t76 := Tryz.underlying95
 a76 := Tryz.isAgg95
 z76 := Tryz.sizeOf95
 v76 := Tryz.zeroValue95
 t85 := Tryz.underlying271
 a85 := Tryz.isAgg271
 z85 := Tryz.sizeOf271
 v85 := Tryz.zeroValue271
 t127 := Tryz.underlying142
 a127 := Tryz.isAgg142
 z127 := Tryz.sizeOf142
 v127 := Tryz.zeroValue142
 t143 := Tryz.underlying384
 a143 := Tryz.isAgg384
 z143 := Tryz.sizeOf384
 v143 := Tryz.zeroValue384
 t145 := Tryz.underlying386
 a145 := Tryz.isAgg386
 z145 := Tryz.sizeOf386
 v145 := Tryz.zeroValue386
 t167 := Tryz.underlying270
 a167 := Tryz.isAgg270
 z167 := Tryz.sizeOf270
 v167 := Tryz.zeroValue270
 t168 := Tryz.underlying273
 a168 := Tryz.isAgg273
 z168 := Tryz.sizeOf273
 v168 := Tryz.zeroValue273
 t171 := Tryz.underlying315
 a171 := Tryz.isAgg315
 z171 := Tryz.sizeOf315
 v171 := Tryz.zeroValue315
 t173 := Tryz.underlying317
 a173 := Tryz.isAgg317
 z173 := Tryz.sizeOf317
 v173 := Tryz.zeroValue317
 t175 := Tryz.underlying337
 a175 := Tryz.isAgg337
 z175 := Tryz.sizeOf337
 v175 := Tryz.zeroValue337
 t210 := Tryz.underlying340
 a210 := Tryz.isAgg340
 z210 := Tryz.sizeOf340
 v210 := Tryz.zeroValue340
 t212 := Tryz.underlying375
 a212 := Tryz.isAgg375
 z212 := Tryz.sizeOf375
 v212 := Tryz.zeroValue375
 t213 := Tryz.underlying376
 a213 := Tryz.isAgg376
 z213 := Tryz.sizeOf376
 t232 := Tryz.underlying440
 a232 := Tryz.isAgg440
 z232 := Tryz.sizeOf440
 v232 := Tryz.zeroValue440
 t233 := Tryz.underlying441
 a233 := Tryz.isAgg441
 z233 := Tryz.sizeOf441
 v233 := Tryz.zeroValue441
 g15 := by kernel_rfl
 g16 := by kernel_rfl
 g17 := by kernel_rfl
 g18 := by kernel_rfl
 g19 := by kernel_rfl
 t80 := Tryz.underlying36
 a80 := Tryz.isAgg36
 z80 := Tryz.sizeOf36
 v80 := Tryz.zeroValue36
 i0 := by kernel_rfl
 i2 := by kernel_rfl
 i3 := by kernel_rfl
 i4 := by kernel_rfl
 i5 := by kernel_rfl
 i9 := by kernel_rfl
 i20 := by kernel_rfl
 i21 := by kernel_rfl
 i37 := by kernel_rfl
 i46 := by kernel_rfl
 i51 := by kernel_rfl
 i53 := by kernel_rfl
 i75 := by kernel_rfl
 i76 := by kernel_rfl
 i80 := by kernel_rfl
 i85 := by kernel_rfl
 i127 := by kernel_rfl
 i143 := by kernel_rfl
 i145 := by kernel_rfl
 i167 := by kernel_rfl
 i168 := by kernel_rfl
 i171 := by kernel_rfl
 i173 := by kernel_rfl
 i175 := by kernel_rfl
 i210 := by kernel_rfl
 i212 := by kernel_rfl
 i232 := by kernel_rfl
 i233 := by kernel_rfl
 m15 := by kernel_rfl
 m16 := by kernel_rfl
 m17 := by kernel_rfl
 m18 := by kernel_rfl
 m19 := by kernel_rfl
 c0 := by kernel_rfl
 c2 := by kernel_rfl
 c3 := by kernel_rfl
 c4 := by kernel_rfl
 c5 := by kernel_rfl
 c9 := by kernel_rfl
 c20 := by kernel_rfl
 c21 := by kernel_rfl
 c37 := by kernel_rfl
 c46 := by kernel_rfl
 c51 := by kernel_rfl
 c53 := by kernel_rfl
 c75 := by kernel_rfl
 c76 := by kernel_rfl
 c80 := by kernel_rfl
 c85 := by kernel_rfl
 c127 := by kernel_rfl
 c143 := by kernel_rfl
 c145 := by kernel_rfl
 c167 := by kernel_rfl
 c168 := by kernel_rfl
 c171 := by kernel_rfl
 c173 := by kernel_rfl
 c175 := by kernel_rfl
 c210 := by kernel_rfl
 c212 := by kernel_rfl
 c213 := by kernel_rfl
 c232 := by kernel_rfl
 c233 := by kernel_rfl }
open Go.RowKit in
theorem Tryz.strconv_Atoi_ok (s : ByteArray) (hmax : s.size ≤ 9223372036854775806) (v : Int) (h : Lib.atoiAll s.data.toList = .ok v) (w : World) :
  Calls Tryz.prog 68 #[.string s] w fun e w' => e = .returned (.tuple #[.int .i64 v, .nilIface]) ∧ (w' = w ∨ ∃ t, w' = Lib.bytesWorld w 5 t) := Any.strconv_Atoi_ok Tryz.laysC172 s hmax v h w
def Tryz.lays145_ren : Go.Shelf.Ren := ⟨fun | 145 => 67 | 220 => 118 | 219 => 177 | 217 => 251 | 225 => 252 | 224 => 253 | 267 => 254 | 266 => 315 | 314 => 316 | n => n, fun | 9 => 9 | 4 => 4 | 59 => 148 | 3 => 3 | 5 => 5 | 46 => 183 | 146 => 381 | 51 => 255 | n => n, fun | 1 => 0 | n => n⟩
theorem Tryz.lays145 : Go.Proofs.Lays.n145 Tryz.prog Tryz.lays145_ren := {
 mixed := by kernel_rfl
 f145 := Tryz.func67.trans (congrArg some (by kernel_rfl))
 f217 := Tryz.func251.trans (congrArg some (by kernel_rfl))
 f219 := Tryz.func177.trans (congrArg some (by kernel_rfl))
 f220 := Tryz.func118.trans (congrArg some (by kernel_rfl))
 f224 := Tryz.func253.trans (congrArg some (by kernel_rfl))
 f225 := Tryz.func252.trans (congrArg some (by kernel_rfl))
 f266 := Tryz.func315.trans (congrArg some (by kernel_rfl))
 f267 := Tryz.func254.trans (congrArg some (by kernel_rfl))
 f314 := Tryz.func316.trans (congrArg some (by kernel_rfl))
 t3 := Tryz.underlying3
 a3 := Tryz.isAgg3
 z3 := Tryz.sizeOf3
 v3 := Tryz.zeroValue3
 t4 := Tryz.underlying4
 a4 := Tryz.isAgg4
 z4 := Tryz.sizeOf4
 v4 := Tryz.zeroValue4
 t5 := Tryz.underlying5
 a5 := Tryz.isAgg5
 z5 := Tryz.sizeOf5
 v5 := Tryz.zeroValue5
 t9 := Tryz.underlying9
 a9 := Tryz.isAgg9
 z9 := Tryz.sizeOf9
 v9 := Tryz.zeroValue9
 t46 := Tryz.underlying183
 a46 := Tryz.isAgg183
 z46 := Tryz.sizeOf183
 v46 := Tryz.zeroValue183
 t51 := Tryz.underlying255
 a51 := Tryz.isAgg255
 z51 := Tryz.sizeOf255
 v51 := Tryz.zeroValue255
 t59 := Tryz.underlying148
 a59 := Tryz.isAgg148
 z59 := Tryz.sizeOf148
 v59 := Tryz.zeroValue148
 t146 := Tryz.underlying381
 a146 := Tryz.isAgg381
 z146 := Tryz.sizeOf381
 v146 := Tryz.zeroValue381
 g1 := by kernel_rfl }
open Go.RowKit Go.Lib in
theorem Tryz.strings_Cut (s sep : ByteArray) (m : Int) (w : World) (hs : s.size < 4294967281) (hm : w.cell? ⟨0, 0, none⟩ = some (.int .i64 m)) :
  Calls Tryz.prog 67 #[.string s, .string sep] w fun e w' => e = .returned (.tuple #[.string ⟨(Lib.cut s.data.toList sep.data.toList).1.toArray⟩, .string ⟨(Lib.cut s.data.toList sep.data.toList).2.1.toArray⟩, .bool (Lib.cut s.data.toList sep.data.toList).2.2]) ∧ ∃ n, w' = w.drewN n := Any.strings_Cut Tryz.lays145 s sep m w hs hm
def Tryz.lays146_ren : Go.Shelf.Ren := ⟨fun | 146 => 72 | 221 => 123 | 268 => 185 | 138 => 186 | 143 => 187 | 195 => 265 | 197 => 235 | 218 => 266 | 219 => 177 | 260 => 303 | 217 => 251 | 225 => 252 | 224 => 253 | 267 => 254 | 266 => 315 | 314 => 316 | n => n, fun | 9 => 9 | 31 => 58 | 3 => 3 | 4 => 4 | 0 => 0 | 105 => 319 | 21 => 21 | 5 => 5 | 46 => 183 | 119 => 405 | 139 => 408 | 138 => 407 | 146 => 381 | 51 => 255 | n => n, fun | 1 => 0 | 3 => 4 | 4 => 5 | n => n⟩
theorem Tryz.lays146 : Go.Proofs.Lays.n146 Tryz.prog Tryz.lays146_ren := {
 mixed := by kernel_rfl
 f138 := Tryz.func186.trans (congrArg some (by kernel_rfl))
 f143 := Tryz.func187.trans (congrArg some (by kernel_rfl))
 f146 := Tryz.func72.trans (congrArg some (by kernel_rfl))
 f195 := Tryz.func265.trans (congrArg some (by kernel_rfl))
 f197 := Tryz.func235.trans (congrArg some (by kernel_rfl))
 f217 := Tryz.func251.trans (congrArg some (by kernel_rfl))
 f218 := Tryz.func266.trans (congrArg some (by kernel_rfl))
 f219 := Tryz.func177.trans (congrArg some (by kernel_rfl))
 f221 := Tryz.func123.trans (congrArg some (by kernel_rfl))
 f224 := Tryz.func253.trans (congrArg some (by kernel_rfl))
 f225 := Tryz.func252.trans (congrArg some (by kernel_rfl))
 f260 := Tryz.func303.trans (congrArg some (by kernel_rfl))
 f266 := Tryz.func315.trans (congrArg some (by kernel_rfl))
 f267 := Tryz.func254.trans (congrArg some (by kernel_rfl))
 f268 := Tryz.func185.trans (congrArg some (by kernel_rfl))
 f314 := Tryz.func316.trans (congrArg some (by kernel_rfl))
 t0 := Tryz.underlying0
 a0 := Tryz.isAgg0
 z0 := Tryz.sizeOf0
 v0 := Tryz.zeroValue0
 t3 := Tryz.underlying3
 a3 := Tryz.isAgg3
 z3 := Tryz.sizeOf3
 v3 := Tryz.zeroValue3
 t4 := Tryz.underlying4
 a4 := Tryz.isAgg4
 z4 := Tryz.sizeOf4
 v4 := Tryz.zeroValue4
 t5 := Tryz.underlying5
 a5 := Tryz.isAgg5
 z5 := Tryz.sizeOf5
 v5 := Tryz.zeroValue5
 t9 := Tryz.underlying9
 a9 := Tryz.isAgg9
 z9 := Tryz.sizeOf9
 v9 := Tryz.zeroValue9
 t21 := Tryz.underlying21
 a21 := Tryz.isAgg21
 z21 := Tryz.sizeOf21
 v21 := Tryz.zeroValue21
 t31 := Tryz.underlying58
 a31 := Tryz.isAgg58
 z31 := Tryz.sizeOf58
 v31 := Tryz.zeroValue58
 t46 := Tryz.underlying183
 a46 := Tryz.isAgg183
 z46 := Tryz.sizeOf183
 v46 := Tryz.zeroValue183
 t51 := Tryz.underlying255
 a51 := Tryz.isAgg255
 z51 := Tryz.sizeOf255
 v51 := Tryz.zeroValue255
 t105 := Tryz.underlying319
 a105 := Tryz.isAgg319
 z105 := Tryz.sizeOf319
 v105 := Tryz.zeroValue319
 t119 := Tryz.underlying405
 a119 := Tryz.isAgg405
 z119 := Tryz.sizeOf405
 t138 := Tryz.underlying407
 a138 := Tryz.isAgg407
 z138 := Tryz.sizeOf407
 v138 := Tryz.zeroValue407
 t139 := Tryz.underlying408
 a139 := Tryz.isAgg408
 z139 := Tryz.sizeOf408
 v139 := Tryz.zeroValue408
 t146 := Tryz.underlying381
 a146 := Tryz.isAgg381
 z146 := Tryz.sizeOf381
 v146 := Tryz.zeroValue381
 g1 := by kernel_rfl
 g3 := by kernel_rfl
 g4 := by kernel_rfl }
open Go.RowKit Go.Lib in
theorem Tryz.strings_Split (s sep : ByteArray) (m : Int) (w : World) (hs : s.size < 4294967281) (hm : w.cell? ⟨0, 0, none⟩ = some (.int .i64 m)) (h1 : 1 ≤ sep.size) :
  Calls Tryz.prog 72 #[.string s, .string sep] w fun e w' =>
   e = .returned (.slice (some ⟨w.heap.size, 0, none⟩) (Lib.countB s sep + 1) (Lib.countB s sep + 1)) ∧ w' = w.alloc (.cells ((Lib.splitB sep 0 (Lib.countB s sep) s).map Value.string).toArray 9) := Any.strings_Split Tryz.lays146 (by kernel_rfl) s sep m w hs hm h1
def Tryz.lays155_ren : Go.Shelf.Ren := ⟨fun | 155 => 107 | 154 => 168 | 138 => 186 | 165 => 110 | 143 => 187 | 166 => 34 | 197 => 235 | 169 => 36 | 195 => 265 | 218 => 266 | 240 => 61 | 241 => 173 | 219 => 177 | 260 => 303 | 276 => 114 | 277 => 241 | 217 => 251 | 225 => 252 | 224 => 253 | 267 => 254 | 266 => 315 | 314 => 316 | n => n, fun | 9 => 9 | 3 => 3 | 4 => 4 | 72 => 89 | 0 => 0 | 76 => 95 | 105 => 319 | 21 => 21 | 5 => 5 | 70 => 86 | 20 => 20 | 37 => 87 | 75 => 94 | 127 => 142 | 164 => 199 | 46 => 183 | 119 => 405 | 139 => 408 | 138 => 407 | 146 => 381 | 51 => 255 | 80 => 36 | n => n, fun | 1 => 0 | 3 => 4 | 4 => 5 | n => n⟩
theorem Tryz.lays155 : Go.Proofs.Lays.n155 Tryz.prog Tryz.lays155_ren := {
 mixed := by kernel_rfl
 f138 := Tryz.func186.trans (congrArg some (by kernel_rfl))
 f143 := Tryz.func187.trans (congrArg some (by kernel_rfl))
 f154 := Tryz.func168.trans (congrArg some (by kernel_rfl))
 f155 := Tryz.func107.trans (congrArg some (by kernel_rfl))
 f165 := Tryz.func110.trans (congrArg some (by kernel_rfl))
 f166 := Tryz.func34.trans (congrArg some (by kernel_rfl))
 f169 := Tryz.func36.trans (congrArg some (by kernel_rfl))
 f195 := Tryz.func265.trans (congrArg some (by kernel_rfl))
 f197 := Tryz.func235.trans (congrArg some (by kernel_rfl))
 f217 := Tryz.func251.trans (congrArg some (by kernel_rfl))
 f218 := Tryz.func266.trans (congrArg some (by kernel_rfl))
 f219 := Tryz.func177.trans (congrArg some (by kernel_rfl))
 f224 := Tryz.func253.trans (congrArg some (by kernel_rfl))
 f225 := Tryz.func252.trans (congrArg some (by kernel_rfl))
 f240 := Tryz.func61.trans (congrArg some (by kernel_rfl))
 f241 := Tryz.func173.trans (congrArg some (by kernel_rfl))
 f260 := Tryz.func303.trans (congrArg some (by kernel_rfl))
 f266 := Tryz.func315.trans (congrArg some (by kernel_rfl))
 f267 := Tryz.func254.trans (congrArg some (by kernel_rfl))
 f276 := Tryz.func114.trans (congrArg some (by kernel_rfl))
 f277 := Tryz.func241.trans (congrArg some (by kernel_rfl))
 f314 := Tryz.func316.trans (congrArg some (by kernel_rfl))
 t0 := Tryz.underlying0
 a0 := Tryz.isAgg0
 z0 := Tryz.sizeOf0
 v0 := Tryz.zeroValue0
 t3 := Tryz.underlying3
 a3 := Tryz.isAgg3
 z3 := Tryz.sizeOf3
 v3 := Tryz.zeroValue3
 t4 := Tryz.underlying4
 a4 := Tryz.isAgg4
 z4 := Tryz.sizeOf4
 v4 := Tryz.zeroValue4
 t5 := Tryz.underlying5
 a5 := Tryz.isAgg5
 z5 := Tryz.sizeOf5
 v5 := Tryz.zeroValue5
 t9 := Tryz.underlying9
 a9 := Tryz.isAgg9
 z9 := Tryz.sizeOf9
 v9 := Tryz.zeroValue9
 t20 := Tryz.underlying20
 a20 := Tryz.isAgg20
 z20 := Tryz.sizeOf20
 v20 := Tryz.zeroValue20
 t21 := Tryz.underlying21
 a21 := Tryz.isAgg21
 z21 := Tryz.sizeOf21
 v21 := Tryz.zeroValue21
 t37 := Tryz.underlying87
 a37 := Tryz.isAgg87
 z37 := Tryz.sizeOf87
 v37 := Tryz.zeroValue87
 t46 := Tryz.underlying183
 a46 := Tryz.isAgg183
 z46 := Tryz.sizeOf183
 v46 := Tryz.zeroValue183
 t51 := Tryz.underlying255
 a51 := Tryz.isAgg255
 z51 := Tryz.sizeOf255
 v51 := Tryz.zeroValue255
 t70 := Tryz.underlying86
 a70 := Tryz.isAgg86
 z70 := Tryz.sizeOf86
 v70 := Tryz.zeroValue86
 t72 := Tryz.underlying89
 a72 := Tryz.isAgg89
 z72 := Tryz.sizeOf89
 v72 := Tryz.zeroValue89
 t75 := Tryz.underlying94
 a75 := Tryz.isAgg94
 z75 := Tryz.sizeOf94
 v75 := Tryz.zeroValue94
 t76 := Tryz.underlying95
 a76 := Tryz.isAgg95
 z76 := Tryz.sizeOf95
 v76 := Tryz.zeroValue95
 t105 := Tryz.underlying319
 a105 := Tryz.isAgg319
 z105 := Tryz.sizeOf319
 v105 := Tryz.zeroValue319
 t119 := Tryz.underlying405
 a119 := Tryz.isAgg405
 z119 := Tryz.sizeOf405
 t127 := Tryz.underlying142
 a127 := Tryz.isAgg142
 z127 := Tryz.sizeOf142
 v127 := Tryz.zeroValue142
 t138 := Tryz.underlying407
 a138 := Tryz.isAgg407
 z138 := Tryz.sizeOf407
 v138 := Tryz.zeroValue407
 t139 := Tryz.underlying408
 a139 := Tryz.isAgg408
 z139 := Tryz.sizeOf408
 v139 := Tryz.zeroValue408
 t146 := Tryz.underlying381
 a146 := Tryz.isAgg381
 z146 := Tryz.sizeOf381
 v146 := Tryz.zeroValue381
 t164 := Tryz.underlying199
 a164 := Tryz.isAgg199
 z164 := Tryz.sizeOf199
 v164 := Tryz.zeroValue199
 g1 := by kernel_rfl
 g3 := by kernel_rfl
 g4 := by kernel_rfl }
theorem Tryz.Builder_Extra_155 : Builder.Extra Tryz.prog Tryz.lays155_ren := {
 sizeBuilder := by kernel_rfl
 liesBuilder := by kernel_rfl
 t5 := Tryz.underlying5
 a5 := Tryz.isAgg5
 z5 := Tryz.sizeOf5
 v5 := Tryz.zeroValue5
 infoByte := by kernel_rfl
 cellsByte := by kernel_rfl
 sizeByte := by kernel_rfl
 neB5 := by decide }
open Go.RowKit Go.Lib in
theorem Tryz.strings_ReplaceAll (s old new : ByteArray) (m : Int) (w : World) (hs : s.size < 4294967281) (hm : w.cell? ⟨0, 0, none⟩ = some (.int .i64 m)) (h1 : 1 ≤ old.size) (hlen : s.size + Lib.countB s old * new.size ≤ 140737488355328) :
  Calls Tryz.prog 107 #[.string s, .string old, .string new] w fun e w' =>
   e = .returned (.string ⟨(Lib.replaceAll s.data.toList old.data.toList new.data.toList).toArray⟩) ∧ Below w.heap.size w w' := Any.strings_ReplaceAll Tryz.lays155 Tryz.Builder_Extra_155 s old new m w hs hm h1 hlen
def Tryz.lays153_ren : Go.Shelf.Ren := ⟨fun | 153 => 319 | 152 => 359 | 226 => 360 | 227 => 361 | 228 => 362 | 137 => 320 | 119 => 396 | 224 => 253 | 225 => 252 | 217 => 251 | 266 => 315 | n => n, fun | 9 => 9 | 3 => 3 | 4 => 4 | 5 => 5 | 21 => 21 | 117 => 416 | 116 => 415 | 0 => 0 | 46 => 183 | 124 => 445 | n => n, fun | n => n⟩
theorem Tryz.lays153 : Go.Proofs.Lays.n153 Tryz.prog Tryz.lays153_ren := {
 mixed := by kernel_rfl
 f119 := Tryz.func396.trans (congrArg some (by kernel_rfl))
 f137 := Tryz.func320.trans (congrArg some (by kernel_rfl))
 f152 := Tryz.func359.trans (congrArg some (by kernel_rfl))
 f153 := Tryz.func319.trans (congrArg some (by kernel_rfl))
 f217 := Tryz.func251.trans (congrArg some (by kernel_rfl))
 f224 := Tryz.func253.trans (congrArg some (by kernel_rfl))
 f225 := Tryz.func252.trans (congrArg some (by kernel_rfl))
 f226 := Tryz.func360.trans (congrArg some (by kernel_rfl))
 f227 := Tryz.func361.trans (congrArg some (by kernel_rfl))
 f228 := Tryz.func362.trans (congrArg some (by kernel_rfl))
 f266 := Tryz.func315.trans (congrArg some (by kernel_rfl))
 t0 := Tryz.underlying0
 a0 := Tryz.isAgg0
 z0 := Tryz.sizeOf0
 v0 := Tryz.zeroValue0
 t3 := Tryz.underlying3
 a3 := Tryz.isAgg3
 z3 := Tryz.sizeOf3
 v3 := Tryz.zeroValue3
 t4 := Tryz.underlying4
 a4 := Tryz.isAgg4
 z4 := Tryz.sizeOf4
 v4 := Tryz.zeroValue4
 t5 := Tryz.underlying5
 a5 := Tryz.isAgg5
 z5 := Tryz.sizeOf5
 v5 := Tryz.zeroValue5
 t9 := Tryz.underlying9
 a9 := Tryz.isAgg9
 z9 := Tryz.sizeOf9
 v9 := Tryz.zeroValue9
 t21 := Tryz.underlying21
 a21 := Tryz.isAgg21
 z21 := Tryz.sizeOf21
 v21 := Tryz.zeroValue21
 t46 := Tryz.underlying183
 a46 := Tryz.isAgg183
 z46 := Tryz.sizeOf183
 v46 := Tryz.zeroValue183
 t116 := Tryz.underlying415
 a116 := Tryz.isAgg415
 z116 := Tryz.sizeOf415
 t117 := Tryz.underlying416
 a117 := Tryz.isAgg416
 z117 := Tryz.sizeOf416
 v117 := Tryz.zeroValue416
 t124 := Tryz.underlying445
 a124 := Tryz.isAgg445
 z124 := Tryz.sizeOf445
 v124 := Tryz.zeroValue445 }
open Go.RowKit Go.Lib in
theorem Tryz.strings_IndexAny_laid (s chars : ByteArray) (w : World) (hs : s.size < 4294967281) (hcs : chars.size < 4294967281) (has : ∀ (j : Nat) b, s.data.toList[j]? = some b → b.toNat < 128) (hac : ∀ (j : Nat) b, chars.data.toList[j]? = some b → b.toNat < 128) :
  Calls Tryz.prog 319 #[.string s, .string chars] w fun e w' => e = .returned (.int .i64 (Lib.indexAny s.data.toList chars.data.toList)) ∧ Below w.heap.size w w' := Any.strings_IndexAny_laid Tryz.lays153 (by kernel_rfl) s chars w hs hcs has hac
def Tryz.laysNm215_ren : Go.Shelf.Ren := ⟨fun | 15 => 98 | n => n, fun | 22 => 28 | 3 => 3 | 4 => 4 | n => n, fun | n => n⟩
theorem Tryz.laysNm215 : Go.Proofs.Lays2.n15 Tryz.prog Tryz.laysNm215_ren := {
 mixed := by kernel_rfl
 f15 := Tryz.func98.trans (congrArg some (by kernel_rfl))
 t3 := Tryz.underlying3
 a3 := Tryz.isAgg3
 z3 := Tryz.sizeOf3
 v3 := Tryz.zeroValue3
 t4 := Tryz.underlying4
 a4 := Tryz.isAgg4
 z4 := Tryz.sizeOf4
 v4 := Tryz.zeroValue4
 t22 := Tryz.underlying28
 a22 := Tryz.isAgg28
 z22 := Tryz.sizeOf28
 v22 := Tryz.zeroValue28
 i3 := by kernel_rfl }
open Go.RowKit Go.Lib in
theorem Tryz.slices_Clone_int (b off n c : Nat) (zs : List Int) (w : World) (hz : n ≤ zs.length) (hbig : n * 8 ≤ 140737488355328) (hc : ∀ j, j < zs.length → w.cell? ⟨b, off + j, none⟩ = some (.int .i64 (zs.getD j 0))) :
  Calls Tryz.prog 98 #[.slice (some ⟨b, off, none⟩) n c] w fun e w' => ∃ v', e = .returned v' ∧ w'.ownsRow w.heap.size 3 1 v' n ((zs.take n).map (Value.int .i64)) ∧ v' ≠ .slice none 0 0 ∧ Below w.heap.size w w' := Any.slices_Clone_int Tryz.laysNm215 b off n c zs w hz hbig hc
open Go.RowKit Go.Lib in
theorem Tryz.slices_Clone_int_nil (n c : Nat) (w : World) :
  Calls Tryz.prog 98 #[.slice none n c] w fun e w' => e = .returned (.slice none 0 0) ∧ w' = w := Any.slices_Clone_int_nil Tryz.laysNm215 n c w
def Tryz.laysNm216_ren : Go.Shelf.Ren := ⟨fun | 16 => 163 | n => n, fun | 24 => 58 | 9 => 9 | 4 => 4 | n => n, fun | n => n⟩
theorem Tryz.laysNm216 : Go.Proofs.Lays2.n16 Tryz.prog Tryz.laysNm216_ren := {
 mixed := by kernel_rfl
 f16 := Tryz.func163.trans (congrArg some (by kernel_rfl))
 t4 := Tryz.underlying4
 a4 := Tryz.isAgg4
 z4 := Tryz.sizeOf4
 v4 := Tryz.zeroValue4
 t9 := Tryz.underlying9
 a9 := Tryz.isAgg9
 z9 := Tryz.sizeOf9
 v9 := Tryz.zeroValue9
 t24 := Tryz.underlying58
 a24 := Tryz.isAgg58
 z24 := Tryz.sizeOf58
 v24 := Tryz.zeroValue58
 i9 := by kernel_rfl }
open Go.RowKit Go.Lib in
theorem Tryz.slices_Clone_string_nil (n c : Nat) (w : World) :
  Calls Tryz.prog 163 #[.slice none n c] w fun e w' => e = .returned (.slice none 0 0) ∧ w' = w := Any.slices_Clone_string_nil Tryz.laysNm216 n c w
open Go.RowKit Go.Lib in
theorem Tryz.slices_Clone_int_zero (a : Addr) (c : Nat) (w : World) :
  Calls Tryz.prog 98 #[.slice (some a) 0 c] w fun e w' => ∃ v', e = .returned v' ∧ w'.ownsRow w.heap.size 3 1 v' 0 [] ∧ v' ≠ .slice none 0 0 ∧ Below w.heap.size w w' := Any.slices_Clone_int_zero Tryz.laysNm215 a c w
open Go.RowKit Go.Lib in
theorem Tryz.slices_Clone_string_zero (a : Addr) (c : Nat) (w : World) :
  Calls Tryz.prog 163 #[.slice (some a) 0 c] w fun e w' => ∃ v', e = .returned v' ∧ w'.ownsRow w.heap.size 9 1 v' 0 [] ∧ v' ≠ .slice none 0 0 ∧ Below w.heap.size w w' := Any.slices_Clone_string_zero Tryz.laysNm216 a c w
def Tryz.laysSlM5_f46_ren : Go.Shelf.Ren := ⟨fun | 5 => 46 | 8 => 95 | 7 => 94 | 19 => 161 | 20 => 162 | 10 => 152 | 11 => 153 | 12 => 154 | 13 => 155 | 14 => 156 | 15 => 157 | 16 => 158 | 17 => 159 | 18 => 160 | 30 => 223 | 31 => 224 | 32 => 225 | 33 => 226 | 34 => 227 | 35 => 228 | 40 => 298 | n => n, fun | 23 => 28 | 25 => 3 | 3 => 3 | 32 => 183 | 22 => 28 | 0 => 0 | 44 => 255 | 46 => 257 | 4 => 4 | 36 => 249 | 35 => 248 | 41 => 105 | 5 => 5 | 9 => 9 | 53 => 308 | 57 => 312 | 63 => 371 | 64 => 372 | n => n, fun | n => n⟩
theorem Tryz.laysSlM5_f46 : Go.Proofs.SlLaysM.n5 Tryz.prog Tryz.laysSlM5_f46_ren := {
 mixed := by kernel_rfl
 f5 := ⟨Tryz.f46.name, by decide, Tryz.func46.trans (congrArg some (by kernel_rfl))⟩
 f7 := ⟨Tryz.f94.name, by decide, Tryz.func94.trans (congrArg some (by kernel_rfl))⟩
 f8 := Tryz.func95.trans (congrArg some (by kernel_rfl))
 f10 := ⟨Tryz.f152.name, by decide, Tryz.func152.trans (congrArg some (by kernel_rfl))⟩
 f11 := ⟨Tryz.f153.name, by decide, Tryz.func153.trans (congrArg some (by kernel_rfl))⟩
 f12 := ⟨Tryz.f154.name, by decide, Tryz.func154.trans (congrArg some (by kernel_rfl))⟩
 f13 := ⟨Tryz.f155.name, by decide, Tryz.func155.trans (congrArg some (by kernel_rfl))⟩
 f14 := ⟨Tryz.f156.name, by decide, Tryz.func156.trans (congrArg some (by kernel_rfl))⟩
 f15 := ⟨Tryz.f157.name, by decide, Tryz.func157.trans (congrArg some (by kernel_rfl))⟩
 f16 := ⟨Tryz.f158.name, by decide, Tryz.func158.trans (congrArg some (by kernel_rfl))⟩
 f17 := ⟨Tryz.f159.name, by decide, Tryz.func159.trans (congrArg some (by kernel_rfl))⟩
 f18 := ⟨Tryz.f160.name, by decide, Tryz.func160.trans (congrArg some (by kernel_rfl))⟩
 f19 := Tryz.func161.trans (congrArg some (by kernel_rfl))
 f20 := Tryz.func162.trans (congrArg some (by kernel_rfl))
 f30 := ⟨Tryz.f223.name, by decide, Tryz.func223.trans (congrArg some (by kernel_rfl))⟩
 f31 := Tryz.func224.trans (congrArg some (by kernel_rfl))
 f32 := Tryz.func225.trans (congrArg some (by kernel_rfl))
 f33 := ⟨Tryz.f226.name, by decide, Tryz.func226.trans (congrArg some (by kernel_rfl))⟩
 f34 := ⟨Tryz.f227.name, by decide, Tryz.func227.trans (congrArg some (by kernel_rfl))⟩
 f35 := ⟨Tryz.f228.name, by decide, Tryz.func228.trans (congrArg some (by kernel_rfl))⟩
 f40 := ⟨Tryz.f298.name, by decide, Tryz.func298.trans (congrArg some (by kernel_rfl))⟩
 t0 := Tryz.underlying0
 a0 := Tryz.isAgg0
 z0 := Tryz.sizeOf0
 v0 := Tryz.zeroValue0
 t3 := Tryz.underlying3
 a3 := Tryz.isAgg3
 z3 := Tryz.sizeOf3
 v3 := Tryz.zeroValue3
 t4 := Tryz.underlying4
 a4 := Tryz.isAgg4
 z4 := Tryz.sizeOf4
 v4 := Tryz.zeroValue4
 t5 := Tryz.underlying5
 a5 := Tryz.isAgg5
 z5 := Tryz.sizeOf5
 v5 := Tryz.zeroValue5
 t9 := Tryz.underlying9
 a9 := Tryz.isAgg9
 z9 := Tryz.sizeOf9
 v9 := Tryz.zeroValue9
 t22 := Tryz.underlying28
 a22 := Tryz.isAgg28
 z22 := Tryz.sizeOf28
 v22 := Tryz.zeroValue28
 t23 := Tryz.underlying28
 a23 := Tryz.isAgg28
 z23 := Tryz.sizeOf28
 v23 := Tryz.zeroValue28
 t25 := Tryz.underlying3
 a25 := Tryz.isAgg3
 z25 := Tryz.sizeOf3
 v25 := Tryz.zeroValue3
 t32 := Tryz.underlying183
 a32 := Tryz.isAgg183
 z32 := Tryz.sizeOf183
 v32 := Tryz.zeroValue183
 t35 := Tryz.underlying248
 a35 := Tryz.isAgg248
 z35 := Tryz.sizeOf248
 v35 := Tryz.zeroValue248
 t36 := Tryz.underlying249
 a36 := Tryz.isAgg249
 z36 := Tryz.sizeOf249
 v36 := Tryz.zeroValue249
 t41 := Tryz.underlying105
 a41 := Tryz.isAgg105
 z41 := Tryz.sizeOf105
 v41 := Tryz.zeroValue105
 t44 := Tryz.underlying255
 a44 := Tryz.isAgg255
 z44 := Tryz.sizeOf255
 v44 := Tryz.zeroValue255
 t46 := Tryz.underlying257
 a46 := Tryz.isAgg257
 z46 := Tryz.sizeOf257
 v46 := Tryz.zeroValue257
 t53 := Tryz.underlying308
 a53 := Tryz.isAgg308
 z53 := Tryz.sizeOf308
 v53 := Tryz.zeroValue308
 t57 := Tryz.underlying312
 a57 := Tryz.isAgg312
 z57 := Tryz.sizeOf312
 v57 := Tryz.zeroValue312
 t63 := Tryz.underlying371
 a63 := Tryz.isAgg371
 z63 := Tryz.sizeOf371
 v63 := Tryz.zeroValue371
 t64 := Tryz.underlying372
 a64 := Tryz.isAgg372
 z64 := Tryz.sizeOf372
 v64 := Tryz.zeroValue372 }
open Go.Sort Go.RowKit in
theorem Tryz.slices_Sort_int (blk off cap : Nat) (zs : List Int) (w : World) (hH : Holds (Value.int .i64) w blk off zs.toArray) (hblk : blk < w.heap.size) (hsz : zs.length < 4611686018427387904) :
  Calls Tryz.prog 46 #[.slice (some ⟨blk, off, none⟩) zs.length cap] w fun e w' =>
   e = .returned (.tuple #[]) ∧ ∃ n os, w' = grow (putRow (Value.int .i64) (Sort.ahead w n) blk off (zs.mergeSort fun x y => decide (x ≤ y)).toArray) os := AnyM.slices_Sort_int Tryz.laysSlM5_f46 blk off cap zs w hH hblk hsz
open Go.RowKit Go.Sort in
theorem Tryz.slices_Sort_int_none (p : Option Addr) (cap : Nat) (w : World) :
  Calls Tryz.prog 46 #[.slice p 0 cap] w fun e w' => e = .returned (.tuple #[]) ∧ w' = w := AnyM.slices_Sort_int_none Tryz.laysSlM5_f46 p cap w
end Go.Proofs
namespace Go.Proofs.YtclaplngjmgnoaaGreatDoor
open Go.RowKit Go.V
open Go.Sort (grow)
open Go.Eng (inR byteAt u8 d8)
variable {g : Gv}
theorem v7 {a b : Bool} (h : a = b) : (SV.c (cB a) : SV) = .c (cB b) := by rw [h]
theorem b9 {f : FuncId} {ins : List SV} {refs : bI} {out : SV} {post post' : bI} (h : SpG g f ins refs out post) (e : lookO post = lookO post') : SpG g f ins refs out post' := by
 unfold SpG V.Spec at *
 rw [← e]
 exact h
theorem tX : mW Tryz.prog 114 := ⟨_, Tryz.func114, by kernel_rfl, by kernel_rfl, by kernel_rfl, by kernel_rfl⟩
theorem bQ {α : Type} {l : List α} {k : Nat} {z : α} (h : k < l.length) : l.getD k z ∈ l := by simp [h]
def xR (c : UInt8) : List UInt8 := if c = 39 then [39, 39] else [c]
def cU (l : List UInt8) : List UInt8 := l.flatMap xR
def zq0 := And.intro @List.length_append.{0} (@List.length_cons.{0})
theorem mI : ∀ (l : List UInt8), (cU l).length ≤ 2 * l.length
 | [] => by simp [cU]
 | c :: l => by
  have := mI l
  have h1 : (xR c).length ≤ 2 := by unfold xR; split <;> simp
  simp only [zq0, cU, List.flatMap_cons] at this ⊢
  omega
theorem gM (l : List UInt8) (a b : Nat) : (S l).extract a b = S ((l.take b).drop a) := by
 apply ByteArray.ext
 rw [ByteArray.data_extract]
 apply Array.ext'
 simp [S, List.drop_take, List.extract_eq_take_drop]
def joinL (sep : List UInt8) : List (List UInt8) → List UInt8
 | [] => []
 | [x] => x
 | x :: y :: r => x ++ sep ++ joinL sep (y :: r)
def kN (sep : Nat) (l : List (List UInt8)) : Nat := (l.map fun x => x.length + sep).sum
theorem hJ (sep : List UInt8) : ∀ (l : List (List UInt8)), (joinL sep l).length ≤ kN sep.length l
 | [] => by simp [joinL, kN]
 | [x] => by simp [joinL, kN]
 | x :: y :: r => by
  have := hJ sep (y :: r)
  simp only [joinL, kN, List.map_cons, List.sum_cons, List.length_append] at this ⊢
  omega
theorem dP {α : Type} (z : α) {l : List α} {k : Nat} (h : k < l.length) : l.take (k + 1) = l.take k ++ [l.getD k z] := by
 rw [List.take_add_one, List.getD_eq_getElem?_getD, List.getElem?_eq_getElem h]; rfl
theorem tB {α : Type} (z : α) {f : α → List UInt8} {l : List α} {k : Nat} (h : k < l.length) : strs ((l.take (k + 1)).map f) = strs ((l.take k).map f) ++ [[D.s (S (f (l.getD k z)))]] := by
 rw [dP z h]; simp [strs, d5]
theorem mZ (l : List (List UInt8)) (x : List UInt8) : strs (l ++ [x]) = strs l ++ [[D.s (S x)]] := by simp [strs, d5]
theorem aN2 (l : List UInt8) (i j : Nat) : (S l).extract i j = S ((l.take j).drop i) := by
 have : ((S l).extract i j).data = (S ((l.take j).drop i)).data := by simp [S, ByteArray.data_extract, List.drop_take]
 cases h1 : (S l).extract i j; cases h2 : S ((l.take j).drop i); rw [h1, h2] at this; simpa using this
theorem cR (l : List UInt8) : (S l).data.toList = l := by simp [S]
theorem lH (a b : List UInt8) : bytesD (a ++ b) = bytesD a ++ bytesD b := by simp [bytesD]
theorem xA (sep : List UInt8) : ∀ l : List (List UInt8), Lib.join l sep = joinL sep l
 | [] => rfl
 | [x] => by simp [Lib.join, joinL, List.intercalate]
 | x :: y :: r => by
  have := xA sep (y :: r)
  simp only [Lib.join, joinL, List.intercalate, List.intersperse, List.flatten_cons] at this ⊢
  rw [this]
  simp
theorem join_ok (l : List (List UInt8)) (sep : List UInt8) (h : kN sep.length l ≤ 1000000000) (hl : l.length ≤ 1000000) : SpG g 57 [.c (cM 1 (strs l)), .c (cS (S sep))] [] (.c (cS (S (joinL sep l)))) [] := by
 intro fr w pl args hw hG m ha
 obtain ⟨v, r, rfl, h1, h2⟩ := ha.uncons
 obtain ⟨u, r', rfl, h3, h4⟩ := h2.uncons
 rw [h4.unnil]
 have hu : u = .string (S sep) := Rd.exact h3
 subst hu
 have fin : (Calls Tryz.prog 57 #[v, .string (S sep)] w fun e w' => e = .returned (.string (S (joinL sep l))) ∧ Below w.heap.size w w') → Calls Tryz.prog 57 [v, .string (S sep)].toArray w fun e w' => ∃ v pl', e = .returned v ∧ Mem fr (lookO []) w' pl' ∧ bC w' pl' (lookO []) (.c (cS (S (joinL sep l)))) v := by
  intro hc
  refine Calls.mono hc ?_
  rintro e w' ⟨rfl, hb⟩
  obtain ⟨m', L⟩ := m.ext (w' := w') ⟨hb.os, hb.tape, hb.output, hb.size, fun k hk _ => hb.block k hk⟩
  exact ⟨_, pl, rfl, m', Rd.v _ rfl⟩
 refine fin ?_
 have h1 : Rd w (Sh pl (lookO [])) (.sl 1 (strs l)) v := h1
 generalize hes : strs l = es at h1
 cases h1 with
 | nil =>
  have : l = [] := by simpa [strs] using hes
  subst this
  exact (Tryz.strings_Join_none none 0 (S sep) w).mono fun _ _ ⟨a, b⟩ => ⟨a, by rw [b]; exact Below.refl _ _⟩
 | far _ ad =>
  have : l = [] := by simpa [strs] using hes
  subst this
  exact (Tryz.strings_Join_none (some ad) 0 (S sep) w).mono fun _ _ ⟨a, b⟩ => ⟨a, by rw [b]; exact Below.refl _ _⟩
 | sl us hF hb hc hm hs hu hr =>
  rename_i b off c cs e fz
  subst hes
  have hlen : (strs l).length = l.length := by simp [strs]
  have hj := hJ sep l
  have e1 : (l.map S).map (fun x : ByteArray => x.data.toList) = l := by
   rw [List.map_map]
   exact (List.map_congr_left fun x _ => by simp [S]).trans (List.map_id l)
  have e2 : (S sep).data.toList = sep := by simp [S]
  have := Tryz.strings_Join b off c (l.map S) (S sep) w (fun j x hx => by
    simp only [List.getElem?_map, Option.map_eq_some_iff] at hx
    obtain ⟨t, ht, rfl⟩ := hx
    have a1 : (strs l)[j]? = some [.s (S t)] := by simp [strs, d5, ht]
    have a2 := hu j 0 _ _ a1 rfl
    have a3 := Rd.exact (hr j 0 _ _ a1 rfl)
    rw [a3] at a2
    rw [Lib.cell_of_heap hb]
    simpa using a2) (Array.getElem?_eq_some_iff.1 hb).1 (by rw [List.length_map]; omega) (by rw [List.length_map, ← hlen]; exact hc) (by rw [e1, e2, xA]; omega)
  rw [e1, e2, xA, List.length_map] at this
  rw [hlen]
  exact this
theorem aEX : ∀ s : List UInt8, Lib.replaceK [39] [39, 39] (Lib.count s [39]) s = cU s
 | [] => by rw [Lib.count_one]; rfl
 | b :: l => by
  have ih := aEX l
  by_cases hb : b = 39
  subst hb
  rw [Lib.count_cons_eq, Nat.add_comm, Lib.replaceK_hit _ _ _ _ 0 (by simp [Lib.index, List.isPrefixOf])]
  simp [ih, cU, xR]
  rw [Lib.count_cons_ne _ _ _ hb]
  have e : cU (b :: l) = b :: cU l := by simp [cU, xR, hb]
  rw [e, ← ih]
  cases hn : Lib.count l [39] with
  | zero => rfl
  | succ k =>
   obtain ⟨i, hi⟩ := Lib.index_of_count (s := l) (old := [39]) (by omega)
   have hne : ¬ (39 : UInt8) = b := fun h => hb h.symm
   have hi2 : Lib.index (b :: l) [39] = ((i + 1 : Nat) : Int) := by
    simp only [Lib.index, List.isPrefixOf, hi]
    rw [if_neg (by simp [hne]), if_neg (by simp)]
    omega
   rw [Lib.replaceK_hit _ _ _ _ _ hi2, Lib.replaceK_hit _ _ _ _ _ hi]
   simp
theorem s5 (s : List UInt8) (h : s.length ≤ 1000000) : SpG g 107 [.c (cS (S s)), .c (cS (S [39])), .c (cS (S [39, 39]))] [] (.c (cS (S (cU s)))) [] := by
 refine jU (args := [.string (S s), .string (S [39]), .string (S [39, 39])]) rfl rfl rfl fun w hG => ?_
 obtain ⟨ty, fz, h0⟩ := hG 0 [.int .i64 g.maxLen] (by simp [Gl])
 have hc := Lib.countB_le (S [39]) (by decide) s.length (S s) (by rw [aM]; omega)
 rw [aM] at hc
 have := Tryz.strings_ReplaceAll (S s) (S [39]) (S [39, 39]) g.maxLen w (by rw [aM]; omega) (by rw [Lib.cell_of_heap h0]; rfl) (by decide) (by
  have e : (S [39, 39]).size = 2 := rfl
  rw [aM, e]; omega)
 have e1 : (S s).data.toList = s := by simp [S]
 have e2 : (S [39]).data.toList = [39] := by simp [S]
 have e3 : (S [39, 39]).data.toList = [39, 39] := by simp [S]
 rw [e1, e2, e3, Lib.replaceAll, Lib.replace, if_neg (by decide), Lib.replaceNum, if_pos (by omega), aEX] at this
 exact this
theorem w9 {es : List (List D)} {l : List (List UInt8)} (e : es = strs l) (sep : List UInt8) (h : kN sep.length l ≤ 1000000000) (hl : l.length ≤ 1000000) : SpG g 57 [.c (cM 1 es), .c (cS (S sep))] [] (.c (cS (S (joinL sep l)))) [] := by
 subst e; exact join_ok l sep h hl
theorem below_grow (w : World) (q : Nat) (os : Array Obj) : Below w.heap.size w (grow (w.drewN q) os) :=
 ⟨rfl, rfl, rfl, by simp [grow, World.drewN], fun i hi => by
  show ((w.drewN q).heap ++ os)[i]? = _
  rw [Array.getElem?_append_left (by show i < w.heap.size; omega)]
  rfl⟩
theorem tab_of {w : World} (hG : ∀ b cs, (b, cs) ∈ Gl g → ∃ ty fz, w.heap[b]? = some (.cells cs.toArray ty fz)) : Lib.TabIs Tryz.prog w "internal/strconv.uint64pow10" .u64 Lib.pow10Tab := by
 obtain ⟨ty, fz, h⟩ := hG 3 (powL.map (Value.int .u64)) (by simp [Gl])
 have hn : Tryz.prog.globalNamed "internal/strconv.uint64pow10" = some 3 := by kernel_rfl
 unfold Lib.TabIs World.var?
 rw [hn]
 simp only [Option.bind_some, h]
 rfl
theorem mB (n : Int) (h0 : -9223372036854775808 ≤ n) (h1 : n ≤ 9223372036854775807) : SpG g 55 [.c (cI n)] [] (.c (cS (S (Lib.itoa n)))) [] := by
 refine jU (args := [.int .i64 n]) rfl rfl rfl fun w hG => ?_
 have h := Tryz.strconv_Itoa n h0 h1 w (tab_of hG)
 refine h.mono ?_
 rintro e w' ⟨rfl, k, os, rfl⟩
 exact ⟨rfl, below_grow _ _ _⟩
def nOk (n : Int) : Prop := -1000000000000 ≤ n ∧ n ≤ 1000000000000
def aL6 (c : UInt8) : Bool := decide (48 ≤ c.toNat) && decide (c.toNat ≤ 57)
theorem mM {i : Nat} (h : i < 10) : aL6 (UInt8.ofNat (48 + i)) = true ∧ Lib.digitVal (UInt8.ofNat (48 + i)) = some i := by
 have : ∀ j : Fin 10, aL6 (UInt8.ofNat (48 + j.val)) = true ∧ Lib.digitVal (UInt8.ofNat (48 + j.val)) = some j.val := by decide
 exact this ⟨i, h⟩
theorem pY (u : Nat) : (Lib.decDigits u).all aL6 = true ∧ Lib.decDigits u ≠ [] := by
 induction u using Nat.strongRecOn with
 | ind u ih =>
  rw [Lib.decDigits]
  by_cases h : u < 10
  rw [dif_pos h, List.all_cons, (mM h).1]; simp
  rw [dif_neg h, List.all_append, (ih (u / 10) (by omega)).1]
  rw [List.all_cons, (mM (show u % 10 < 10 by omega)).1]; simp
theorem pB : ∀ (a : List UInt8) (acc m : Nat) (b : List UInt8), Lib.decFrom acc a = some m → Lib.decFrom acc (a ++ b) = Lib.decFrom m b
 | [], acc, m, b, h => by simp only [Lib.decFrom, Option.some.injEq] at h; subst h; rfl
 | c :: a, acc, m, b, h => by
  simp only [List.cons_append, Lib.decFrom] at h ⊢
  cases hd : Lib.digitVal c with
  | none => rw [hd] at h; cases h
  | some d => rw [hd] at h; exact pB a _ m b h
theorem aBF (u : Nat) : Lib.decFrom 0 (Lib.decDigits u) = some u := by
 induction u using Nat.strongRecOn with
 | ind u ih =>
  rw [Lib.decDigits]
  by_cases h : u < 10
  rw [dif_pos h]
  simp only [Lib.decFrom, (mM h).2]; simp
  rw [dif_neg h, pB _ 0 _ _ (ih (u / 10) (by omega))]
  simp only [Lib.decFrom, (mM (show u % 10 < 10 by omega)).2]
  congr 1; omega
theorem r6 (u : Nat) : Lib.decNat (Lib.decDigits u) = some u := by
 have h := (pY u).2
 have h2 := aBF u
 unfold Lib.decNat
 split
 rename_i e; exact absurd (List.isEmpty_iff.1 e) h
 exact h2
def zq1 := And.intro @List.length_append.{0} (And.intro @List.length_cons.{0} (@List.length_nil.{0}))
theorem aFZ {u : Nat} {k : Nat} (h : u < 10 ^ k) (hk : 1 ≤ k) : (Lib.decDigits u).length ≤ k := by
 induction k generalizing u with
 | zero => omega
 | succ k ih =>
  rw [Lib.decDigits]
  by_cases h1 : u < 10
  rw [dif_pos h1]; simp
  rw [dif_neg h1]
  have hk1 : 1 ≤ k := by
   rcases Nat.eq_zero_or_pos k with rfl | hp
   simp at h; omega
   exact hp
  have := ih (u := u / 10) (by rw [Nat.pow_succ] at h; omega) hk1
  simp only [zq1]; omega
theorem aFK {c : UInt8} (h : aL6 c = true) : ¬ c = 45 ∧ ¬ c = 43 ∧ ¬ c = 32 ∧ ¬ c = 58 ∧ ¬ c = 44 := by
 refine ⟨?_, ?_, ?_, ?_, ?_⟩ <;> rintro rfl <;> simp [aL6] at h
theorem fI {n : Int} (h : nOk n) : (Lib.itoa n).length ≤ 14 := by
 unfold Lib.itoa
 obtain ⟨h0, h1⟩ := h
 split
 have := aFZ (u := n.natAbs) (k := 13) (by omega) (by decide)
 simp only [List.length_cons]; omega
 have := aFZ (u := n.toNat) (k := 13) (by omega) (by decide)
 omega
theorem eT {n : Int} {c : UInt8} (hc : c = 32 ∨ c = 58 ∨ c = 44) : ∀ x, x ∈ Lib.itoa n → ¬ x = c := by
 have go : ∀ u, ∀ x, x ∈ Lib.decDigits u → ¬ x = c := by
  intro u x hx
  have := aFK (List.all_eq_true.1 (pY u).1 x hx)
  rcases hc with rfl | rfl | rfl
  exact this.2.2.1
  exact this.2.2.2.1
  exact this.2.2.2.2
 intro x hx
 unfold Lib.itoa at hx
 split at hx
 rcases List.mem_cons.1 hx with rfl | hx
 rcases hc with rfl | rfl | rfl <;> decide
 exact go _ x hx
 exact go _ x hx
theorem itoa_ne (n : Int) : Lib.itoa n ≠ [] := by
 unfold Lib.itoa
 split
 simp
 exact (pY _).2
theorem oH {n : Int} (h : nOk n) : Lib.atoiAll (Lib.itoa n) = .ok n := by
 rw [Lib.atoiAll_short _ (by have := fI h; omega)]
 have e : Lib.atoi (Lib.itoa n) = some n := by
  unfold Lib.itoa
  split
  rename_i hn
  simp only [Lib.atoi, r6]
  simp; omega
  rename_i hn
  have hd := pY n.toNat
  have h3 := r6 n.toNat
  generalize Lib.decDigits n.toNat = l at *
  cases l with
  | nil => exact absurd rfl hd.2
  | cons c r =>
   have hc := aFK (List.all_eq_true.1 hd.1 c (by simp))
   simp only [Lib.atoi]
   have h45 : (c == 45) = false := by simpa using hc.1
   have h43 : (c == 43) = false := by simpa using hc.2.1
   rw [h45, h43]
   simp [h3]; omega
 rw [e]; rfl
theorem jP (n : Int) (h : nOk n) : SpG g 68 [.c (cS (S (Lib.itoa n)))] [] (.tup [(false, [cI n]), (false, [.d (.v .nilIface)])]) [] := by
 refine jU (args := [.string (S (Lib.itoa n))]) rfl rfl rfl fun w hG => ?_
 refine (Tryz.strconv_Atoi_ok (S (Lib.itoa n)) (by rw [aM]; have := fI h; omega) n (by rw [cR]; exact oH h) w).mono ?_
 rintro e w' ⟨rfl, hb⟩
 refine ⟨rfl, ?_⟩
 rcases hb with rfl | ⟨t, rfl⟩
 exact Below.refl _ _
 exact ⟨rfl, rfl, rfl, by rw [Lib.bytesWorld_size]; omega, fun j hj => Lib.bytesWorld_at_old w 5 t j hj⟩
theorem aBT (l : List UInt8) : (S l).data.toList = l := by simp [S]
theorem aIT (w : World) (n : Nat) : Below w.heap.size w (w.drewN n) := ⟨rfl, rfl, rfl, Nat.le_refl _, fun _ _ => rfl⟩
theorem xV (s p : List UInt8) : SpG g 65 [.c (cS (S s)), .c (cS (S p))] [] (.tup [(false, [cS (S (Lib.trimPrefix s p))]), (false, [cB (Lib.hasPrefix s p)])]) [] := by
 refine aAH (args := [.string (S s), .string (S p)]) rfl rfl rfl fun w => ?_
 have := Tryz.strings_CutPrefix (S s) (S p) w
 rw [aBT, aBT] at this
 exact this.mono fun _ _ ⟨a, b⟩ => ⟨a, b.symm⟩
theorem xU (s p : List UInt8) (hs : s.length < 4294967281) : SpG g 67 [.c (cS (S s)), .c (cS (S p))] [] (.tup [(false, [cS (S (Lib.cut s p).1)]), (false, [cS (S (Lib.cut s p).2.1)]), (false, [.d (.b (Lib.cut s p).2.2)])]) [] := by
 refine jU (args := [.string (S s), .string (S p)]) rfl rfl rfl fun w hG => ?_
 obtain ⟨ty, fz, h0⟩ := hG 0 [.int .i64 g.maxLen] (by simp [Gl])
 have := Tryz.strings_Cut (S s) (S p) g.maxLen w (by rw [aM]; omega) (by rw [Lib.cell_of_heap h0]; rfl)
 rw [aBT, aBT] at this
 exact this.mono fun _ _ ⟨x, n, y⟩ => ⟨x, by rw [y]; exact aIT _ _⟩
theorem rJ {l r : List UInt8} {c : UInt8} (h : ∀ x, x ∈ l → ¬ x = c) : Lib.index (l ++ c :: r) [c] = (l.length : Int) := by
 induction l with
 | nil => simp [Lib.index, List.isPrefixOf]
 | cons x l ih =>
  have h1 := ih (fun y hy => h y (by simp [hy]))
  have h2 : ¬ c = x := fun e => h x (by simp) e.symm
  have h3 : (c == x) = false := by simpa using h2
  simp only [List.cons_append, Lib.index, List.isPrefixOf, h3, Bool.false_and, h1]
  have h4 : ((l.length : Int) == -1) = false := by rw [beq_eq_false_iff_ne]; omega
  simp [h4]
theorem mC (l : List UInt8) (c : Int) : SpG g 320 [.c (cS (S l)), .c (.d (.y c))] [] (.c (cI (Lib.indexByte l c.toNat.toUInt8))) [] := by
 refine aAH (args := [.string (S l), .int .u8 c]) rfl rfl rfl fun w => ?_
 have := Tryz.strings_IndexByte (S l) c w
 rw [aBT] at this
 exact this.mono fun _ _ ⟨a, b⟩ => ⟨a, b.symm⟩
def seps : List UInt8 := [44, 59, 93, 124]
def eW (c : UInt8) : Bool := !(c == 44 || c == 59 || c == 93 || c == 124)
def iG (r : List UInt8) : Prop := r = [] ∨ ∃ x t, r = x :: t ∧ eW x = false
theorem sW {α : Type} {p : α → Bool} {l r : List α} (h : l.all p = true) (hr : r = [] ∨ ∃ x t, r = x :: t ∧ p x = false) : (l ++ r).takeWhile p = l ∧ (l ++ r).dropWhile p = r := by
 induction l with
 | nil =>
  rcases hr with rfl | ⟨x, t, rfl, hx⟩
  simp
  simp [List.takeWhile_cons, List.dropWhile_cons, hx]
 | cons y l ih =>
  simp only [List.all_cons, Bool.and_eq_true] at h
  obtain ⟨h1, h2⟩ := ih h.2
  simp [List.takeWhile_cons, List.dropWhile_cons, h.1, h1, h2]
theorem aGG {w r : List UInt8} (h : w.all eW = true) (hr : iG r) : (w ++ r).takeWhile eW = w ∧ (w ++ r).dropWhile eW = r := sW h hr
def eI (c : UInt8) : List UInt8 → Bool
 | x :: _ => decide (x = c)
 | [] => false
def dE (c : UInt8) : List UInt8 → List UInt8
 | x :: r => if x = c then r else x :: r
 | [] => []
theorem aEO {l : List UInt8} {c : UInt8} (h : l = [] ∨ ¬ byteAt (S l) 0 = (c.toNat : Int)) : eI c l = false ∧ dE c l = l := by
 cases l with
 | nil => exact ⟨rfl, rfl⟩
 | cons x r =>
  rcases h with h | h
  cases h
  have hx : ¬ x = c := by
   rintro rfl
   exact h (gL (x :: r) 0)
  exact ⟨by simp [eI, hx], by simp [dE, hx]⟩
theorem zO {l : List UInt8} {c : UInt8} (h1 : ¬ l = []) (h : byteAt (S l) 0 = (c.toNat : Int)) : eI c l = true ∧ dE c l = l.drop 1 := by
 cases l with
 | nil => exact absurd rfl h1
 | cons x r =>
  have hx : x = c := by
   have e : byteAt (S (x :: r)) 0 = (x.toNat : Int) := gL (x :: r) 0
   rw [e] at h
   exact UInt8.toNat_inj.1 (by omega)
  exact ⟨by simp [eI, hx], by simp [dE, hx]⟩
theorem aG6 (c : UInt8) : seps.contains c = !(eW c) := by
 simp only [seps, eW, List.contains_cons, List.contains_nil, Bool.or_false]
 rw [Bool.eq_iff_iff]
 simp [or_assoc]
theorem o5 : ∀ (l : List UInt8), (Lib.indexAny l seps < 0 ∧ l.takeWhile eW = l ∧ l.dropWhile eW = []) ∨ (0 ≤ Lib.indexAny l seps ∧ Lib.indexAny l seps ≤ l.length ∧ l.takeWhile eW = l.take (Lib.indexAny l seps).toNat ∧ l.dropWhile eW = l.drop (Lib.indexAny l seps).toNat)
 | [] => .inl ⟨by decide, rfl, rfl⟩
 | c :: l => by
  have ih := o5 l
  have hc := aG6 c
  have hge := Lib.indexAny_ge seps l
  cases hn : eW c with
  | false =>
   rw [hn] at hc
   have e : Lib.indexAny (c :: l) seps = 0 := by rw [Lib.indexAny, hc]; rfl
   right
   rw [e]
   refine ⟨Int.le_refl _, by omega, ?_, ?_⟩
   rw [List.takeWhile_cons, hn]; rfl
   rw [List.dropWhile_cons, hn]; rfl
  | true =>
   rw [hn] at hc
   rcases ih with ⟨h1, h2, h3⟩ | ⟨h1, h2, h3, h4⟩
   have h0 : Lib.indexAny l seps = -1 := by omega
   have e : Lib.indexAny (c :: l) seps = -1 := by rw [Lib.indexAny, hc, h0]; rfl
   left
   rw [e]
   exact ⟨by decide, by rw [List.takeWhile_cons, hn, if_pos rfl, h2], by rw [List.dropWhile_cons, hn, if_pos rfl, h3]⟩
   have h0 : (Lib.indexAny l seps == -1) = false := by rw [beq_eq_false_iff_ne]; omega
   have e : Lib.indexAny (c :: l) seps = Lib.indexAny l seps + 1 := by
    rw [Lib.indexAny, hc, h0]; rfl
   right
   rw [e, show (Lib.indexAny l seps + 1).toNat = (Lib.indexAny l seps).toNat + 1 by omega]
   refine ⟨by omega, by rw [List.length_cons]; omega, ?_, ?_⟩
   rw [List.takeWhile_cons, hn, if_pos rfl, h3]; rfl
   rw [List.dropWhile_cons, hn, if_pos rfl, h4]; rfl
def tqM : Nat → List UInt8 → List UInt8 → Bool × List UInt8 × List UInt8
 | 0, acc, r => (false, acc, r)
 | n + 1, acc, r =>
  if Lib.indexByte r 39 < 0 then (false, [], r)
  else if eI 39 (r.drop ((Lib.indexByte r 39).toNat + 1)) then tqM n (acc ++ r.take (Lib.indexByte r 39).toNat ++ [39]) (dE 39 (r.drop ((Lib.indexByte r 39).toNat + 1)))
  else (true, acc ++ r.take (Lib.indexByte r 39).toNat, r.drop ((Lib.indexByte r 39).toNat + 1))
theorem aG5 (c : UInt8) (l : List UInt8) : (dE c l).length ≤ l.length := by
 cases l with
 | nil => exact Nat.le_refl _
 | cons x r =>
  by_cases h : x = c
  simp [dE, h]
  simp [dE, h]
theorem p9 {c : UInt8} {l : List UInt8} (h : eI c l = false) : dE c l = l := by
 cases l with
 | nil => rfl
 | cons x r =>
  have hx : ¬ x = c := by simpa [eI] using h
  simp [dE, hx]
theorem mD : ∀ (l : List UInt8) (c : UInt8), -1 ≤ Lib.indexByte l c ∧ Lib.indexByte l c < l.length
 | [], c => ⟨Int.le_refl _, by show (-1 : Int) < 0; decide⟩
 | b :: l, c => by
  have ih := mD l c
  unfold Lib.indexByte
  split
  simp only [List.length_cons]; omega
  split
  simp only [List.length_cons]; omega
  simp only [List.length_cons]; omega
theorem pE {r : List UInt8} {i : Int} (h : 0 ≤ i) : (S r).extract (i + 1).toNat (S r).size = S (r.drop (i.toNat + 1)) := by
 rw [jS, show (i + 1).toNat = i.toNat + 1 by omega]
theorem xT {es : List (List D)} {acc r : List UInt8} {k : Nat} (h : es = bytesD (S acc).data.toList) : es ++ bytesD ((S r).extract 0 k).data.toList = bytesD (S (acc ++ r.take k)).data.toList := by
 rw [h, gM, cR, cR, cR, ← lH]; rfl
theorem xS {acc r : List UInt8} {k : Nat} (h : acc = []) : bytesD ((S r).extract 0 k).data.toList = bytesD (S (acc ++ r.take k)).data.toList := by
 subst h; rw [gM]; rfl
theorem tq_step {n : Nat} {acc r : List UInt8} (h : r.length < n) : tqM n acc r = (if Lib.indexByte r 39 < 0 then (false, [], r)
  else if eI 39 (r.drop ((Lib.indexByte r 39).toNat + 1)) then tqM (n - 1) (acc ++ r.take (Lib.indexByte r 39).toNat ++ [39]) (dE 39 (r.drop ((Lib.indexByte r 39).toNat + 1)))
  else (true, acc ++ r.take (Lib.indexByte r 39).toNat, r.drop ((Lib.indexByte r 39).toNat + 1))) := by
 cases n with
 | zero => omega
 | succ n => rfl
theorem es_39 {es : List (List D)} {a : List UInt8} (h : es = bytesD (S a).data.toList) : es ++ [[D.y 39]] = bytesD (S (a ++ [39])).data.toList := by
 rw [h, mQ, mQ, lH]; rfl
theorem no39 : ∀ {a : List UInt8}, (39 : UInt8) ∉ a → cU a = a
 | [], _ => rfl
 | c :: a, h => by
  have hc : ¬ c = 39 := fun e => h (by rw [e]; exact List.mem_cons_self)
  have ih := no39 (a := a) fun e => h (List.mem_cons_of_mem _ e)
  rw [show cU (c :: a) = xR c ++ cU a by simp [cU], ih, xR, if_neg hc]; rfl
theorem aMO (a b : List UInt8) : cU (a ++ b) = cU a ++ cU b := by simp [cU]
theorem xE : ∀ {a : List UInt8} (t : List UInt8), (39 : UInt8) ∉ a → Lib.indexByte (a ++ 39 :: t) 39 = a.length
 | [], t, _ => by show Lib.indexByte (39 :: t) 39 = 0; rw [Lib.indexByte]; rfl
 | c :: a, t, h => by
  have hc : ¬ c = 39 := fun e => h (by rw [e]; exact List.mem_cons_self)
  have ih := xE (a := a) t fun e => h (List.mem_cons_of_mem _ e)
  rw [List.cons_append, Lib.indexByte, ih]
  simp [hc]
theorem tq_of : ∀ (n : Nat) (s acc r : List UInt8), (cU s ++ 39 :: r).length < n → iG r → tqM n acc (cU s ++ 39 :: r) = (true, acc ++ s, r)
 | 0, s, acc, r, h, _ => absurd h (Nat.not_lt_zero _)
 | n + 1, s, acc, r, h, hr => by
  by_cases hm : (39 : UInt8) ∈ s
  obtain ⟨a, s', rfl, ha⟩ := List.eq_append_cons_of_mem hm
  have e : cU (a ++ 39 :: s') ++ 39 :: r = a ++ 39 :: (39 :: (cU s' ++ 39 :: r)) := by
   rw [aMO, no39 ha, show cU (39 :: s') = [39, 39] ++ cU s' by simp [cU, xR]]; simp
  have hi := xE (39 :: (cU s' ++ 39 :: r)) ha
  rw [e] at h ⊢
  rw [tqM, hi, if_neg (by omega), Int.toNat_natCast]
  have hd : (a ++ 39 :: (39 :: (cU s' ++ 39 :: r))).drop (a.length + 1) = 39 :: (cU s' ++ 39 :: r) := by
   rw [← List.drop_drop, List.drop_left]; rfl
  have ht : (a ++ 39 :: (39 :: (cU s' ++ 39 :: r))).take a.length = a := List.take_left
  rw [hd, ht, if_pos (by simp [eI]), show dE 39 (39 :: (cU s' ++ 39 :: r)) = cU s' ++ 39 :: r by simp [dE]]
  rw [tq_of n s' _ r (by simp only [zq0] at h ⊢; omega) hr]
  simp
  have hi := xE r hm
  rw [no39 hm] at h ⊢
  rw [tqM, hi, if_neg (by omega), Int.toNat_natCast]
  have hd : (s ++ 39 :: r).drop (s.length + 1) = r := by
   rw [← List.drop_drop, List.drop_left]; rfl
  have ht : (s ++ 39 :: r).take s.length = s := List.take_left
  have hk : eI 39 r = false := by
   rcases hr with rfl | ⟨x, t, rfl, hx⟩
   rfl
   have : ¬ x = 39 := by rintro rfl; simp [eW] at hx
   simp [eI, this]
  rw [hd, ht, if_neg (by rw [hk]; decide)]
theorem aN1 (x : UInt8) (t : List UInt8) : (S (x :: t)).extract 1 (S (x :: t)).size = S t := by rw [jS]; rfl
theorem byte0 (x : UInt8) (t : List UInt8) : byteAt (S (x :: t)) 0 = (x.toNat : Int) := gL (x :: t) 0
def eC (l : List UInt8) : Bool := l.all (fun b => decide (b.toNat < 128))
theorem aAY (l : List UInt8) (hl : l.length < 4294967281) (ha : eC l = true) : SpG g 319 [.c (cS (S l)), .c (cS (S [44, 59, 93, 124]))] [] (.c (cI (Lib.indexAny l seps))) [] := by
 refine jU (args := [.string (S l), .string (S [44, 59, 93, 124])]) rfl rfl rfl fun w _ => ?_
 have := Tryz.strings_IndexAny_laid (S l) (S [44, 59, 93, 124]) w (by rw [aM]; omega) (by decide) (fun j b hb => by
   rw [cR] at hb
   have := List.all_eq_true.1 ha b (List.mem_of_getElem? hb)
   simpa using this) (fun j b hb => by
   rw [cR] at hb
   have h4 : ([44, 59, 93, 124] : List UInt8).all (fun b => decide (b.toNat < 128)) = true := by decide
   have := List.all_eq_true.1 h4 b (List.mem_of_getElem? hb)
   simpa using this)
 rw [cR, cR] at this
 exact this
end Go.Proofs.YtclaplngjmgnoaaGreatDoor
namespace Go.Proofs.YtclaplngjmgnoaaGreatDoor
open Go.RowKit Go.V
open Go.Eng (inR byteAt u8 d8)
variable {g : Gv}
abbrev Tv := Option (List UInt8)
def tvK : Tv → Int
 | none => 0
 | some _ => 1
def tvS : Tv → List UInt8
 | none => []
 | some s => s
def TvD (v : Tv) : List D := [.i (tvK v), .s (S (tvS v)), .i 0, .i 0, .i 0, .sl 1 [], .sl 1 []]
def aR (l : List Tv) : List (List D) := l.map TvD
def bY (v : Tv) : Prop := c6 (S (tvS v)) = true
def tvT : Tv → List UInt8
 | none => [33, 48]
 | some s => 39 :: (cU s ++ [39])
theorem gW {v : Tv} (h : bY v) : (tvS v).length ≤ 200 := by
 unfold bY c6 at h
 simp only [Bool.and_eq_true, decide_eq_true_eq, aM] at h
 omega
theorem aJI (v : Tv) : tvK v = 0 ∧ v = none ∨ tvK v = 1 ∧ ∃ s, v = some s := by
 cases v with
 | none => exact .inl ⟨rfl, rfl⟩
 | some s => exact .inr ⟨rfl, s, rfl⟩
theorem aEF {v : Tv} (h : bY v) : (tvT v).length ≤ 402 := by
 have := gW h
 cases v with
 | none => simp [tvT]
 | some s =>
  have h2 := mI s
  simp only [zq1, tvT, tvS] at *
  omega
theorem tvT_ne (v : Tv) : tvT v ≠ [] := by cases v <;> simp [tvT]
def rwT (l : List Tv) : List UInt8 := joinL [124] (l.map tvT)
theorem v8 : ∀ (l : List Tv), (∀ v, v ∈ l → bY v) → kN 1 (l.map tvT) ≤ 403 * l.length
 | [], _ => by simp [kN]
 | v :: l, h => by
  have h1 := aEF (h v (by simp))
  have h2 := v8 l fun x hx => h x (by simp [hx])
  unfold kN at *
  simp only [List.map_cons, List.sum_cons, List.length_cons] at *
  omega
theorem aEQ {l : List Tv} (h : ∀ v, v ∈ l → bY v) : (rwT l).length ≤ 403 * l.length := Nat.le_trans (hJ [124] _) (v8 l h)
theorem itoa0 : Lib.itoa 0 = [48] := by
 rw [Lib.itoa, if_neg (by decide), Int.toNat_zero, Lib.decDigits_one (by decide)]; rfl
theorem aLZ : SpG g 55 [.c (cI 0)] [] (.c (cS (S [48]))) [] := by
 have := mB (g := g) 0 (by decide) (by decide)
 rw [itoa0] at this
 exact this
theorem aDK (s : ByteArray) (hs : s.size ≤ maxLen) :
  SpG g 103 [.c (cS s)] [] (.c (cB (c6 s))) [] := by
 unfold maxLen at hs
 refine aP 23 Tryz.func103 (by kernel_rfl) fun fr hG => ?_
 refine zL hG [] [0, 1, 0, 1] (fun (zz : Nat) => match zz with | k => (s.size - k, ⟨[zS 0 s, zB 2 false, zI 5 ((s).size : Int), zI 6 (k : Int)], []⟩, k ≤ s.size ∧ (bs s).all dY = ((bs s).drop k).all dY)) 0 aC ?_ ?_
 exact ⟨Nat.zero_le _, rfl⟩
 rintro k ⟨hk, hall⟩
 refine zp hG [] [0, 1] (((k : Int) : Int) < ((s).size : Int)) aC (fun hc2 => ?_) (fun hc2 => ?_)
 skip
 refine zc hG [] [1, 1, 0, 0, 1, 1] ((decide ((byteAt (s) (k : Int) : Int) < 32)) || (decide ((byteAt (s) (k : Int) : Int) > 126))) (aA (by intros; first | omega | decide | (simp only [inR, blS] at *; omega) : (0 : Int) ≤ (k : Int) ∧ (k : Int) < ((s).size : Int)) (aB (by intros; first | omega | decide | (simp only [inR, blS] at *; omega) : (decide ((byteAt (s) (k : Int) : Int) < 32)) = false → (0 : Int) ≤ (k : Int) ∧ (k : Int) < ((s).size : Int)))) (fun hc3 => ?_) (fun hc3 => ?_)
 (try simp only [blS] at hc3)
 refine zE hG [] .ret (⟨[zS 0 s, zB 2 false], []⟩) aC rfl ?_
 refine zR hG [] [] (.c (cB false)) [] aC ?_ ?_
 refine v7 ?_
 rw [c6, hall, pZ s k (by omega)]; simp only [iQ] at hc3; simp [dY]; omega
 rfl
 (try simp only [blS] at hc3)
 refine zD hG [] (k + 1) (aB (by intros; first | omega | decide | (simp only [inR, blS] at *; omega) : inR ((k : Int) + 1))) ?_ ?_
 (try dsimp only); omega
 exact ⟨by omega, by rw [hall, pZ s k (by omega)]; simp only [iQ] at hc3; simp [dY]; omega⟩
 skip
 refine zE hG [] (.exit 0) (⟨[zS 0 s, zB 2 false], []⟩) aC rfl ?_
 refine zR hG [] [] (.c (cB (decide ((((s).size : Int) : Int) ≤ 200)))) [] aC ?_ ?_
 refine v7 ?_
 rw [c6, hall, aNJ s k (by omega)]; simp
 rfl
theorem bareT (k : Int) :
  SpG g 102 [.agg [cI k, cS (S []), cI 0, cI 0, cI 0, cM 1 ([] : List (List D)), cM 1 ([] : List (List D))]] [] (.c (cB true)) [] := by
 refine aP 29 Tryz.func102 (by kernel_rfl) fun fr hG => ?_
 exact zr hG [] [] aC
abbrev y0 (a0 : Int) (a1 : ByteArray) (a2 : List (List D)) : SV := .agg [cI a0, cS a1, cI 0, cI 0, cI 0, cM 1 a2, cM 1 a2]
theorem bareS (k : Int) (s : List UInt8) :
  SpG g 102 [y0 k (S s) ([] : List (List D))] [] (.c (cB (decide (s = [])))) [] := by
 refine aP 29 Tryz.func102 (by kernel_rfl) fun fr hG => ?_
 refine zR hG [] [] (.c (cB ((((((S s).toList == (S []).toList) && (((0 : Int) == 0) && ((0 : Int) == 0))) && true) && (decide (((([] : List (List D)).length : Int) : Int) = 0))) && (decide (((([] : List (List D)).length : Int) : Int) = 0))))) [] aC ?_ ?_
 refine v7 ?_
 rw [aN3]; simp
 rfl
abbrev y1 (a0 : Int) (a1 : ByteArray) (a2 : List (List D)) : Ob := .box 61 [cI a0, cS a1, cI 0, cI 0, cI 0, cM 1 a2, cM 1 a2]
theorem lO (v : Tv) (h : bY v) :
  SpG g 54 [y0 (tvK v) (S (tvS v)) ([] : List (List D))] [] (.c (cB true)) [] := by
 have hl := gW h
 have h01 := aJI v
 refine aP 86 Tryz.func54 (by kernel_rfl) fun fr hG => ?_
 refine zP hG [] [1, 0, 1, 0, 1, 1] ((tvK v : Int) = 0) (⟨[zX 1 100 0, zB 2 false, zX 3 201 0, zI 6 (tvK v)], [(100, y1 (tvK v) (S (tvS v)) ([] : List (List D))), (201, y1 (tvK v) (S (tvS v)) ([] : List (List D)))]⟩) aC (fun hc1 => ?_) (fun hc1 => ?_)
 skip
 refine zR hG [(5, 10, kB (decide ((tvS v) = [])))] [] (.c (cB (decide ((tvS v) = [])))) [] (aB (fun (hg1 : true = true) => (bareS (tvK v) (tvS v) : SpG g _ _ _ _ _))) ?_ ?_
 rcases h01 with ⟨h0, rfl⟩ | ⟨h0, _⟩
 rfl
 exfalso; omega
 rfl
 skip
 refine zp hG [] [1, 1, 1, 0, 1, 0, 1, 1] ((tvK v : Int) = 1) aC (fun hc2 => ?_) (fun hc2 => ?_)
 skip
 refine zR hG [(8, 2, kB (c6 (S (tvS v)))), (8, 5, kB true)] [] (.c (cB ((c6 (S (tvS v))) && true))) [] (aA (aDK (S (tvS v)) (by rw [aM]; unfold maxLen; omega) : SpG g _ _ _ _ _) (aB (fun (hg1 : (c6 (S (tvS v))) = true) => (bareT (tvK v) : SpG g _ _ _ _ _)))) ?_ ?_
 have h2 : c6 (S (tvS v)) = true := h
 rw [h2]; rfl
 rfl
 skip
 exfalso; rcases h01 with ⟨h0, _⟩ | ⟨h0, _⟩ <;> omega
theorem vZ (v : Tv) (h : bY v) :
  SpG g 56 [y0 (tvK v) (S (tvS v)) ([] : List (List D))] [] (.c (cS (S (tvT v)))) [] := by
 have hl := gW h
 have h01 := aJI v
 have he := mI (tvS v)
 refine aP 61 Tryz.func56 (by kernel_rfl) fun fr hG => ?_
 refine zC hG [(1, 1, kB true)] [1, 0, 1] (false) (⟨[zX 1 100 0, zS 2 (S [])], [(100, y1 (tvK v) (S (tvS v)) ([] : List (List D)))]⟩) (aB (lO v (by assumption) : SpG g _ _ _ _ _)) (fun hc1 => absurd hc1 (by decide)) (fun _ => ?_)
 refine zP hG [] [1, 0, 1, 0, 1, 1] ((tvK v : Int) = 0) (⟨[zX 1 100 0, zS 2 (S []), zI 10 (tvK v)], [(100, y1 (tvK v) (S (tvS v)) ([] : List (List D)))]⟩) aC (fun hc2 => ?_) (fun hc2 => ?_)
 skip
 refine zR hG [(5, 2, kS (S [48]))] [] (.c (cS (S [33, 48]))) [] (aA (aLZ : SpG g _ _ _ _ _) (aB (by decide : (S [33]).size + (S [48]).size ≤ maxLen))) ?_ ?_
 rcases h01 with ⟨h0, rfl⟩ | ⟨h0, _⟩
 rfl
 exfalso; omega
 rfl
 skip
 refine zp hG [] [1, 1, 1, 0, 1, 0, 1, 1] ((tvK v : Int) = 1) aC (fun hc3 => ?_) (fun hc3 => ?_)
 skip
 refine zR hG [(7, 2, kS (S (cU (tvS v))))] [] (.c (cS (((S [39]) ++ (S (cU (tvS v)))) ++ (S [39])))) [] (aA (s5 (tvS v) (by omega) : SpG g _ _ _ _ _) (aA (by intros; (try rw [eO]); (try simp only [aM, List.length_append, List.length_cons, List.length_nil, maxLen]); first | omega | decide : (S [39]).size + (S (cU (tvS v))).size ≤ maxLen) (aB (by intros; (try rw [eO]); (try simp only [aM, List.length_append, List.length_cons, List.length_nil, maxLen]); first | omega | decide : ((S [39]) ++ (S (cU (tvS v)))).size + (S [39]).size ≤ maxLen)))) ?_ ?_
 rcases h01 with ⟨h0, _⟩ | ⟨h0, s, rfl⟩
 exfalso; omega
 rw [eO, eO]; rfl
 rfl
 skip
 exfalso; rcases h01 with ⟨h0, _⟩ | ⟨h0, _⟩ <;> omega
def zq2 := And.intro @List.length_append.{0} (And.intro @List.length_cons.{0} (And.intro @List.length_map.{0, 0} (And.intro @List.length_nil.{0} (And.intro @Go.Eng.inR.eq_1 (And.intro @maxLen.eq_1 (@strs.eq_1))))))
def zq3 := And.intro @List.length_map.{0, 0} (And.intro @kM (And.intro @aGE (And.intro @blS (@strs.eq_1))))
def zq4 := And.intro @List.length_map.{0, 0} (@strs.eq_1)
theorem join_tv (l : List Tv) (sep : List UInt8) (hl : l.length ≤ 1000) (hs : kN sep.length (l.map tvT) ≤ 1000000000) (hT : ∀ v, v ∈ l → bY v) :
  SpG g 101 [.c (cM 7 (aR l)), .c (cS (S sep))] [] (.c (cS (S (joinL sep (l.map tvT))))) [] := by
 refine aP 26 Tryz.func101 (by kernel_rfl) fun fr hG => ?_
 refine wA 0 rfl fun hl0 => ?_
 refine zL hG [] [0, 1, 0, 1, 1] (fun (zz : Nat × List (List D)) => match zz with | (k, es) => (l.length - k, ⟨[zS 1 (S sep), zS 4 (S []), zY 5 202 0, zM 11 7 (aR l), zI 12 ((aR l).length : Int), zI 13 (k : Int)], [(202, .arr 0 9 1 (es))]⟩, k ≤ l.length ∧ es = strs ((l.take k).map tvT))) (0, []) (aB (by intros; (try simp only [zq2, aR] at *); omega : (0 : Int) ≤ ((aR l).length : Int) ∧ ((16 : Nat) : Int) * ((aR l).length : Int) ≤ 281474976710656 ∧ ((aR l).length : Int) ≤ 9223372036854775807)) ?_ ?_
 exact ⟨Nat.zero_le _, rfl⟩
 rintro ⟨k, es⟩ ⟨hk, hes⟩
 have hlen : es.length = k := by rw [hes, strs, List.length_map, List.length_map, List.length_take]; omega
 refine zc hG [] [0, 1] (decide (((k : Int) : Int) < ((aR l).length : Int))) aC (fun hc2 => ?_) (fun hc2 => ?_)
 (try simp only [zq3, aR] at hc2)
 refine zD hG [(4, 0, .elem (TvD ((l).getD k none))), (5, 2, kS (S (tvT ((l).getD k none))))] (k + 1, es ++ [[D.s (S (tvT (l.getD k none)))]]) (aA (by intros; exact d6 _ (by omega) (by (try simp only [zq4, aR] at *); omega) : (0 : Int) ≤ (k : Int) ∧ (aR l)[k]? = some (TvD ((l).getD k none))) (aA (vZ ((l).getD k none) (by exact hT _ (bQ (by omega))) : SpG g _ _ _ _ _) (aA (by intros; (try simp only [zq2, aR] at *); omega : ((es).length + ([[.s (S (tvT ((l).getD k none)))]] : List (List D)).length) * (16 + 1) ≤ 140737488355328) (aB (by intros; (try simp only [zq2, aR] at *); omega : inR ((k : Int) + 1)))))) ?_ ?_
 (try dsimp only); omega
 refine ⟨by omega, ?_⟩
 rw [hes, tB none (by omega)]
 (try simp only [zq3, aR] at hc2)
 refine zE hG [] (.exit 0) (⟨[zS 1 (S sep), zS 4 (S []), zY 5 202 0], [(202, .arr 0 9 1 (es))]⟩) aC rfl ?_
 exact zr hG [(7, 2, kS (S (joinL sep (l.map tvT))))] [] (aB (w9 (es := es) (l := l.map tvT) (by rw [hes, List.take_of_length_le (by omega)]) sep hs (by rw [List.length_map]; omega) : SpG g _ _ _ _ _))
theorem qF (l : List Tv) (hl : l.length ≤ 8) (hT : ∀ v, v ∈ l → bY v) :
  SpG g 53 [.c (cM 7 (aR l))] [] (.c (cS (S (rwT l)))) [] := by
 refine aP 20 Tryz.func53 (by kernel_rfl) fun fr hG => ?_
 refine wA 0 rfl fun hl0 => ?_
 refine zC hG [] [1, 0, 1] (decide ((((aR l).length : Int) : Int) > 8)) (⟨[zM 0 7 (aR l), zS 2 (S [])], []⟩) aC (fun hc1 => ?_) (fun hc1 => ?_)
 (try simp only [zq3, aR] at hc1)
 exfalso; omega
 (try simp only [zq3, aR] at hc1)
 refine zL hG [] [0, 1, 0, 1, 1] (fun (zz : Nat) => match zz with | k => (l.length - k, ⟨[zM 0 7 (aR l), zS 2 (S []), zM 8 7 (aR l), zI 9 ((aR l).length : Int), zI 10 (k : Int)], []⟩, k ≤ l.length)) 0 aC ?_ ?_
 exact Nat.zero_le _
 rintro k hk
 refine zc hG [] [0, 1] (decide (((k : Int) : Int) < ((aR l).length : Int))) aC (fun hc3 => ?_) (fun hc3 => ?_)
 (try simp only [zq3, aR] at hc3)
 refine zc hG [(5, 0, .elem (TvD ((l).getD k none))), (6, 1, kB true)] [1, 1, 0, 0, 1, 1] (false) (aA (by intros; exact d6 _ (by omega) (by (try simp only [zq4, aR] at *); omega) : (0 : Int) ≤ (k : Int) ∧ (aR l)[k]? = some (TvD ((l).getD k none))) (aB (lO ((l).getD k none) (by exact hT _ (bQ (by omega))) : SpG g _ _ _ _ _))) (fun hc4 => absurd hc4 (by decide)) (fun _ => ?_)
 refine zD hG [] (k + 1) (aB (by intros; (try simp only [inR, maxLen, aR, List.length_map] at *); omega : inR ((k : Int) + 1))) ?_ ?_
 (try dsimp only); omega
 show k + 1 ≤ l.length; omega
 (try simp only [zq3, aR] at hc3)
 refine zE hG [] (.exit 0) (⟨[zM 0 7 (aR l), zS 2 (S [])], []⟩) aC rfl ?_
 exact zr hG [(9, 1, kS (S (rwT l)))] [] (aB (join_tv l [124] (by omega) (Nat.le_trans (v8 _ hT) (by omega)) hT : SpG g _ _ _ _ _))
end Go.Proofs.YtclaplngjmgnoaaGreatDoor
namespace Go.Proofs.YtclaplngjmgnoaaGreatDoor
open Go.RowKit Go.V
open Go.Eng (inR byteAt u8 d8)
variable {g : Gv}
def aLJ : List (List (Option Nat)) → List (Bool × List C) → List (Bool × List C)
 | m :: ms, p :: ps => (p.1, jD m p.2) :: aLJ ms ps
 | _, ps => ps
theorem aIC {m : List (Option Nat)} {c : C} : jD m [c] = [c] ∨ ∃ q, jD m [c] = [aAR q c] := by
 cases m with
 | nil => exact .inl rfl
 | cons q m =>
  right
  refine ⟨q, ?_⟩
  cases m <;> rfl
theorem aAQ {own : Own} {w : World} {pl : Pl} : ∀ {ms : List (List (Option Nat))} {ps : List (Bool × List C)} {vs : List Value}, All2 (bR w pl own) ps vs → All2 (bR w pl own) (aLJ ms ps) vs
 | [], ps, vs, h => by cases ps <;> exact h
 | m :: ms, [], vs, h => h
 | m :: ms, p :: ps, vs, h => by
  obtain ⟨y, r, rfl, h1, h2⟩ := h.uncons
  refine All2.cons ?_ (aAQ h2)
  obtain ⟨b, cs⟩ := p
  cases b with
  | true =>
   obtain ⟨us, rfl, h3⟩ := h1
   exact ⟨us, rfl, g7 h3⟩
  | false =>
   cases cs with
   | nil => exact h1.elim
   | cons c cs =>
    cases cs with
    | cons _ _ => exact h1.elim
    | nil =>
     rcases aIC (m := m) (c := c) with e | ⟨q, e⟩
     show bR w pl own (false, jD m [c]) y
     rw [e]; exact h1
     show bR w pl own (false, jD m [c]) y
     rw [e]; exact rA h1
theorem m9 {f : FuncId} {ins : List SV} {refs : bI} {ps : List (Bool × List C)} {post : bI} (ms : List (List (Option Nat))) (h : SpG g f ins refs (.tup ps) post) : SpG g f ins refs (.tup (aLJ ms ps)) post := by
 intro fr w pl args hw hG m ha
 refine (h fr w pl args hw hG m ha).mono ?_
 rintro e w' ⟨v, pl', rfl, m', hv⟩
 obtain ⟨vs, rfl, h2⟩ := hv
 exact ⟨_, pl', rfl, m', vs, rfl, aAQ h2⟩
theorem iE {a b : List UInt8} : eC (a ++ b) = (eC a && eC b) := by simp [eC]
theorem wE {f : FuncId} {ins : List SV} {out : SV} {post : bI} {s s' : ByteArray} (e : s = s') (h : SpG g f ins [(0, .box 206 [cS s'])] out post) : SpG g f ins [(0, .box 206 [cS s])] out post := by subst e; exact h
theorem wT {l : List UInt8} (h : l.all dY = true) : eC l = true := by
 rw [eC, List.all_eq_true]
 intro x hx
 have := List.all_eq_true.1 h x hx
 simp only [dY, Bool.and_eq_true, decide_eq_true_eq] at this
 simp only [decide_eq_true_eq]; omega
theorem rY : ∀ {l : List UInt8}, eC l = true → eC (cU l) = true
 | [], _ => rfl
 | x :: l, h => by
  simp only [eC, List.all_cons, Bool.and_eq_true] at h
  have ih := rY (l := l) h.2
  have hx := h.1
  simp only [cU, List.flatMap_cons] at ih ⊢
  rw [iE, ih, Bool.and_true]
  unfold xR
  split
  decide
  simp [eC, hx]
theorem aGL {v : Tv} (h : bY v) : eC (tvT v) = true := by
 cases v with
 | none => decide
 | some s =>
  have h2 : s.all dY = true := by
   unfold bY c6 at h
   simp only [Bool.and_eq_true] at h
   have := h.1
   simpa [bs, tvS, S] using this
  simp only [tvT]
  rw [show ((39 : UInt8) :: (cU s ++ [39])) = [39] ++ (cU s ++ [39]) from rfl, iE, iE, rY (wT h2)]
  decide
def tlR (l : List Tv) (k : Nat) : List UInt8 := if k + 1 < l.length then 124 :: rwT (l.drop (k + 1)) else []
theorem tlR_end (l : List Tv) (k : Nat) : iG (tlR l k) := by
 unfold tlR
 split
 exact .inr ⟨124, _, rfl, rfl⟩
 exact .inl rfl
theorem aB5 {l : List Tv} {k : Nat} (h : k < l.length) : rwT (l.drop k) = tvT (l.getD k none) ++ tlR l k := by
 have e : l.drop k = l.getD k none :: l.drop (k + 1) := by
  rw [List.getD_eq_getElem?_getD, List.getElem?_eq_getElem h]; exact List.drop_eq_getElem_cons h
 unfold tlR rwT
 rw [e]
 by_cases h1 : k + 1 < l.length
 rw [if_pos h1]
 obtain ⟨x, r, hx⟩ : ∃ x r, l.drop (k + 1) = x :: r := by
  cases hd : l.drop (k + 1) with
  | nil => have := congrArg List.length hd; simp at this; omega
  | cons x r => exact ⟨x, r, rfl⟩
 rw [hx]; simp [joinL]
 rw [if_neg h1]
 have : l.drop (k + 1) = [] := List.drop_eq_nil_of_le (by omega)
 rw [this]; simp [joinL]
theorem aEN (l : List Tv) (k : Nat) : eI 124 (tlR l k) = decide (k + 1 < l.length) ∧ dE 124 (tlR l k) = rwT (l.drop (k + 1)) := by
 unfold tlR
 by_cases h : k + 1 < l.length
 rw [if_pos h]; simp [eI, dE, h]
 rw [if_neg h]
 have : l.drop (k + 1) = [] := List.drop_eq_nil_of_le (by omega)
 rw [this]; simp [eI, dE, h, rwT, joinL]
theorem aG7 {l : List Tv} (h : ∀ v, v ∈ l → bY v) : eC (rwT l) = true := by
 induction l with
 | nil => rfl
 | cons v r ih =>
  have h1 := aGL (h v (by simp))
  have h2 := ih fun x hx => h x (by simp [hx])
  have e := aB5 (l := v :: r) (k := 0) (by simp)
  simp only [List.drop_zero, List.getD_cons_zero] at e
  rw [e, iE, h1, Bool.true_and]
  unfold tlR
  split
  rw [show ((124 : UInt8) :: rwT (List.drop (0 + 1) (v :: r))) = [124] ++ rwT r from rfl, iE, h2]; rfl
  rfl
theorem wG {l : List Tv} (h : l ≠ []) : rwT l ≠ [] := by
 cases l with
 | nil => exact absurd rfl h
 | cons v r =>
  have e := aB5 (l := v :: r) (k := 0) (by simp)
  simp only [List.drop_zero, List.getD_cons_zero] at e
  rw [e]
  intro hh
  exact tvT_ne v (List.append_eq_nil_iff.1 hh).1
theorem word0 {r : List UInt8} (hr : iG r) : (48 :: r).takeWhile eW = [48] ∧ (48 :: r).dropWhile eW = r := aGG (w := [48]) (by decide) hr
theorem atoi0 {r : List UInt8} (hr : iG r) : SpG g 68 [.c (cS (S ((48 :: r).takeWhile eW)))] [] (.tup [(false, [cI 0]), (false, [.d (.v .nilIface)])]) [] := by
 rw [(word0 hr).1, ← itoa0]
 exact jP 0 ⟨by decide, by decide⟩
theorem aJJ (s : List UInt8) {r : List UInt8} (hr : iG r) : tqM ((cU s ++ 39 :: r).length + 1) [] (cU s ++ 39 :: r) = (true, s, r) := by
 have := tq_of ((cU s ++ 39 :: r).length + 1) s [] r (by omega) hr
 simpa using this
abbrev y2 : Ob := .box 89 [.bx 0 0, .ar 1 0]
theorem r8 (es : List (List D)) :
  SpG g 61 [.c (.bx 0 0)] [(0, y2), (1, .arr 0 5 1 (es))] (.tup []) [(0, y2), (1, .arr 0 5 1 (es))] := by
 refine aP 20 Tryz.func61 (by kernel_rfl) fun fr hG => ?_
 refine zc hG [] [1] (false) aC (fun hc1 => absurd hc1 (by decide)) (fun _ => ?_)
 refine zC hG [] [1, 1, 1] (false) (⟨[], [(0, y2), (1, .arr 0 5 1 (es))]⟩) aC (fun hc2 => absurd hc2 (by decide)) (fun _ => ?_)
 exact zr hG [] [] aC
abbrev y3 : Ob := .box 89 [.d (.v (.pointer none)), cN]
theorem aD5  :
  SpG g 61 [.c (.bx 0 0)] [(0, y3)] (.tup []) [(0, .box 89 [.bx 0 0, cN])] := by
 refine aP 20 Tryz.func61 (by kernel_rfl) fun fr hG => ?_
 refine zc hG [] [1] (true) aC (fun _ => ?_) (fun hc1 => absurd hc1 (by decide))
 exact zr hG [] [] (aB (show mW Tryz.prog 114 from tX))
abbrev y4 (a0 : Int) : SV := .tup [(false, [cI a0]), (false, [.d (.v (.nilIface))])]
abbrev y5 (a0 : List (List D)) : Ob := .arr 0 5 1 a0
theorem u5 (s : ByteArray) (h : s.size ≤ 1000000000000) :
  SpG g 34 [.c (.bx 0 0), .c (cS s)] [(0, y3)] (y4 (s.size : Int)) [(0, .box 89 [.bx 0 0, .ar 100 0]), (100, y5 (bytesD s.data.toList))] := by
 refine aP 19 Tryz.func34 (by kernel_rfl) fun fr hG => ?_
 exact zr hG [(1, 1, .callG (.tup []) [0] [(0, .box 89 [.bx 0 0, cN])])] [306] (aA (aD5 : SpG g _ _ _ _ _) (aB (by intros; first | assumption | omega : (s).size ≤ 1000000000000)))
theorem u6 (es : List (List D)) (s : ByteArray) (h : es.length + s.size ≤ 1000000000000) :
  SpG g 34 [.c (.bx 0 0), .c (cS s)] [(0, y2), (1, .arr 0 5 1 (es))] (y4 (s.size : Int)) [(0, y2), (1, y5 (es ++ bytesD s.data.toList))] := by
 refine aP 19 Tryz.func34 (by kernel_rfl) fun fr hG => ?_
 exact zr hG [(1, 1, .callG (.tup []) [0, 1] [(0, y2), (1, .arr 0 5 1 (es))])] [] (aA (r8 (es) : SpG g _ _ _ _ _) (aB (by intros; first | assumption | omega : (es).length + (s).size ≤ 1000000000000)))
theorem sE (es : List (List D)) (r : ByteArray) (h : es = bytesD r.data.toList) :
  SpG g 36 [.c (.bx 0 0)] [(0, y2), (1, .arr 0 5 1 (es))] (.c (cS r)) [(1, .arr 0 5 1 []), (0, .box 89 [.bx 0 0, .any])] := by
 refine aP 14 Tryz.func36 (by kernel_rfl) fun fr hG => ?_
 exact zr hG [(1, 10, kS (r))] [] (aA (show es = bytesD (r).data.toList from h) (aB (by intros; first | assumption | (rw [h, bK]; rfl) : (((es).length : Int) : Int) = ((r).size : Int))))
theorem gT (es : List (List D)) (r : ByteArray) (h : es = bytesD r.data.toList) :
  SpG g 36 [.c (.bx 0 0)] [(0, y2), (1, .arr 0 5 1 es)] (.c (cS r)) [(0, .box 89 [.bx 0 0, .any]), (1, .arr 0 5 1 [])] :=
 b9 (sE es r h) (by funext i; match i with | 0 => rfl | 1 => rfl | i + 2 => rfl)
def zq5 := And.intro @List.length_cons.{0} (@List.length_nil.{0})
theorem p4 (es : List (List D)) (c : Int) (h : es.length ≤ 1000000000000) :
  SpG g 321 [.c (.bx 0 0), .c (.d (.y c))] [(0, y2), (1, .arr 0 5 1 (es))] (.c (.d (.v (.nilIface)))) [(0, y2), (1, y5 (es ++ [[D.y c]]))] := by
 refine aP 17 Tryz.func321 (by kernel_rfl) fun fr hG => ?_
 exact zr hG [(1, 1, .callG (.tup []) [0, 1] [(0, y2), (1, .arr 0 5 1 (es))])] [] (aA (r8 (es) : SpG g _ _ _ _ _) (aB (by intros; (try simp only [zq5]); omega : ((es).length + ([[.y c]] : List (List D)).length) * (1 + 1) ≤ 140737488355328)))
def zq6 := And.intro @kM (And.intro @aGE (And.intro @aM (@blS)))
abbrev y6 (a0 : ByteArray) : Ob := .box 206 [cS a0]
theorem pQ (l : List UInt8) (c : UInt8) :
  SpG g 122 [.c (.bx 0 0), .c (.d (.y c.toNat))] [(0, .box 206 [cS (S l)])] (.c (cB (eI c l))) [(0, y6 (S (dE c l)))] := by
 refine aP 27 Tryz.func122 (by kernel_rfl) fun fr hG => ?_
 refine zC hG [] [1, 0, 1] (((S l).toList == (S []).toList) || (!decide ((byteAt (S l) 0 : Int) = c.toNat))) (⟨[zX 0 0 0, zB 4 false], [(0, .box 206 [cS (S l)])]⟩) (aB (by first | (intro h; rw [kM] at h; have := List.length_pos_iff.2 h; rw [aM]; omega) | (have := List.length_pos_iff.2 hc1.1; rw [aM]; omega) : ((S l).toList == (S []).toList) = false → (0 : Int) ≤ 0 ∧ 0 < ((S l).size : Int))) (fun hc1 => ?_) (fun hc1 => ?_)
 (try simp only [zq6] at hc1)
 refine zR hG [] [] (.c (cB false)) [(0, .box 206 [cS (S l)])] aC ?_ ?_
 rw [(aEO hc1).1]
 rw [(aEO hc1).2]
 (try simp only [zq6] at hc1)
 refine zR hG [] [] (.c (cB true)) [(0, y6 ((S l).extract 1 (S l).size))] (aB (by first | (intro h; rw [kM] at h; have := List.length_pos_iff.2 h; rw [aM]; omega) | (have := List.length_pos_iff.2 hc1.1; rw [aM]; omega) : (0 : Int) ≤ 1 ∧ (1 : Int) ≤ ((S l).size : Int) ∧ ((S l).size : Int) ≤ ((S l).size : Int))) ?_ ?_
 rw [(zO hc1.1 hc1.2).1]
 rw [(zO hc1.1 hc1.2).2, jS]
theorem word_ok (l : List UInt8) (hl : l.length < 4294967281) (ha : eC l = true) :
  SpG g 258 [.c (.bx 0 0)] [(0, .box 206 [cS (S l)])] (.c (cS (S (l.takeWhile eW)))) [(0, y6 (S (l.dropWhile eW)))] := by
 have hw := o5 l
 refine aP 33 Tryz.func258 (by kernel_rfl) fun fr hG => ?_
 refine zC hG [(1, 4, kI (Lib.indexAny (l) seps))] [1, 0, 1, 1] (decide ((Lib.indexAny (l) seps : Int) < 0)) (⟨[zX 0 0 0, zS 2 (S []), zI 3 (Lib.indexAny (l) seps)], [(0, .box 206 [cS (S l)])]⟩) (aB (aAY (l) hl ha : SpG g _ _ _ _ _)) (fun hc1 => ?_) (fun hc1 => ?_)
 (try simp only [blS, aM] at hc1)
 refine zR hG [] [] (.c (cS ((S l).extract 0 ((S l).size)))) [(0, y6 ((S l).extract ((S l).size) (S l).size))] (aA (by intros; (try simp only [aM] at *); first | omega | decide : (0 : Int) ≤ 0 ∧ (0 : Int) ≤ ((S l).size : Int) ∧ ((S l).size : Int) ≤ ((S l).size : Int)) (aB (by intros; (try simp only [aM] at *); first | omega | decide : (0 : Int) ≤ ((S l).size : Int) ∧ (((S l).size : Int) : Int) ≤ ((S l).size : Int) ∧ ((S l).size : Int) ≤ ((S l).size : Int)))) ?_ ?_
 obtain ⟨h1, h2, h3⟩ : Lib.indexAny l seps < 0 ∧ l.takeWhile eW = l ∧ l.dropWhile eW = [] := by rcases hw with h | h <;> first | exact h | (exfalso; omega)
 rw [h2, aN2, aM]; simp
 obtain ⟨h1, h2, h3⟩ : Lib.indexAny l seps < 0 ∧ l.takeWhile eW = l ∧ l.dropWhile eW = [] := by rcases hw with h | h <;> first | exact h | (exfalso; omega)
 rw [h3, aN2, aM]; simp
 (try simp only [blS, aM] at hc1)
 refine zR hG [] [] (.c (cS ((S l).extract 0 (Lib.indexAny (l) seps : Int).toNat))) [(0, y6 ((S l).extract (Lib.indexAny (l) seps : Int).toNat (S l).size))] (aA (by intros; (try simp only [aM] at *); first | omega | decide : (0 : Int) ≤ 0 ∧ (0 : Int) ≤ (Lib.indexAny (l) seps) ∧ (Lib.indexAny (l) seps) ≤ ((S l).size : Int)) (aB (by intros; (try simp only [aM] at *); first | omega | decide : (0 : Int) ≤ (Lib.indexAny (l) seps) ∧ (Lib.indexAny (l) seps : Int) ≤ ((S l).size : Int) ∧ ((S l).size : Int) ≤ ((S l).size : Int)))) ?_ ?_
 obtain ⟨h1, h2, h3, h4⟩ : 0 ≤ Lib.indexAny l seps ∧ Lib.indexAny l seps ≤ l.length ∧ l.takeWhile eW = l.take (Lib.indexAny l seps).toNat ∧ l.dropWhile eW = l.drop (Lib.indexAny l seps).toNat := by rcases hw with h | h <;> first | exact h | (exfalso; omega)
 rw [h3, aN2]; simp
 obtain ⟨h1, h2, h3, h4⟩ : 0 ≤ Lib.indexAny l seps ∧ Lib.indexAny l seps ≤ l.length ∧ l.takeWhile eW = l.take (Lib.indexAny l seps).toNat ∧ l.dropWhile eW = l.drop (Lib.indexAny l seps).toNat := by rcases hw with h | h <;> first | exact h | (exfalso; omega)
 rw [h4, jS]
abbrev y7 : SV := .tup [(true, [cI 0, cS (S []), cI 0, cI 0, cI 0, cN, cN]), (false, [cB true])]
theorem aMB (r : List UInt8) (hl : r.length < 1000000000) (hr : iG r) (ha : eC (48 :: r) = true) :
  SpG g 260 [.c (.bx 0 0)] [(0, y6 (S (48 :: r)))] (y7) [(0, .box 206 [cS (S r)])] := by
 refine aP 16 Tryz.func260 (by kernel_rfl) fun fr hG => ?_
 refine zR hG [(1, 1, .callG (.c (cS (S ((48 :: r).takeWhile eW)))) [0] [(0, y6 (S ((48 :: r).dropWhile eW)))]), (1, 2, kC (.tup [(false, [cI 0]), (false, [.d (.v (.nilIface))])]))] [] (y7) [(0, y6 (S ((48 :: r).dropWhile eW)))] (aA (word_ok (48 :: r) (by rw [List.length_cons]; omega) ha : SpG g _ _ _ _ _) (aB (atoi0 hr : SpG g _ _ _ _ _))) ?_ ?_
 rfl
 rw [(word0 hr).2]
abbrev y8 : Ob := .box 61 [cI 0, cS (S []), cI 0, cI 0, cI 0, cN, cN]
noncomputable def txO (es : List (List D)) (r : List UInt8) : Nat → bI
 | 0 => [(0, .box 206 [cS (S r)]), (100, y8), (200, y3)]
 | _ => [(0, .box 206 [cS (S r)]), (100, y8), (200, .box 89 [.bx 200 0, .ar 606 0]), (606, .arr 0 5 1 (es))]
def zq7 := And.intro @List.length_append.{0} (And.intro @List.length_cons.{0} (And.intro @List.length_nil.{0} (@List.length_take.{0})))
abbrev y9 (a0 : Int) (a1 : ByteArray) (a2 : Bool) : SV := .tup [(true, [cI a0, cS a1, cI 0, cI 0, cI 0, cN, cN]), (false, [cB a2])]
theorem aJN (l : List UInt8) (hl : l.length < 1000000000) :
  SpG g 261 [.c (.bx 0 0)] [(0, .box 206 [cS (S l)])] (y9 (if (tqM (l.length + 1) [] l).1 then 1 else 0) (S (tqM (l.length + 1) [] l).2.1) ((tqM (l.length + 1) [] l).1)) [(0, y6 (S (tqM (l.length + 1) [] l).2.2))] := by
 refine aP 37 Tryz.func261 (by kernel_rfl) fun fr hG => ?_
 refine zL hG [] [0, 1, 1] (fun (zz : Nat × Nat × List UInt8 × List UInt8 × List (List D)) => match zz with | (k, n, acc, r, es) => (r.length, ⟨[zX 0 0 0, zX 2 100 0, zB 3 false, zX 4 200 0], txO es r k⟩, k ≤ 1 ∧ (k = 0 → acc = []) ∧ r.length < n ∧ acc.length + r.length ≤ l.length + 1 ∧ tqM (l.length + 1) [] l = tqM n acc r ∧ (k = 1 → es = bytesD (S acc).data.toList))) (0, l.length + 1, [], l, []) aC ?_ ?_
 exact ⟨by omega, fun _ => rfl, by omega, by simp, rfl, by omega⟩
 rintro ⟨k, n, acc, r, es⟩ ⟨hk, hz, hrn, hal, hm, hes⟩
 have hib := mD r 39
 have hsl := aG5 39 (r.drop ((Lib.indexByte r 39).toNat + 1))
 rw [List.length_drop] at hsl
 have htl : (r.take (Lib.indexByte r 39).toNat).length ≤ (Lib.indexByte r 39).toNat := by rw [List.length_take]; omega
 have hst := tq_step (acc := acc) hrn
 rcases (by omega : k = 0 ∨ k = 1) with rfl | rfl
 skip
 refine zP hG [(2, 4, kI (Lib.indexByte r 39))] [1, 0, 1, 0] ((Lib.indexByte r 39 : Int) < 0) (⟨[zX 0 0 0, zX 2 100 0, zB 3 false, zX 4 200 0, zI 5 (Lib.indexByte r 39)], [(0, .box 206 [cS (S r)]), (100, y8), (200, y3)]⟩) (aB (mC r 39 : SpG g _ _ _ _ _)) (fun hc2 => ?_) (fun hc2 => ?_)
 skip
 refine zE hG [] .ret (⟨[zX 2 100 0, zB 3 false], [(0, .box 206 [cS (S r)]), (100, y8)]⟩) aC rfl ?_
 refine zR hG [] [] (.tup [(true, [cI 0, cS (S []), cI 0, cI 0, cI 0, cN, cN]), (false, [cB false])]) [(0, .box 206 [cS (S r)])] aC ?_ ?_
 rw [hm, hst, if_pos hc2]; rfl
 rw [hm, hst, if_pos hc2]
 skip
 refine zC hG [(5, 6, .callG (y4 (((S r).extract 0 (Lib.indexByte r 39 : Int).toNat).size : Int)) [200] [(0, .box 89 [.bx 0 0, .ar 100 0]), (100, y5 (bytesD ((S r).extract 0 (Lib.indexByte r 39 : Int).toNat).data.toList))]), (7, 1, .callG (.c (cB (eI 39 (r.drop ((Lib.indexByte r 39).toNat + 1))))) [0] [(0, y6 (S (dE 39 (r.drop ((Lib.indexByte r 39).toNat + 1)))))])] [1, 0, 1, 1, 1, 1, 0] (!(eI 39 (r.drop ((Lib.indexByte r 39).toNat + 1)))) (⟨[zX 0 0 0, zX 2 100 0, zB 3 false, zX 4 200 0], [(0, y6 (S (dE 39 (r.drop ((Lib.indexByte r 39).toNat + 1))))), (100, y8), (200, .box 89 [.bx 200 0, .ar 606 0]), (606, y5 (bytesD ((S r).extract 0 (Lib.indexByte r 39 : Int).toNat).data.toList))]⟩) (aA (by intros; (try simp only [aM] at *); first | omega | (refine ⟨?_, ?_⟩ <;> omega) : (0 : Int) ≤ 0 ∧ (0 : Int) ≤ (Lib.indexByte r 39) ∧ (Lib.indexByte r 39) ≤ ((S r).size : Int)) (aA (u5 ((S r).extract 0 (Lib.indexByte r 39 : Int).toNat) (by first | (rw [gM, aM]; simp only [zq7, List.drop_zero]; omega) | (rw [hes rfl, bK, cR, gM, aM]; simp only [zq7, List.drop_zero]; omega)) : SpG g _ _ _ _ _) (aA (by intros; (try simp only [aM] at *); first | omega | (refine ⟨?_, ?_⟩ <;> omega) : inR ((Lib.indexByte r 39) + 1)) (aA (by intros; (try simp only [aM] at *); first | omega | (refine ⟨?_, ?_⟩ <;> omega) : (0 : Int) ≤ ((Lib.indexByte r 39) + 1) ∧ ((Lib.indexByte r 39) + 1 : Int) ≤ ((S r).size : Int) ∧ ((S r).size : Int) ≤ ((S r).size : Int)) (aB (wE (pE (by omega)) (pQ (r.drop ((Lib.indexByte r 39).toNat + 1)) 39) : SpG g _ _ _ _ _)))))) (fun hc3 => ?_) (fun hc3 => ?_)
 (try simp only [blS] at hc3)
 refine zE hG [(8, 0, .callG (.c (cS (S (acc ++ r.take (Lib.indexByte r 39).toNat)))) [200, 606] [(0, .box 89 [.bx 0 0, .any]), (1, y5 ([] : List (List D)))])] .ret (⟨[zX 2 100 0, zB 3 true], [(0, y6 (S (dE 39 (r.drop ((Lib.indexByte r 39).toNat + 1))))), (100, .box 61 [cI 1, cS (S (acc ++ r.take (Lib.indexByte r 39).toNat)), cI 0, cI 0, cI 0, cN, cN])]⟩) (aB (gT (bytesD ((S r).extract 0 (Lib.indexByte r 39 : Int).toNat).data.toList) (S (acc ++ r.take (Lib.indexByte r 39).toNat)) (by first | exact xS (hz rfl) | exact xT (hes rfl)) : SpG g _ _ _ _ _)) rfl ?_
 refine zR hG [] [] (.tup [(true, [cI 1, cS (S (acc ++ r.take (Lib.indexByte r 39).toNat)), cI 0, cI 0, cI 0, cN, cN]), (false, [cB true])]) [(0, y6 (S (dE 39 (r.drop ((Lib.indexByte r 39).toNat + 1)))))] aC ?_ ?_
 have e : tqM n acc r = (true, acc ++ r.take (Lib.indexByte r 39).toNat, r.drop ((Lib.indexByte r 39).toNat + 1)) := by rw [hst, if_neg hc2, hc3]; rfl
 rw [hm, e]; rfl
 have e : tqM n acc r = (true, acc ++ r.take (Lib.indexByte r 39).toNat, r.drop ((Lib.indexByte r 39).toNat + 1)) := by rw [hst, if_neg hc2, hc3]; rfl
 rw [hm, e, p9 hc3]
 (try simp only [blS] at hc3)
 refine zD hG [(9, 0, .callG (.c (.d (.v (.nilIface)))) [200, 606] [(0, y2), (1, y5 ((bytesD ((S r).extract 0 (Lib.indexByte r 39 : Int).toNat).data.toList) ++ [[D.y 39]]))])] (1, n - 1, acc ++ (r.take (Lib.indexByte r 39).toNat) ++ [39], dE 39 (r.drop ((Lib.indexByte r 39).toNat + 1)), (bytesD ((S r).extract 0 (Lib.indexByte r 39 : Int).toNat).data.toList) ++ [[D.y 39]]) (aB (p4 (bytesD ((S r).extract 0 (Lib.indexByte r 39 : Int).toNat).data.toList) 39 (by first | (rw [bK, gM, cR]; simp only [zq7, List.drop_zero]; omega) | (rw [List.length_append, hes rfl, bK, bK, gM, cR, cR]; simp only [zq7, List.drop_zero]; omega)) : SpG g _ _ _ _ _)) ?_ ?_
 (try dsimp only); omega
 refine ⟨by omega, by omega, by omega, by simp only [zq1]; omega, ?_, fun _ => ?_⟩
 rw [hm, hst, if_neg hc2, if_pos hc3]
 exact es_39 (by first | exact xS (hz rfl) | exact xT (hes rfl))
 skip
 refine zP hG [(2, 4, kI (Lib.indexByte r 39))] [1, 0, 1, 0] ((Lib.indexByte r 39 : Int) < 0) (⟨[zX 0 0 0, zX 2 100 0, zB 3 false, zX 4 200 0, zI 5 (Lib.indexByte r 39)], [(0, .box 206 [cS (S r)]), (100, y8), (200, .box 89 [.bx 200 0, .ar 606 0]), (606, .arr 0 5 1 (es))]⟩) (aB (mC r 39 : SpG g _ _ _ _ _)) (fun hc4 => ?_) (fun hc4 => ?_)
 skip
 refine zE hG [] .ret (⟨[zX 2 100 0, zB 3 false], [(0, .box 206 [cS (S r)]), (100, y8)]⟩) aC rfl ?_
 refine zR hG [] [] (.tup [(true, [cI 0, cS (S []), cI 0, cI 0, cI 0, cN, cN]), (false, [cB false])]) [(0, .box 206 [cS (S r)])] aC ?_ ?_
 rw [hm, hst, if_pos hc4]; rfl
 rw [hm, hst, if_pos hc4]
 skip
 refine zC hG [(5, 6, .callG (y4 (((S r).extract 0 (Lib.indexByte r 39 : Int).toNat).size : Int)) [200, 606] [(0, y2), (1, y5 ((es) ++ bytesD ((S r).extract 0 (Lib.indexByte r 39 : Int).toNat).data.toList))]), (7, 1, .callG (.c (cB (eI 39 (r.drop ((Lib.indexByte r 39).toNat + 1))))) [0] [(0, y6 (S (dE 39 (r.drop ((Lib.indexByte r 39).toNat + 1)))))])] [1, 0, 1, 1, 1, 1, 0] (!(eI 39 (r.drop ((Lib.indexByte r 39).toNat + 1)))) (⟨[zX 0 0 0, zX 2 100 0, zB 3 false, zX 4 200 0], [(0, y6 (S (dE 39 (r.drop ((Lib.indexByte r 39).toNat + 1))))), (100, y8), (200, .box 89 [.bx 200 0, .ar 606 0]), (606, y5 ((es) ++ bytesD ((S r).extract 0 (Lib.indexByte r 39 : Int).toNat).data.toList))]⟩) (aA (by intros; (try simp only [aM] at *); first | omega | (refine ⟨?_, ?_⟩ <;> omega) : (0 : Int) ≤ 0 ∧ (0 : Int) ≤ (Lib.indexByte r 39) ∧ (Lib.indexByte r 39) ≤ ((S r).size : Int)) (aA (u6 (es) ((S r).extract 0 (Lib.indexByte r 39 : Int).toNat) (by first | (rw [gM, aM]; simp only [zq7, List.drop_zero]; omega) | (rw [hes rfl, bK, cR, gM, aM]; simp only [zq7, List.drop_zero]; omega)) : SpG g _ _ _ _ _) (aA (by intros; (try simp only [aM] at *); first | omega | (refine ⟨?_, ?_⟩ <;> omega) : inR ((Lib.indexByte r 39) + 1)) (aA (by intros; (try simp only [aM] at *); first | omega | (refine ⟨?_, ?_⟩ <;> omega) : (0 : Int) ≤ ((Lib.indexByte r 39) + 1) ∧ ((Lib.indexByte r 39) + 1 : Int) ≤ ((S r).size : Int) ∧ ((S r).size : Int) ≤ ((S r).size : Int)) (aB (wE (pE (by omega)) (pQ (r.drop ((Lib.indexByte r 39).toNat + 1)) 39) : SpG g _ _ _ _ _)))))) (fun hc5 => ?_) (fun hc5 => ?_)
 (try simp only [blS] at hc5)
 refine zE hG [(8, 0, .callG (.c (cS (S (acc ++ r.take (Lib.indexByte r 39).toNat)))) [200, 606] [(0, .box 89 [.bx 0 0, .any]), (1, y5 ([] : List (List D)))])] .ret (⟨[zX 2 100 0, zB 3 true], [(0, y6 (S (dE 39 (r.drop ((Lib.indexByte r 39).toNat + 1))))), (100, .box 61 [cI 1, cS (S (acc ++ r.take (Lib.indexByte r 39).toNat)), cI 0, cI 0, cI 0, cN, cN])]⟩) (aB (gT ((es) ++ bytesD ((S r).extract 0 (Lib.indexByte r 39 : Int).toNat).data.toList) (S (acc ++ r.take (Lib.indexByte r 39).toNat)) (by first | exact xS (hz rfl) | exact xT (hes rfl)) : SpG g _ _ _ _ _)) rfl ?_
 refine zR hG [] [] (.tup [(true, [cI 1, cS (S (acc ++ r.take (Lib.indexByte r 39).toNat)), cI 0, cI 0, cI 0, cN, cN]), (false, [cB true])]) [(0, y6 (S (dE 39 (r.drop ((Lib.indexByte r 39).toNat + 1)))))] aC ?_ ?_
 have e : tqM n acc r = (true, acc ++ r.take (Lib.indexByte r 39).toNat, r.drop ((Lib.indexByte r 39).toNat + 1)) := by rw [hst, if_neg hc4, hc5]; rfl
 rw [hm, e]; rfl
 have e : tqM n acc r = (true, acc ++ r.take (Lib.indexByte r 39).toNat, r.drop ((Lib.indexByte r 39).toNat + 1)) := by rw [hst, if_neg hc4, hc5]; rfl
 rw [hm, e, p9 hc5]
 (try simp only [blS] at hc5)
 refine zD hG [(9, 0, .callG (.c (.d (.v (.nilIface)))) [200, 606] [(0, y2), (1, y5 (((es) ++ bytesD ((S r).extract 0 (Lib.indexByte r 39 : Int).toNat).data.toList) ++ [[D.y 39]]))])] (1, n - 1, acc ++ (r.take (Lib.indexByte r 39).toNat) ++ [39], dE 39 (r.drop ((Lib.indexByte r 39).toNat + 1)), ((es) ++ bytesD ((S r).extract 0 (Lib.indexByte r 39 : Int).toNat).data.toList) ++ [[D.y 39]]) (aB (p4 ((es) ++ bytesD ((S r).extract 0 (Lib.indexByte r 39 : Int).toNat).data.toList) 39 (by first | (rw [bK, gM, cR]; simp only [zq7, List.drop_zero]; omega) | (rw [List.length_append, hes rfl, bK, bK, gM, cR, cR]; simp only [zq7, List.drop_zero]; omega)) : SpG g _ _ _ _ _)) ?_ ?_
 (try dsimp only); omega
 refine ⟨by omega, by omega, by omega, by simp only [zq1]; omega, ?_, fun _ => ?_⟩
 rw [hm, hst, if_neg hc4, if_pos hc5]
 exact es_39 (by first | exact xS (hz rfl) | exact xT (hes rfl))
def zq8 := And.intro @kM (And.intro @aGE (@blS))
theorem cell_0 (r : List UInt8) (hl : r.length < 999999990) (hr : iG r) (ha : eC (48 :: r) = true) :
  SpG g 184 [.c (.bx 0 0)] [(0, y6 (S (33 :: 48 :: r)))] (y7) [(0, .box 206 [cS (S r)])] := by
 refine aP 50 Tryz.func184 (by kernel_rfl) fun fr hG => ?_
 refine zC hG [] [1, 0, 1] ((S (33 :: 48 :: r)).toList == (S []).toList) (⟨[zX 0 0 0, zX 2 100 0, zB 3 false], [(0, y6 (S (33 :: 48 :: r))), (100, y8)]⟩) aC (fun hc1 => ?_) (fun hc1 => ?_)
 (try simp only [zq8] at hc1)
 exact absurd hc1 (by simp)
 (try simp only [zq8] at hc1)
 refine zC hG [(4, 6, .elem [.i 0])] [1, 0, 1, 1, 1, 1] (false) (⟨[zX 0 0 0, zX 2 100 0, zB 3 false, (5, [], .c (.fn 260 [(0, 0)] []))], [(0, y6 (S (33 :: 48 :: r))), (100, y8)]⟩) (aA (by first | (intro h; rw [kM] at h; have := List.length_pos_iff.2 h; rw [aM]; omega) | (intros; rw [aM]; simp only [List.length_cons]; omega) | omega : (0 : Int) ≤ 0 ∧ 0 < ((S (33 :: 48 :: r)).size : Int)) (aB (show (byteAt (S (33 :: 48 :: r)) 0 : Int) = 33 from (byte0 33 (48 :: r))))) (fun hc2 => absurd hc2 (by decide)) (fun _ => ?_)
 exact zr hG [(8, 1, .callG (y7) [0] [(0, .box 206 [cS (S r)])])] [] (aA (by first | (intro h; rw [kM] at h; have := List.length_pos_iff.2 h; rw [aM]; omega) | (intros; rw [aM]; simp only [List.length_cons]; omega) | omega : (0 : Int) ≤ 1 ∧ (1 : Int) ≤ ((S (33 :: 48 :: r)).size : Int) ∧ ((S (33 :: 48 :: r)).size : Int) ≤ ((S (33 :: 48 :: r)).size : Int)) (aB (wE (aN1 33 (48 :: r)) (aMB r (by omega) hr ha) : SpG g _ _ _ _ _)))
theorem cell_1 (t : List UInt8) (hl : t.length < 999999999) :
  SpG g 184 [.c (.bx 0 0)] [(0, y6 (S (39 :: t)))] (y9 (if (tqM (t.length + 1) [] t).1 then 1 else 0) (S (tqM (t.length + 1) [] t).2.1) ((tqM (t.length + 1) [] t).1)) [(0, y6 (S (tqM (t.length + 1) [] t).2.2))] := by
 refine aP 50 Tryz.func184 (by kernel_rfl) fun fr hG => ?_
 refine zC hG [] [1, 0, 1] ((S (39 :: t)).toList == (S []).toList) (⟨[zX 0 0 0, zX 2 100 0, zB 3 false], [(0, y6 (S (39 :: t))), (100, y8)]⟩) aC (fun hc1 => ?_) (fun hc1 => ?_)
 (try simp only [zq8] at hc1)
 exact absurd hc1 (by simp)
 (try simp only [zq8] at hc1)
 refine zC hG [(4, 6, .elem [.i 1])] [1, 0, 1, 1, 1, 1] (false) (⟨[zX 0 0 0, zX 2 100 0, zB 3 false, (5, [], .c (.fn 261 [(0, 0)] []))], [(0, y6 (S (39 :: t))), (100, y8)]⟩) (aA (by first | (intro h; rw [kM] at h; have := List.length_pos_iff.2 h; rw [aM]; omega) | (intros; rw [aM]; simp only [List.length_cons]; omega) | omega : (0 : Int) ≤ 0 ∧ 0 < ((S (39 :: t)).size : Int)) (aB (show (byteAt (S (39 :: t)) 0 : Int) = 39 from (byte0 39 t)))) (fun hc2 => absurd hc2 (by decide)) (fun _ => ?_)
 exact zr hG [(8, 1, .callG (y9 (if (tqM (t.length + 1) [] t).1 then 1 else 0) (S (tqM (t.length + 1) [] t).2.1) ((tqM (t.length + 1) [] t).1)) [0] [(0, y6 (S (tqM (t.length + 1) [] t).2.2))])] [] (aA (by first | (intro h; rw [kM] at h; have := List.length_pos_iff.2 h; rw [aM]; omega) | (intros; rw [aM]; simp only [List.length_cons]; omega) | omega : (0 : Int) ≤ 1 ∧ (1 : Int) ≤ ((S (39 :: t)).size : Int) ∧ ((S (39 :: t)).size : Int) ≤ ((S (39 :: t)).size : Int)) (aB (wE (aN1 39 t) (aJN t (by omega)) : SpG g _ _ _ _ _)))
abbrev y10 (a0 : Int) (a1 : ByteArray) (a2 : List (List D)) : SV := .tup [(true, [cI a0, cS a1, cI 0, cI 0, cI 0, cM 1 a2, cM 1 a2]), (false, [cB true])]
theorem cell_tv (v : Tv) (hv : bY v) (r : List UInt8) (hl : r.length < 900000000) (hr : iG r) (ha : eC r = true) : SpG g 184 [.c (.bx 0 0)] [(0, y6 (S (tvT v ++ r)))] (y10 (tvK v) (S (tvS v)) ([] : List (List D))) [(0, .box 206 [cS (S (r))])] := by
 have h : SpG g 184 [.c (.bx 0 0)] [(0, y6 (S (tvT v ++ r)))] (.tup [(true, [cI (tvK v), cS (S (tvS v)), cI 0, cI 0, cI 0, .d .nil, .d .nil]), (false, [cB true])]) [(0, .box 206 [cS (S (r))])] := by
  cases v with
  | none => exact cell_0 r (by omega) hr (by simp only [eC, List.all_cons] at ha ⊢; rw [ha]; rfl)
  | some s =>
   have hs := gW hv
   have h2 := mI s
   have e : tvT (some s) ++ r = 39 :: (cU s ++ 39 :: r) := by simp [tvT]
   have hc := cell_1 (g := g) (cU s ++ 39 :: r) (by simp only [zq0, tvS] at *; omega)
   rw [aJJ s hr] at hc
   rw [e]
   exact hc
 exact m9 [[none, none, none, none, none, some 1, some 1], []] h
theorem skip91 (v : Tv) (r : List UInt8) : SpG g 122 [.c (.bx 0 0), .c (.d (.y 91))] [(0, y6 (S (tvT v ++ r)))] (.c (cB false)) [(0, y6 (S (tvT v ++ r)))] := by
 have h := pQ (g := g) (tvT v ++ r) 91
 have e : eI 91 (tvT v ++ r) = false := by cases v <;> rfl
 rw [e, p9 e] at h
 exact h
theorem yI (v : Tv) (hv : bY v) (r : List UInt8) (hl : r.length < 900000000) (hr : iG r) (ha : eC r = true) :
  SpG g 121 [.c (.bx 0 0)] [(0, y6 (S (tvT v ++ r)))] (y10 (tvK v) (S (tvS v)) ([] : List (List D))) [(0, .box 206 [cS (S r)])] := by
 refine aP 14 Tryz.func121 (by kernel_rfl) fun fr hG => ?_
 refine zC hG [(1, 1, .callG (.c (cB false)) [0] [(0, y6 (S (tvT v ++ r)))])] [1, 0, 1] (false) (⟨[zX 0 0 0, zX 2 100 0, zB 3 false], [(0, y6 (S (tvT v ++ r))), (100, y8)]⟩) (aB (skip91 v r : SpG g _ _ _ _ _)) (fun hc1 => absurd hc1 (by decide)) (fun _ => ?_)
 exact zr hG [(3, 1, .callG (y10 (tvK v) (S (tvS v)) ([] : List (List D))) [0] [(0, .box 206 [cS (S r)])])] [] (aB (cell_tv v hv r hl hr ha : SpG g _ _ _ _ _))
theorem aGI (v : Tv) (hv : bY v) : SpG g 121 [.c (.bx 0 0)] [(0, y6 (S (tvT v)))] (y10 (tvK v) (S (tvS v)) ([] : List (List D))) [(0, .box 206 [cS (S ([]))])] := by
 have h := yI (g := g) v hv [] (by simp) (.inl rfl) rfl
 rw [List.append_nil] at h
 exact h
theorem aE0 (v : Tv) (hv : bY v) :
  SpG g 71 [.c (cS (S (tvT v)))] [] (y10 (tvK v) (S (tvS v)) ([] : List (List D))) [] := by
 refine aP 37 Tryz.func71 (by kernel_rfl) fun fr hG => ?_
 refine zC hG [(2, 1, .callG (y10 (tvK v) (S (tvS v)) ([] : List (List D))) [202] [(0, .box 206 [cS (S [])])]), (3, 11, kB true), (3, 16, kS (S (tvT v)))] [1, 0, 1, 1, 1] (!((S (tvT v)).toList == (S (tvT v)).toList)) (⟨[zX 2 100 0, zB 3 false, zX 5 305 0], [(100, y8), (305, y1 (tvK v) (S (tvS v)) ([] : List (List D)))]⟩) (aA (aGI v hv : SpG g _ _ _ _ _) (aA (fun (hg1 : false = false) => (lO v (by assumption) : SpG g _ _ _ _ _)) (aB (fun (hg1 : false = false) => (vZ v (by assumption) : SpG g _ _ _ _ _))))) (fun hc1 => ?_) (fun hc1 => ?_)
 (try simp only [zq8] at hc1)
 simp at hc1
 (try simp only [zq8] at hc1)
 exact zr hG [] [] aC
theorem aAB  :
  SpG g 70 [.c (cS (S []))] [] (.tup [(false, [cN]), (false, [cB true])]) [] := by
 refine aP 35 Tryz.func70 (by kernel_rfl) fun fr hG => ?_
 refine zC hG [] [1, 0, 1] (true) (⟨[zS 0 (S []), zN 2, zB 3 false], []⟩) aC (fun _ => ?_) (fun hc1 => absurd hc1 (by decide))
 exact zr hG [] [] aC
theorem aJC (l : List Tv) (hl : l.length ≤ 8) (hT : ∀ v, v ∈ l → bY v) (k : Nat) (h : k < l.length) : SpG g 121 [.c (.bx 0 0)] [(0, y6 (S (rwT (l.drop k))))] (y10 (tvK (l.getD k none)) (S (tvS (l.getD k none))) ([] : List (List D))) [(0, y6 (S (tlR l k)))] := by
 have ha := aG7 (l := l.drop (k + 1)) fun v hv => hT v (List.mem_of_mem_drop hv)
 have h2 := aEQ (l := l.drop (k + 1)) fun v hv => hT v (List.mem_of_mem_drop hv)
 have h3 : (tlR l k).length < 900000000 ∧ eC (tlR l k) = true := by
  unfold tlR
  rw [List.length_drop] at h2
  split
  refine ⟨by simp only [List.length_cons]; omega, ?_⟩
  simp only [eC, List.all_cons] at ha ⊢; rw [ha]; rfl
  exact ⟨by simp, rfl⟩
 have := yI (g := g) (l.getD k none) (hT _ (bQ h)) (tlR l k) h3.1 (tlR_end l k) h3.2
 rw [← aB5 h] at this
 exact this
theorem skip_at (l : List Tv) (k : Nat) : SpG g 122 [.c (.bx 0 0), .c (.d (.y 124))] [(0, y6 (S (tlR l k)))] (.c (cB (decide (k + 1 < l.length)))) [(0, y6 (S (rwT (l.drop (k + 1)))))] := by
 have h := pQ (g := g) (tlR l k) 124
 rw [(aEN l k).1, (aEN l k).2] at h
 exact h
theorem aB8 {es : List (List D)} {l : List Tv} (h : es = aR l) (hl : l.length ≤ 8) (hT : ∀ v, v ∈ l → bY v) : SpG g 53 [.c (cM 7 es)] [] (.c (cS (S (rwT l)))) [] := by subst h; exact qF l hl hT
theorem lJ {l : List Tv} {k : Nat} (h : k < l.length) : aR (l.take k) ++ [TvD (l.getD k none)] = aR (l.take (k + 1)) := by rw [dP none h]; simp [aR]
def zq9 := And.intro @List.length_append.{0} (And.intro @List.length_cons.{0} (And.intro @List.length_map.{0, 0} (And.intro @List.length_nil.{0} (@Go.Eng.inR.eq_1))))
abbrev y11 (a0 : List (List D)) : SV := .tup [(false, [cM 7 a0]), (false, [cB true])]
theorem aCB (l : List Tv) (hl : l.length ≤ 8) (hne : l ≠ []) (hT : ∀ v, v ∈ l → bY v) :
  SpG g 70 [.c (cS (S (rwT l)))] [] (y11 (aR l)) [] := by
 refine aP 35 Tryz.func70 (by kernel_rfl) fun fr hG => ?_
 refine zC hG [] [1, 0, 1] ((S (rwT l)).toList == (S []).toList) (⟨[zS 0 (S (rwT l)), zN 2, zB 3 false], []⟩) aC (fun hc1 => ?_) (fun hc1 => ?_)
 (try simp only [zq8] at hc1)
 exact absurd hc1 (wG hne)
 (try simp only [zq8] at hc1)
 refine zA hG [] [0, 0, 1, 1, 1, 1] (⟨[zS 0 (S (rwT l)), zN 2, zB 3 false, zX 4 402 0, zN 5], [(402, y6 (S (rwT l)))]⟩) [(5, 9003, 61, 7)] [] (fun (zz : Nat × List (List D)) => match zz with | (k, es) => (l.length - k, ⟨[zS 0 (S (rwT l)), zN 2, zB 3 false, zX 4 402 0, zY 5 9003 0], [(402, y6 (S (rwT (l.drop k)))), (9003, .arr 0 61 7 (es))]⟩, k < l.length ∧ es = aR (l.take k))) (0, []) aC ?_ ?_
 exact ⟨List.length_pos_iff.2 hne, rfl⟩
 rintro ⟨k, es⟩ ⟨hk, hes⟩
 have hel : es.length = k := by rw [hes, aR, List.length_map, List.length_take]; omega
 refine zc hG [] [1, 0] (decide ((((es).length : Int) : Int) < 8)) aC (fun hc3 => ?_) (fun hc3 => ?_)
 (try simp only [zq8] at hc3)
 refine zC hG [(6, 1, .callG (y10 (tvK (l.getD k none)) (S (tvS (l.getD k none))) ([] : List (List D))) [402] [(0, y6 (S (tlR l k)))])] [1, 0, 1, 0, 1] (false) (⟨[zS 0 (S (rwT l)), zN 2, zB 3 false, zX 4 402 0, zY 5 9003 0, zX 6 705 0], [(402, y6 (S (tlR l k))), (705, y1 (tvK (l.getD k none)) (S (tvS (l.getD k none))) ([] : List (List D))), (9003, .arr 0 61 7 (es))]⟩) (aB (aJC l hl hT k hk : SpG g _ _ _ _ _)) (fun hc4 => absurd hc4 (by decide)) (fun _ => ?_)
 refine zC hG [(10, 1, .callG (.c (cB (decide (k + 1 < l.length)))) [402] [(0, y6 (S (rwT (l.drop (k + 1)))))])] [1, 1, 1, 1, 0, 1] (!(decide (k + 1 < l.length))) (⟨[zS 0 (S (rwT l)), zN 2, zB 3 false, zX 4 402 0, zY 5 9003 0], [(402, y6 (S (rwT (l.drop (k + 1))))), (9003, .arr 0 61 7 (es ++ ([[.i (tvK (l.getD k none)), .s (S (tvS (l.getD k none))), .i 0, .i 0, .i 0, .sl 1 ([] : List (List D)), .sl 1 ([] : List (List D))]] : List (List D))))]⟩) (aA (by intros; (try simp only [zq9, aR] at *); omega : ((es).length + ([[.i (tvK (l.getD k none)), .s (S (tvS (l.getD k none))), .i 0, .i 0, .i 0, .sl 1 ([] : List (List D)), .sl 1 ([] : List (List D))]] : List (List D)).length) * (96 + 1) ≤ 140737488355328) (aB (skip_at l k : SpG g _ _ _ _ _))) (fun hc5 => ?_) (fun hc5 => ?_)
 (try simp only [zq8] at hc5)
 refine zE hG [] (.exit 0) (⟨[zS 0 (S (rwT l)), zN 2, zB 3 false, zY 5 9003 0], [(9003, .arr 0 61 7 (es ++ ([[.i (tvK (l.getD k none)), .s (S (tvS (l.getD k none))), .i 0, .i 0, .i 0, .sl 1 ([] : List (List D)), .sl 1 ([] : List (List D))]] : List (List D))))]⟩) aC rfl ?_
 refine zC hG [(11, 1, kS (S (rwT l)))] [1, 0, 1, 1, 1, 1, 1] (!((S (rwT l)).toList == (S (rwT l)).toList)) (⟨[zN 2, zB 3 false, zY 5 9003 0], [(9003, .arr 0 61 7 (es ++ ([[.i (tvK (l.getD k none)), .s (S (tvS (l.getD k none))), .i 0, .i 0, .i 0, .sl 1 ([] : List (List D)), .sl 1 ([] : List (List D))]] : List (List D))))]⟩) (aB (aB8 (es := es ++ ([[.i (tvK (l.getD k none)), .s (S (tvS (l.getD k none))), .i 0, .i 0, .i 0, .sl 1 ([] : List (List D)), .sl 1 ([] : List (List D))]] : List (List D))) (l := l) (by have e := lJ hk; rw [List.take_of_length_le (l := l) (i := k + 1) (by simp at hc5; omega)] at e; rw [hes]; exact e) hl hT : SpG g _ _ _ _ _)) (fun hc6 => ?_) (fun hc6 => ?_)
 (try simp only [zq8] at hc6)
 simp at hc6
 (try simp only [zq8] at hc6)
 refine zR hG [] [] (y11 (es ++ ([[.i (tvK (l.getD k none)), .s (S (tvS (l.getD k none))), .i 0, .i 0, .i 0, .sl 1 ([] : List (List D)), .sl 1 ([] : List (List D))]] : List (List D)))) [] aC ?_ ?_
 have e : es ++ [TvD (l.getD k none)] = aR l := by rw [hes, lJ hk, List.take_of_length_le (by simp at hc5; omega)]
 exact congrArg (fun x => SV.tup [(false, [C.d (D.sl 7 x)]), (false, [C.d (D.b true)])]) e
 rfl
 (try simp only [zq8] at hc5)
 refine zD hG [] (k + 1, es ++ ([[.i (tvK (l.getD k none)), .s (S (tvS (l.getD k none))), .i 0, .i 0, .i 0, .sl 1 (([] : List (List D))), .sl 1 (([] : List (List D)))]] : List (List D))) aC ?_ ?_
 (try dsimp only); omega
 exact ⟨by simpa using hc5, by rw [hes]; exact lJ hk⟩
 (try simp only [zq8] at hc3)
 exfalso; omega
end Go.Proofs.YtclaplngjmgnoaaGreatDoor
namespace Go.Proofs.YtclaplngjmgnoaaGreatDoor
open Go.RowKit Go.V
open Go.Eng (inR byteAt u8 d8)
variable {g : Gv}
structure It where
 id : Int
 author : Int
 rank : Int
 time : Int
 kind : Int
 input : List Tv
 output : Tv
 prop : List UInt8
 param : List UInt8
 program : List Int
 deriving DecidableEq
def It.z : It := ⟨0, 0, 0, 0, 0, [], none, [], [], []⟩
def ItD (i : It) : List D := [.i i.id, .i i.author, .i i.rank, .i i.time, .i i.kind, .sl 7 (aR i.input), .i (tvK i.output), .s (S (tvS i.output)), .i 0, .i 0, .i 0, .sl 1 [], .sl 1 [], .s (S i.prop), .s (S i.param), .sl 1 (intsD i.program)]
def bM (l : List It) : List (List D) := l.map ItD
structure ItOk (i : It) : Prop where
 id : nOk i.id
 author : nOk i.author
 rank : nOk i.rank
 time : nOk i.time
 kind : nOk i.kind
 len : i.input.length ≤ 8
 cells : ∀ v, v ∈ i.input → bY v
 output : bY i.output
 prop : i.prop.length ≤ 500
 param : i.param.length ≤ 500
 plen : i.program.length ≤ 1000
 prog : ∀ n, n ∈ i.program → nOk n
def wdT (s : List UInt8) : List UInt8 := Lib.itoa (s.length : Int) ++ 58 :: s
def dM (i : It) : List Int := [i.id, i.author, i.rank, i.time, i.kind]
def wsL (i : It) : List (List UInt8) := [rwT i.input, tvT i.output, i.prop, i.param]
def prT (i : It) : List UInt8 := joinL [44] (i.program.map Lib.itoa)
def itP (i : It) : List (List UInt8) := [[105, 116, 101, 109]] ++ (dM i).map Lib.itoa ++ (wsL i).map wdT ++ [prT i]
def itT (i : It) : List UInt8 := joinL [32] (itP i)
def rsT (i : It) (k : Nat) : List UInt8 := joinL [32] ((itP i).drop k)
theorem pS (i : It) : (itP i).length = 11 := rfl
theorem gP {n : Nat} (h : n ≤ 1000000) : nOk (n : Int) := ⟨by omega, by omega⟩
theorem aBY {c : Nat} : ∀ {l : List (List UInt8)} {k : Nat}, (∀ x, x ∈ l → x.length ≤ c) → kN k l ≤ (c + k) * l.length
 | [], _, _ => by simp [kN]
 | x :: l, k, h => by
  have h1 := h x (by simp)
  have h2 := aBY (k := k) fun y hy => h y (List.mem_cons_of_mem x hy)
  unfold kN at *
  simp only [List.map_cons, List.sum_cons, List.length_cons, Nat.mul_add, Nat.mul_one]
  omega
theorem aE1 {i : It} (h : ItOk i) : kN 1 (i.program.map Lib.itoa) ≤ 15000 := by
 have := aBY (c := 14) (l := i.program.map Lib.itoa) (k := 1) fun x hx => by
  obtain ⟨n, hn, rfl⟩ := List.mem_map.1 hx
  exact fI (h.prog n hn)
 have h2 := h.plen
 rw [List.length_map] at this
 omega
theorem aE2 {i : It} (h : ItOk i) : (prT i).length ≤ 15000 := Nat.le_trans (hJ [44] _) (aE1 h)
theorem aJA {i : It} (h : ItOk i) : ∀ x, x ∈ wsL i → x.length ≤ 3300 := by
 intro x hx
 simp only [wsL, List.mem_cons, List.not_mem_nil, or_false] at hx
 have h1 := aEQ h.cells
 have h2 := h.len
 have h3 := aEF h.output
 have h4 := h.prop
 have h5 := h.param
 rcases hx with rfl | rfl | rfl | rfl <;> omega
theorem wd_len {i : It} (h : ItOk i) : ∀ x, x ∈ wsL i → (wdT x).length ≤ 3320 := by
 intro x hx
 have h1 := aJA h x hx
 have h2 := fI (gP (n := x.length) (by omega))
 simp only [zq0, wdT]; omega
theorem rK {i : It} (h : ItOk i) : ∀ x, x ∈ dM i → nOk x := by
 intro x hx
 simp only [dM, List.mem_cons, List.not_mem_nil, or_false] at hx
 rcases hx with rfl | rfl | rfl | rfl | rfl
 exact h.id
 exact h.author
 exact h.rank
 exact h.time
 exact h.kind
theorem aFI {i : It} (h : ItOk i) : kN 1 (itP i) ≤ 200000 := by
 have := aBY (c := 15000) (l := itP i) (k := 1) fun x hx => by
  simp only [itP, List.mem_append, List.mem_map, List.mem_cons, List.not_mem_nil, or_false] at hx
  rcases hx with ((rfl | ⟨n, hn, rfl⟩) | ⟨y, hy, rfl⟩) | rfl
  decide
  have := fI (rK h n hn); omega
  have := wd_len h y hy; omega
  exact aE2 h
 rw [pS] at this
 omega
theorem pR {i : It} (h : ItOk i) : (itT i).length ≤ 200000 := Nat.le_trans (hJ [32] _) (aFI h)
theorem fE (i : It) {k : Nat} (h : k < 10) : rsT i k = (itP i).getD k [] ++ 32 :: rsT i (k + 1) := by
 unfold rsT
 have e : (itP i).drop k = (itP i).getD k [] :: (itP i).drop (k + 1) := by
  have hk : k < (itP i).length := by rw [pS]; omega
  rw [List.getD_eq_getElem?_getD, List.getElem?_eq_getElem hk]; exact List.drop_eq_getElem_cons hk
 obtain ⟨x, r, hx⟩ : ∃ x r, (itP i).drop (k + 1) = x :: r := by
  cases hd : (itP i).drop (k + 1) with
  | nil => have := congrArg List.length hd; rw [List.length_drop, pS, List.length_nil] at this; omega
  | cons x r => exact ⟨x, r, rfl⟩
 rw [e, hx]; simp [joinL]
theorem wJ (i : It) : ∀ k, k ≤ 10 → (rsT i k).length ≤ (itT i).length
 | 0, _ => Nat.le_refl _
 | k + 1, h => by
  have := wJ i k (by omega)
  rw [fE i (by omega)] at this
  simp only [zq0] at this
  omega
theorem rsT_end (i : It) : rsT i 10 = prT i := rfl
theorem hO (i : It) : itT i = [105, 116, 101, 109, 32] ++ rsT i 1 := fE i (k := 0) (by decide)
theorem itT_ne (i : It) : itT i ≠ [] := by rw [hO]; simp
theorem lD {a r : List UInt8} {c : UInt8} (h : ∀ x, x ∈ a → ¬ x = c) : Lib.cut (a ++ c :: r) [c] = (a, r, true) := by
 rw [Lib.cut, rJ h, if_pos (by omega), Int.toNat_natCast]
 simp
theorem mN (i : It) : SpG g 65 [.c (cS (S (itT i))), .c (cS (S [105, 116, 101, 109, 32]))] [] (.tup [(false, [cS (S (rsT i 1))]), (false, [cB true])]) [] := by
 have h := xV (g := g) (itT i) [105, 116, 101, 109, 32]
 have e : Lib.hasPrefix (itT i) [105, 116, 101, 109, 32] = true := by
  rw [hO, Lib.hasPrefix, List.isPrefixOf_iff_prefix]; exact List.prefix_append _ _
 rw [Lib.trimPrefix, e, if_pos rfl] at h
 have e2 : (itT i).drop ([105, 116, 101, 109, 32] : List UInt8).length = rsT i 1 := by rw [hO]; exact List.drop_left
 rw [e2] at h
 exact h
abbrev y12 (a0 : ByteArray) (a1 : ByteArray) : SV := .tup [(false, [cS a0]), (false, [cS a1]), (false, [cB true])]
theorem cut_num {i : It} (h : ItOk i) {k : Nat} (hk : k < 5) : SpG g 67 [.c (cS (S (rsT i (k + 1)))), .c (cS (S [32]))] [] (y12 (S (Lib.itoa ((dM i).getD k 0))) (S (rsT i (k + 2)))) [] := by
 have hl := pR h
 have hr := wJ i (k + 1) (by omega)
 have hc := xU (g := g) (rsT i (k + 1)) [32] (by omega)
 have e : (itP i).getD (k + 1) [] = Lib.itoa ((dM i).getD k 0) := by
  match k, hk with
  | 0, _ => rfl
  | 1, _ => rfl
  | 2, _ => rfl
  | 3, _ => rfl
  | 4, _ => rfl
 have := fE i (k := k + 1) (by omega)
 rw [e] at this
 rw [this] at hc ⊢
 rw [lD (eT (.inl rfl))] at hc
 exact hc
def wrT (i : It) (k : Nat) : List UInt8 := (wsL i).getD k [] ++ 32 :: rsT i (k + 7)
theorem cut_wd {i : It} (h : ItOk i) {k : Nat} (hk : k < 4) : SpG g 67 [.c (cS (S (rsT i (k + 6)))), .c (cS (S [58]))] [] (y12 (S (Lib.itoa (((wsL i).getD k []).length : Int))) (S (wrT i k))) [] := by
 have hl := pR h
 have hr := wJ i (k + 6) (by omega)
 have hc := xU (g := g) (rsT i (k + 6)) [58] (by omega)
 have e : (itP i).getD (k + 6) [] = wdT ((wsL i).getD k []) := by
  match k, hk with
  | 0, _ => rfl
  | 1, _ => rfl
  | 2, _ => rfl
  | 3, _ => rfl
 have := fE i (k := k + 6) (by omega)
 rw [e] at this
 have e2 : wdT ((wsL i).getD k []) ++ 32 :: rsT i (k + 6 + 1) = Lib.itoa (((wsL i).getD k []).length : Int) ++ 58 :: wrT i k := by simp [wdT, wrT]
 rw [e2] at this
 rw [this] at hc ⊢
 rw [lD (eT (.inr (.inl rfl)))] at hc
 exact hc
theorem wr_take (i : It) (k : Nat) : (S (wrT i k)).extract 0 (((wsL i).getD k []).length : Int).toNat = S ((wsL i).getD k []) := by
 rw [gM, wrT, Int.toNat_natCast]; simp
theorem wr_drop (i : It) (k : Nat) : (S (wrT i k)).extract ((((wsL i).getD k []).length : Int) + 1).toNat (S (wrT i k)).size = S (rsT i (k + 7)) := by
 have e : ((((wsL i).getD k []).length : Int) + 1).toNat = ((wsL i).getD k []).length + 1 := by omega
 rw [e, jS, wrT, ← List.drop_drop, List.drop_left]; rfl
theorem p3 {i : It} (h : ItOk i) {k : Nat} (hk : k < 4) : ((wsL i).getD k []).length ≤ 3300 := aJA h _ (bQ (by simpa [wsL] using hk))
theorem wr_len {i : It} (h : ItOk i) {k : Nat} (hk : k < 4) : (wrT i k).length ≤ 210000 := by
 have h1 := p3 h hk
 have h2 := pR h
 have h3 := wJ i (k + 7) (by omega)
 simp only [zq0, wrT]; omega
theorem aJ8 {f : FuncId} {ins : List SV} {args : List Value} {xs : List Value} {e : TypeId} (hi : rW ins = some args) (h1 : ∀ x ∈ xs, x.oneCell' = true) (hn : xs.length ≤ maxLen)
  (h : ∀ w : World, (∀ g' cs, (g', cs) ∈ Gl g → ∃ ty fz, w.heap[g']? = some (.cells cs.toArray ty fz)) → Calls Tryz.prog f args.toArray w fun e' w' => e' = .returned (.slice (some ⟨w.heap.size, 0, none⟩) xs.length xs.length) ∧ w' = w.alloc (.cells xs.toArray e)) :
  V.Spec Tryz.prog (Gl g) f ins [] (.c (.ar 100 0)) [(100, .arr 0 ⟨e, []⟩ 1 (xs.map fun x => [.v x]))] := by
 intro fr w pl as0 hw hG m ha
 obtain ⟨hGG, _, _, _⟩ := hG
 rw [rV hi ha]
 refine Calls.mono (h w fun g' cs hg => by rw [← hw]; exact (m.frOk.glob g' cs (by rw [hGG]; exact hg)).1) ?_
 rintro e' w' ⟨rfl, rfl⟩
 have hfl : ∀ xs : List Value, (xs.map fun x => [D.v x]).flatten = xs.map D.v := by
  intro xs
  induction xs with
  | nil => rfl
  | cons x r ih => simp only [List.map_cons, List.flatten_cons, ih]; rfl
 obtain ⟨pl', m', L, hA⟩ := m.newArr (i := 100) (e := ⟨e, []⟩) (sz := 1) (es := xs.map fun x => [.v x]) (xs := xs) (A := some ⟨w.heap.size, 0, none⟩) (cap := xs.length) rfl (w' := w.alloc (.cells xs.toArray e)) ⟨rfl, rfl, rfl, by simp, fun k hk _ => Below.heap_alloc _ _ _ hk⟩
  ⟨by simp, .inr ⟨w.heap.size, xs.length, xs.toArray, by simp, Nat.zero_le _, heap_alloc_new w _, by simp, hn, by simp, by simp⟩⟩
  (fun ad h => by injection h with h; rw [← h]; exact Nat.le_refl _) (by rw [hfl xs]; exact AllO.of ⟨by simp, fun j d x hd hx => by
   simp only [List.getElem?_map, Option.map_eq_some_iff] at hd
   obtain ⟨y, hy, rfl⟩ := hd
   rw [hy] at hx
   simp only [Option.some.injEq] at hx
   subst hx
   exact .v _ (h1 _ (List.mem_of_getElem? hy))⟩) (fun ds hd => by
   obtain ⟨x, _, rfl⟩ := List.mem_map.1 hd
   rfl)
 have hown : upd (lookO []) 100 (.arr 0 ⟨e, []⟩ 1 (xs.map fun x => [.v x])) = lookO [(100, .arr 0 ⟨e, []⟩ 1 (xs.map fun x => [.v x]))] := by rw [a8]
 rw [hown] at m'
 exact ⟨_, pl', rfl, m', 0, ⟨e, []⟩, 1, _, rfl, Nat.le_refl _, fun _ => by rw [hA]; simp, rfl⟩
theorem aGU (s p : ByteArray) (hs : s.size < 4294967281) (h1 : 1 ≤ p.size) :
  V.Spec Tryz.prog (Gl g) 72 [.c (.d (.v (.string s))), .c (.d (.v (.string p)))] [] (.c (.ar 100 0)) [(100, .arr 0 ⟨9, []⟩ 1 (((Lib.splitB p 0 (Lib.countB s p) s).map Value.string).map fun x => [.v x]))] := by
 have hl : (Lib.splitB p 0 (Lib.countB s p) s).length = Lib.countB s p + 1 := Lib.splitB_all p h1 0 _ s rfl
 have hc := Lib.countB_le p h1 s.size s (Nat.le_refl _)
 refine aJ8 (args := [.string s, .string p]) rfl (fun x hx => by obtain ⟨y, _, rfl⟩ := List.mem_map.1 hx; rfl) (by rw [List.length_map, hl]; unfold maxLen; omega) fun w hG => ?_
 obtain ⟨ty, fz, h0⟩ := hG 0 [.int .i64 g.maxLen] (by simp [Gl])
 have := Tryz.strings_Split s p g.maxLen w hs (by rw [Lib.cell_of_heap h0]; rfl) h1
 rw [List.length_map, hl]
 exact this
theorem jM {c : UInt8} : ∀ (l : List (List UInt8)) (x : List UInt8), (∀ y, y ∈ x :: l → ∀ b, b ∈ y → ¬ b = c) → (joinL [c] (x :: l)).count c = l.length
 | [], x, h => by
  simp only [joinL, List.length_nil]
  exact List.count_eq_zero.2 fun hm => h x (by simp) c hm rfl
 | y :: r, x, h => by
  have ih := jM r y fun z hz => h z (by simp only [List.mem_cons] at hz ⊢; exact .inr hz)
  have h0 : x.count c = 0 := List.count_eq_zero.2 fun hm => h x (by simp) c hm rfl
  simp only [joinL, List.count_append, h0, ih, List.length_cons]
  simp; omega
theorem iW {c : UInt8} : ∀ (l : List (List UInt8)) (x : List UInt8), (∀ y, y ∈ x :: l → ∀ b, b ∈ y → ¬ b = c) → Lib.splitB (S [c]) 0 l.length (S (joinL [c] (x :: l))) = (x :: l).map S
 | [], x, h => by simp [Lib.splitB, joinL]
 | y :: r, x, h => by
  have ih := iW r y fun z hz => h z (by simp only [List.mem_cons] at hz ⊢; exact .inr hz)
  have e : joinL [c] (x :: y :: r) = x ++ c :: joinL [c] (y :: r) := by simp [joinL]
  have hi : Lib.indexB (S (x ++ c :: joinL [c] (y :: r))) (S [c]) = (x.length : Int) := by
   show Lib.index (S _).data.toList (S [c]).data.toList = _
   rw [cR, cR]
   exact rJ (h x (by simp))
  rw [e, List.length_cons, Lib.splitB_hit _ _ _ _ _ hi, gM]
  have h1 : (S [c]).size = 1 := rfl
  rw [h1, jS, Nat.add_zero, ← List.drop_drop, List.drop_left]
  show _ :: Lib.splitB (S [c]) 0 r.length (S (joinL [c] (y :: r))) = _
  rw [ih]
  simp
theorem aJZ {i : It} (h : ItOk i) (hp : i.program ≠ []) : SpG g 72 [.c (cS (S (prT i))), .c (cS (S [44]))] [] (.c (.ar 100 0)) [(100, .arr 0 9 1 (strs (i.program.map Lib.itoa)))] := by
 have hl := aE2 h
 have := aGU (g := g) (S (prT i)) (S [44]) (by rw [aM]; omega) (by decide)
 obtain ⟨x, r, hx⟩ : ∃ x r, i.program.map Lib.itoa = x :: r := by
  cases he : i.program with
  | nil => exact absurd he hp
  | cons y s => exact ⟨_, _, rfl⟩
 have hno : ∀ y, y ∈ x :: r → ∀ b, b ∈ y → ¬ b = 44 := by
  intro y hy b hb
  rw [← hx] at hy
  obtain ⟨n, _, rfl⟩ := List.mem_map.1 hy
  exact eT (.inr (.inr rfl)) b hb
 have hc : Lib.countB (S (prT i)) (S [44]) = r.length := by
  show Lib.count (S _).data.toList (S [44]).data.toList = _
  rw [cR, cR, Lib.count_one, prT, hx]
  exact jM r x hno
 have hs : Lib.splitB (S [44]) 0 r.length (S (prT i)) = (x :: r).map S := by
  rw [prT, hx]; exact iW r x hno
 rw [hc, hs, ← hx] at this
 have e : (((i.program.map Lib.itoa).map S).map Value.string).map (fun x => [D.v x]) = strs (i.program.map Lib.itoa) := by
  rw [List.map_map, List.map_map]; rfl
 rw [e] at this
 exact this
theorem noTxt {i : It} (hi : ItOk i) (h : (i.input.length : Int) > 8 ∨ ((i.input.length : Int) > 0 ∧ rwT i.input = [])) : False := by
 have := hi.len
 rcases h with h | ⟨h, h2⟩
 omega
 exact wG (l := i.input) (by intro e; rw [e] at h; simp at h) h2
theorem aCE {i : It} (h : prT i = []) (hp : i.program ≠ []) : False := by
 unfold prT at h
 cases he : i.program with
 | nil => exact hp he
 | cons n r =>
  rw [he] at h
  cases r with
  | nil => exact itoa_ne n (by simpa [joinL] using h)
  | cons m s => simp [joinL] at h
def gU := And.intro @List.length_map.{0, 0} (And.intro @kM (And.intro @aGE (And.intro @blS (And.intro @intsD.eq_1 (@strs.eq_1)))))
def p1 := And.intro @List.length_append.{0} (And.intro @List.length_cons.{0} (And.intro @List.length_map.{0, 0} (And.intro @List.length_nil.{0} (And.intro @aM (And.intro @Go.Eng.inR.eq_1 (And.intro @intsD.eq_1 (And.intro @maxLen.eq_1 (@strs.eq_1))))))))
theorem nP (i : It) (hi : ItOk i) :
  SpG g 31 [.agg [cI ((i).id), cI ((i).author), cI ((i).rank), cI ((i).time), cI ((i).kind), cM 7 (aR ((i).input)), cI (tvK ((i).output)), cS (S (tvS ((i).output))), cI 0, cI 0, cI 0, cM 1 ([] : List (List D)), cM 1 ([] : List (List D)), cS (S (i).prop), cS (S (i).param), cM 1 (intsD ((i).program))]] [] (.c (cS (S (itT i)))) [] := by
 have hlen := hi.len
 have hil := hi.cells
 have hid : (dM i).length = 5 := rfl
 have hws : (wsL i).length = 4 := rfl
 refine aP 101 Tryz.func31 (by kernel_rfl) fun fr hG => ?_
 refine zC hG [(1, 2, kS (S (rwT i.input))), (2, 17, kB true)] [1, 0, 1, 1] (((decide ((((aR ((i).input)).length : Int) : Int) > 8)) || ((decide ((((aR ((i).input)).length : Int) : Int) > 0)) && ((S (rwT i.input)).toList == (S []).toList))) && true) (⟨[zX 1 100 0, zS 2 (S []), zS 3 (S (rwT i.input))], [(100, .box 63 [cI ((i).id), cI ((i).author), cI ((i).rank), cI ((i).time), cI ((i).kind), cM 7 (aR ((i).input)), cI (tvK ((i).output)), cS (S (tvS ((i).output))), cI 0, cI 0, cI 0, cM 1 ([] : List (List D)), cM 1 ([] : List (List D)), cS (S (i).prop), cS (S (i).param), cM 1 (intsD ((i).program))])]⟩) (aA (qF i.input hi.len hi.cells : SpG g _ _ _ _ _) (aB (fun (hg1 : ((decide ((((aR ((i).input)).length : Int) : Int) > 8)) || ((decide ((((aR ((i).input)).length : Int) : Int) > 0)) && ((S (rwT i.input)).toList == (S []).toList))) = false) => (lO ((i).output) (by exact hi.output) : SpG g _ _ _ _ _)))) (fun hc1 => ?_) (fun hc1 => ?_)
 (try simp only [gU, aR] at hc1)
 exact (noTxt hi (by simpa using hc1)).elim
 (try simp only [gU, aR] at hc1)
 refine zL hG [] [0, 1, 0, 1, 1, 1, 1] (fun (zz : Nat × List (List D)) => match zz with | (k, es) => (5 - k, ⟨[zX 1 100 0, zS 2 (S []), zS 3 (S (rwT i.input)), zY 4 500 0, zY 46 610 0, zI 47 ((intsD (dM i)).length : Int), zI 48 (k : Int)], [(100, .box 63 [cI ((i).id), cI ((i).author), cI ((i).rank), cI ((i).time), cI ((i).kind), cM 7 (aR ((i).input)), cI (tvK ((i).output)), cS (S (tvS ((i).output))), cI 0, cI 0, cI 0, cM 1 ([] : List (List D)), cM 1 ([] : List (List D)), cS (S (i).prop), cS (S (i).param), cM 1 (intsD ((i).program))]), (500, .arr 0 9 1 (es)), (610, .arr 0 3 1 (intsD (dM i)))]⟩, k ≤ 5 ∧ es = strs ([[105, 116, 101, 109]] ++ ((dM i).take k).map Lib.itoa))) (0, strs [[105, 116, 101, 109]]) aC ?_ ?_
 exact ⟨Nat.zero_le _, rfl⟩
 rintro ⟨k, es⟩ ⟨hk, hes⟩
 have hel : es.length = 1 + k := by rw [hes, strs, List.length_map, List.length_append, List.length_map, List.length_take, show (dM i).length = 5 from rfl]; simp only [zq5]; omega
 have hn : k < 5 → nOk ((dM i).getD k 0) := fun h => rK hi _ (bQ h)
 refine zc hG [] [0, 1] (decide (((k : Int) : Int) < ((intsD (dM i)).length : Int))) aC (fun hc3 => ?_) (fun hc3 => ?_)
 (try simp only [gU, aR] at hc3)
 refine zD hG [(7, 1, .elem (intD ((dM i).getD k 0))), (8, 2, kS (S (Lib.itoa ((dM i).getD k 0))))] (k + 1, es ++ [[D.s (S (Lib.itoa ((dM i).getD k 0)))]]) (aA (by intros; (try simp only [p1, aR, ByteArray.size_append] at *); omega : (0 : Int) ≤ (k : Int) ∧ (k : Int) < ((intsD (dM i)).length : Int)) (aA (by intros; exact l4 (f := intD) (l := dM i) 0 (by (try simp only [zq5, dM]); omega) : (intsD (dM i))[k]? = some (intD ((dM i).getD k 0))) (aA (mB ((dM i).getD k 0) (by have := (hn (by omega)).1; omega) (by have := (hn (by omega)).2; omega) : SpG g _ _ _ _ _) (aA (by intros; (try simp only [p1, aR, ByteArray.size_append] at *); omega : ((es).length + ([[.s (S (Lib.itoa ((dM i).getD k 0)))]] : List (List D)).length) * (16 + 1) ≤ 140737488355328) (aB (by intros; (try simp only [p1, aR, ByteArray.size_append] at *); omega : inR ((k : Int) + 1))))))) ?_ ?_
 (try dsimp only); omega
 refine ⟨by omega, ?_⟩
 rw [hes, dP 0 (show k < (dM i).length by omega), List.map_append, ← List.append_assoc, List.map_singleton, mZ]
 (try simp only [gU, aR] at hc3)
 refine zE hG [] (.exit 0) (⟨[zX 1 100 0, zS 2 (S []), zS 3 (S (rwT i.input)), zY 4 500 0], [(100, .box 63 [cI ((i).id), cI ((i).author), cI ((i).rank), cI ((i).time), cI ((i).kind), cM 7 (aR ((i).input)), cI (tvK ((i).output)), cS (S (tvS ((i).output))), cI 0, cI 0, cI 0, cM 1 ([] : List (List D)), cM 1 ([] : List (List D)), cS (S (i).prop), cS (S (i).param), cM 1 (intsD ((i).program))]), (500, .arr 0 9 1 (es))]⟩) aC rfl ?_
 refine zL hG [(10, 3, kS (S (tvT i.output)))] [0, 1, 0, 1, 1, 1, 1, 1] (fun (zz : Nat × List (List D)) => match zz with | (m, et) => (4 - m, ⟨[zX 1 100 0, zS 2 (S []), zY 4 500 0, zY 66 1108 0, zI 67 ((strs (wsL i)).length : Int), zI 68 (m : Int)], [(100, .box 63 [cI ((i).id), cI ((i).author), cI ((i).rank), cI ((i).time), cI ((i).kind), cM 7 (aR ((i).input)), cI (tvK ((i).output)), cS (S (tvS ((i).output))), cI 0, cI 0, cI 0, cM 1 ([] : List (List D)), cM 1 ([] : List (List D)), cS (S (i).prop), cS (S (i).param), cM 1 (intsD ((i).program))]), (500, .arr 0 9 1 (et)), (1108, .arr 0 9 1 (strs (wsL i)))]⟩, m ≤ 4 ∧ et = strs ([[105, 116, 101, 109]] ++ (dM i).map Lib.itoa ++ ((wsL i).take m).map wdT))) (0, es) (aB (vZ i.output hi.output : SpG g _ _ _ _ _)) ?_ ?_
 have h5 : k = 5 := by omega
 subst h5
 exact ⟨Nat.zero_le _, by rw [hes]; rfl⟩
 rintro ⟨m, et⟩ ⟨hm, het⟩
 have htl : et.length = 6 + m := by rw [het, strs, List.length_map, List.length_append, List.length_append, List.length_map, List.length_map, List.length_take, show (dM i).length = 5 from rfl, show (wsL i).length = 4 from rfl]; simp only [zq5]; omega
 have hw : m < 4 → ((wsL i).getD m []).length ≤ 3300 := fun h => p3 hi h
 have hw2 : m < 4 → (Lib.itoa (((wsL i).getD m []).length : Int)).length ≤ 14 := fun h => fI (gP (by have := hw h; omega))
 refine zc hG [] [0, 1] (decide (((m : Int) : Int) < ((strs (wsL i)).length : Int))) aC (fun hc5 => ?_) (fun hc5 => ?_)
 (try simp only [gU, aR] at hc5)
 refine zD hG [(12, 1, .elem (d5 ((wsL i).getD m []))), (13, 3, kS (S (Lib.itoa ((S ((wsL i).getD m [])).size : Int))))] (m + 1, et ++ [[D.s ((S (Lib.itoa ((S ((wsL i).getD m [])).size : Int)) ++ S [58]) ++ S ((wsL i).getD m []))]]) (aA (by intros; (try simp only [p1, aR, ByteArray.size_append] at *); omega : (0 : Int) ≤ (m : Int) ∧ (m : Int) < ((strs (wsL i)).length : Int)) (aA (by intros; exact l4 (f := d5) (l := wsL i) [] (by (try simp only [zq5, wsL]); omega) : (strs (wsL i))[m]? = some (d5 ((wsL i).getD m []))) (aA (mB ((S ((wsL i).getD m [])).size : Int) (by rw [aM]; have := hw (by omega); omega) (by rw [aM]; have := hw (by omega); omega) : SpG g _ _ _ _ _) (aA (by intros; (try simp only [p1, aR, ByteArray.size_append] at *); omega : (S (Lib.itoa ((S ((wsL i).getD m [])).size : Int))).size + (S [58]).size ≤ maxLen) (aA (by intros; (try simp only [p1, aR, ByteArray.size_append] at *); omega : ((S (Lib.itoa ((S ((wsL i).getD m [])).size : Int))) ++ (S [58])).size + (S ((wsL i).getD m [])).size ≤ maxLen) (aA (by intros; (try simp only [p1, aR, ByteArray.size_append] at *); omega : ((et).length + ([[.s (((S (Lib.itoa ((S ((wsL i).getD m [])).size : Int))) ++ (S [58])) ++ (S ((wsL i).getD m [])))]] : List (List D)).length) * (16 + 1) ≤ 140737488355328) (aB (by intros; (try simp only [p1, aR, ByteArray.size_append] at *); omega : inR ((m : Int) + 1))))))))) ?_ ?_
 (try dsimp only); omega
 refine ⟨by omega, ?_⟩
 rw [het, dP [] (show m < (wsL i).length by omega), List.map_append, ← List.append_assoc, List.map_singleton, mZ, eO, eO, aM]
 simp [wdT]
 (try simp only [gU, aR] at hc5)
 refine zE hG [] (.exit 2) (⟨[zX 1 100 0, zS 2 (S []), zY 4 500 0], [(100, .box 63 [cI ((i).id), cI ((i).author), cI ((i).rank), cI ((i).time), cI ((i).kind), cM 7 (aR ((i).input)), cI (tvK ((i).output)), cS (S (tvS ((i).output))), cI 0, cI 0, cI 0, cM 1 ([] : List (List D)), cM 1 ([] : List (List D)), cS (S (i).prop), cS (S (i).param), cM 1 (intsD ((i).program))]), (500, .arr 0 9 1 (et))]⟩) aC rfl ?_
 refine zA hG [] [0, 1, 0, 1, 1, 1, 1, 1, 1, 1] (⟨[zS 2 (S []), zY 4 500 0, zN 9, zM 83 1 (intsD ((i).program)), zI 84 ((intsD ((i).program)).length : Int), zI 85 0], [(500, .arr 0 9 1 (et))]⟩) [(9, 9003, 9, 1)] [] (fun (zz : Nat × List (List D)) => match zz with | (q, eu) => (i.program.length - q, ⟨[zS 2 (S []), zY 4 500 0, zY 9 9003 0, zM 83 1 (intsD ((i).program)), zI 84 ((intsD ((i).program)).length : Int), zI 85 (q : Int)], [(500, .arr 0 9 1 (et)), (9003, .arr 0 9 1 (eu))]⟩, q ≤ i.program.length ∧ eu = strs ((i.program.take q).map Lib.itoa))) (0, []) aC ?_ ?_
 exact ⟨Nat.zero_le _, rfl⟩
 rintro ⟨q, eu⟩ ⟨hq, heu⟩
 have hul : eu.length = q := by rw [heu, strs, List.length_map, List.length_map, List.length_take]; omega
 have hpn : q < i.program.length → nOk (i.program.getD q 0) := fun h => hi.prog _ (bQ h)
 have hpl := hi.plen
 refine zc hG [] [0, 1] (decide (((q : Int) : Int) < ((intsD ((i).program)).length : Int))) aC (fun hc7 => ?_) (fun hc7 => ?_)
 (try simp only [gU, aR] at hc7)
 refine zD hG [(18, 0, .elem (intD (((i).program).getD q 0))), (19, 2, kS (S (Lib.itoa (((i).program).getD q 0))))] (q + 1, eu ++ [[D.s (S (Lib.itoa (i.program.getD q 0)))]]) (aA (by intros; exact d6 _ (by omega) (by (try simp only [intsD, List.length_map] at *); omega) : (0 : Int) ≤ (q : Int) ∧ (intsD ((i).program))[q]? = some (intD (((i).program).getD q 0))) (aA (mB (((i).program).getD q 0) (by have := (hpn (by omega)).1; omega) (by have := (hpn (by omega)).2; omega) : SpG g _ _ _ _ _) (aA (by intros; (try simp only [p1, aR, ByteArray.size_append] at *); omega : ((eu).length + ([[.s (S (Lib.itoa (((i).program).getD q 0)))]] : List (List D)).length) * (16 + 1) ≤ 140737488355328) (aB (by intros; (try simp only [p1, aR, ByteArray.size_append] at *); omega : inR ((q : Int) + 1)))))) ?_ ?_
 (try dsimp only); omega
 refine ⟨by omega, ?_⟩
 rw [heu]; exact (tB (f := Lib.itoa) 0 (by omega)).symm
 (try simp only [gU, aR] at hc7)
 refine zE hG [] (.exit 4) (⟨[zS 2 (S []), zY 4 500 0, zY 9 9003 0], [(500, .arr 0 9 1 (et)), (9003, .arr 0 9 1 (eu))]⟩) aC rfl ?_
 exact zr hG [(21, 2, kS (S (prT i))), (21, 5, kS (S (itT i)))] [] (aA (w9 (es := eu) (l := i.program.map Lib.itoa) (by rw [heu, List.take_of_length_le (by omega)]) [44] (Nat.le_trans (aE1 hi) (by decide)) (by rw [List.length_map]; omega) : SpG g _ _ _ _ _) (aA (by intros; (try simp only [p1, aR, ByteArray.size_append] at *); omega : ((et).length + ([[.s (S (prT i))]] : List (List D)).length) * (16 + 1) ≤ 140737488355328) (aB (w9 (es := et ++ ([[.s (S (prT i))]] : List (List D))) (l := itP i) (by rw [het, List.take_of_length_le (by simp [wsL]; omega), itP, mZ]) [32] (Nat.le_trans (aFI hi) (by decide)) (by rw [pS]; decide) : SpG g _ _ _ _ _))))
theorem aKR (i : It) (hi : ItOk i) (k : Nat) (hk : k < 5) :
  SpG g 66 [.c (.bx 0 0), .c (.bx 1 0)] [(0, .box 9 [cS (S (rsT i (k + 1)))]), (1, .box 4 [cB true])] (.c (cI ((dM i).getD k 0))) [(1, .box 4 [cB true]), (0, .box 9 [cS (S (rsT i (k + 2)))])] := by
 refine aP 23 Tryz.func66 (by kernel_rfl) fun fr hG => ?_
 exact zr hG [(2, 1, kC (y12 (S (Lib.itoa ((dM i).getD k 0))) (S (rsT i (k + 2))))), (3, 1, kC (y4 ((dM i).getD k 0)))] [] (aA (cut_num hi hk : SpG g _ _ _ _ _) (aB (jP ((dM i).getD k 0) (rK hi _ (bQ (by simpa [dM] using hk))) : SpG g _ _ _ _ _)))
theorem fB (i : It) (hi : ItOk i) (k : Nat) (hk : k < 5) :
  SpG g 66 [.c (.bx 0 0), .c (.bx 1 0)] [(0, .box 9 [cS (S (rsT i (k + 1)))]), (1, .box 4 [cB true])] (.c (cI ((dM i).getD k 0))) [(0, .box 9 [cS (S (rsT i (k + 2)))]), (1, .box 4 [cB true])] := by
 refine b9 (aKR i hi k hk) ?_
 first | rfl | (funext i; simp only [a8, upd]; ((repeat' split) <;> first | rfl | (exfalso; omega)))
def pG := And.intro @aM (@Go.Eng.inR.eq_1)
theorem aHD (i : It) (hi : ItOk i) (k : Nat) (hk : k < 4) :
  SpG g 69 [.c (.bx 0 0), .c (.bx 1 0)] [(0, .box 9 [cS (S (rsT i (k + 6)))]), (1, .box 4 [cB true])] (.c (cS (S ((wsL i).getD k [])))) [(0, .box 9 [cS (S (rsT i (k + 7)))]), (1, .box 4 [cB true])] := by
 have hw := p3 hi hk
 have hr := wr_len hi hk
 have hwl : (wrT i k).length = ((wsL i).getD k []).length + 1 + (rsT i (k + 7)).length := by simp only [zq0, wrT]; omega
 refine aP 38 Tryz.func69 (by kernel_rfl) fun fr hG => ?_
 refine zC hG [(2, 1, kC (y12 (S (Lib.itoa (((wsL i).getD k []).length : Int))) (S (wrT i k)))), (3, 1, kC (y4 (((wsL i).getD k []).length : Int)))] [1, 0, 1, 1, 1, 1] ((decide (((((wsL i).getD k []).length : Int) : Int) < 0)) || (decide (((((wsL i).getD k []).length : Int) : Int) ≥ ((S (wrT i k)).size : Int)))) (⟨[zX 0 0 0, zX 1 1 0, zS 2 (S []), zI 4 (((wsL i).getD k []).length : Int)], [(0, .box 9 [cS (S (wrT i k))]), (1, .box 4 [cB true])]⟩) (aA (cut_wd hi hk : SpG g _ _ _ _ _) (aB (jP (((wsL i).getD k []).length : Int) (gP (by omega)) : SpG g _ _ _ _ _))) (fun hc1 => ?_) (fun hc1 => ?_)
 (try simp only [blS, aM] at hc1)
 exfalso; omega
 (try simp only [blS, aM] at hc1)
 refine zR hG [] [] (.c (cS ((S (wrT i k)).extract 0 (((wsL i).getD k []).length)))) [(0, .box 9 [cS ((S (wrT i k)).extract ((((wsL i).getD k []).length : Int) + 1 : Int).toNat (S (wrT i k)).size)]), (1, .box 4 [cB true])] (aA (by intros; (try simp only [pG] at *); omega : (0 : Int) ≤ 0 ∧ (0 : Int) ≤ (((wsL i).getD k []).length : Int) ∧ (((wsL i).getD k []).length : Int) ≤ ((S (wrT i k)).size : Int)) (aA (by intros; (try simp only [pG] at *); omega : inR ((((wsL i).getD k []).length : Int) + 1)) (aB (by intros; (try simp only [pG] at *); omega : (0 : Int) ≤ ((((wsL i).getD k []).length : Int) + 1) ∧ ((((wsL i).getD k []).length : Int) + 1 : Int) ≤ ((S (wrT i k)).size : Int) ∧ ((S (wrT i k)).size : Int) ≤ ((S (wrT i k)).size : Int))))) ?_ ?_
 exact congrArg (fun x => SV.c (C.d (D.s x))) (wr_take i k)
 rw [← wr_drop i k]
theorem fF (i : It) (hi : ItOk i) (k : Nat) (hk : k < 4) :
  SpG g 69 [.c (.bx 0 0), .c (.bx 1 0)] [(0, .box 9 [cS (S (rsT i (k + 6)))]), (1, .box 4 [cB true])] (.c (cS (S ((wsL i).getD k [])))) [(0, .box 9 [cS (S (rsT i (k + 7)))]), (1, .box 4 [cB true])] := by
 refine b9 (aHD i hi k hk) ?_
 first | rfl | (funext i; simp only [a8, upd]; ((repeat' split) <;> first | rfl | (exfalso; omega)))
theorem uB {i : It} (hi : ItOk i) {es : List (List D)} (h : es = intsD i.program) : SpG g 31 [.agg [cI ((i).id), cI ((i).author), cI ((i).rank), cI ((i).time), cI ((i).kind), cM 7 (aR ((i).input)), cI (tvK ((i).output)), cS (S (tvS ((i).output))), cI 0, cI 0, cI 0, cM 1 ([] : List (List D)), cM 1 ([] : List (List D)), cS (S (i).prop), cS (S (i).param), cM 1 (es)]] [] (.c (cS (S (itT i)))) [] := by subst h; exact nP i hi
theorem oX (l : List Tv) (hl : l.length ≤ 8) (hT : ∀ v, v ∈ l → bY v) : SpG g 70 [.c (cS (S (rwT l)))] [] (y11 (aR l)) [] := by
 by_cases h : l = []
 subst h; exact m9 [[some 7], []] aAB
 exact aCB l hl h hT
theorem atoi_at {i : It} (hi : ItOk i) {q : Nat} (h : q < i.program.length) : SpG g 68 [.c (cS (S ((i.program.map Lib.itoa).getD q [])))] [] (.tup [(false, [cI (i.program.getD q 0)]), (false, [.d (.v .nilIface)])]) [] := by
 have e : (i.program.map Lib.itoa).getD q [] = Lib.itoa (i.program.getD q 0) := by simp [h]
 rw [e]; exact jP (i.program.getD q 0) (hi.prog _ (bQ h))
abbrev y13 : Ob := .box 63 [cI 0, cI 0, cI 0, cI 0, cI 0, cN, cI 0, cS (S []), cI 0, cI 0, cI 0, cN, cN, cS (S []), cS (S []), cN]
theorem read_no (i : It) (hi : ItOk i) (hp : i.program = []) :
  SpG g 38 [.c (cS (S (itT i)))] [] (.tup [(true, [cI ((i).id), cI ((i).author), cI ((i).rank), cI ((i).time), cI ((i).kind), cM 7 (aR ((i).input)), cI (tvK ((i).output)), cS (S (tvS ((i).output))), cI 0, cI 0, cI 0, cM 1 ([] : List (List D)), cM 1 ([] : List (List D)), cS (S (i).prop), cS (S (i).param), cN]), (false, [cB true])]) [] := by
 refine aP 98 Tryz.func38 (by kernel_rfl) fun fr hG => ?_
 refine zC hG [(1, 1, kC (.tup [(false, [cS (S (rsT i 1))]), (false, [cB true])])), (4, 1, .call (.c (cI ((i).id))) [] [[.s (S (rsT i 2))], [.b true]]), (4, 3, .call (.c (cI ((i).author))) [] [[.s (S (rsT i 3))], [.b true]]), (4, 5, .call (.c (cI ((i).rank))) [] [[.s (S (rsT i 4))], [.b true]]), (4, 7, .call (.c (cI ((i).time))) [] [[.s (S (rsT i 5))], [.b true]]), (4, 9, .call (.c (cI ((i).kind))) [] [[.s (S (rsT i 6))], [.b true]]), (5, 1, .call (.c (cS (S (rwT (i).input)))) [] [[.s (S (rsT i 7))], [.b true]]), (5, 3, .call (.c (cS (S (tvT (i).output)))) [] [[.s (S (rsT i 8))], [.b true]]), (6, 1, .call (.c (cS (S (i).prop))) [] [[.s (S (rsT i 9))], [.b true]]), (6, 3, .call (.c (cS (S (i).param))) [] [[.s (S (rsT i 10))], [.b true]])] [1, 0, 1, 1, 1, 1, 1, 1, 1] (false) (⟨[zS 0 (S (itT i)), zX 2 100 0, zB 3 false, zX 4 205 0, zX 8 511 0, zS 9 (S (rwT (i).input)), zS 10 (S (tvT (i).output))], [(100, y13), (205, .box 9 [cS (S (rsT i 10))]), (511, .box 63 [cI ((i).id), cI ((i).author), cI ((i).rank), cI ((i).time), cI ((i).kind), cN, cI 0, cS (S []), cI 0, cI 0, cI 0, cN, cN, cS (S (i).prop), cS (S (i).param), cN])]⟩) (aA (mN i : SpG g _ _ _ _ _) (aA (fB i hi 0 (by decide) : SpG g _ _ _ _ _) (aA (fB i hi 1 (by decide) : SpG g _ _ _ _ _) (aA (fB i hi 2 (by decide) : SpG g _ _ _ _ _) (aA (fB i hi 3 (by decide) : SpG g _ _ _ _ _) (aA (fB i hi 4 (by decide) : SpG g _ _ _ _ _) (aA (fF i hi 0 (by decide) : SpG g _ _ _ _ _) (aA (fF i hi 1 (by decide) : SpG g _ _ _ _ _) (aA (fF i hi 2 (by decide) : SpG g _ _ _ _ _) (aB (fF i hi 3 (by decide) : SpG g _ _ _ _ _))))))))))) (fun hc1 => absurd hc1 (by decide)) (fun _ => ?_)
 refine zC hG [(10, 1, kC (y11 (aR ((i).input)))), (11, 1, kC (y10 (tvK ((i).output)) (S (tvS ((i).output))) ([] : List (List D))))] [1, 0, 1, 1, 1, 1, 1, 1, 1, 1, 1, 1, 1] (!((S (rsT i 10)).toList == (S []).toList)) (⟨[zS 0 (S (itT i)), zX 2 100 0, zB 3 false, zX 4 205 0, zX 8 511 0, zB 11 true, zB 12 true], [(100, y13), (205, .box 9 [cS (S (rsT i 10))]), (511, .box 63 [cI ((i).id), cI ((i).author), cI ((i).rank), cI ((i).time), cI ((i).kind), cM 7 (aR ((i).input)), cI (tvK ((i).output)), cS (S (tvS ((i).output))), cI 0, cI 0, cI 0, cM 1 ([] : List (List D)), cM 1 ([] : List (List D)), cS (S (i).prop), cS (S (i).param), cN])]⟩) (aA (oX i.input hi.len hi.cells : SpG g _ _ _ _ _) (aB (aE0 i.output hi.output : SpG g _ _ _ _ _))) (fun hc2 => ?_) (fun hc2 => ?_)
 (try simp only [zq8] at hc2)
 simp [rsT_end, prT, hp, joinL] at hc2
 (try simp only [zq8] at hc2)
 refine zC hG [(21, 8, kS (S (itT i)))] [1, 0, 1, 1, 1, 1, 1, 1, 1, 1, 1, 1, 1, 1] (!((S (itT i)).toList == (S (itT i)).toList)) (⟨[zX 2 100 0, zB 3 false, zX 8 511 0], [(100, y13), (511, .box 63 [cI ((i).id), cI ((i).author), cI ((i).rank), cI ((i).time), cI ((i).kind), cM 7 (aR ((i).input)), cI (tvK ((i).output)), cS (S (tvS ((i).output))), cI 0, cI 0, cI 0, cM 1 ([] : List (List D)), cM 1 ([] : List (List D)), cS (S (i).prop), cS (S (i).param), cN])]⟩) (aB (fun (hg1 : false = false) => (nA (ins := [.agg [cI ((i).id), cI ((i).author), cI ((i).rank), cI ((i).time), cI ((i).kind), cM 7 (aR ((i).input)), cI (tvK ((i).output)), cS (S (tvS ((i).output))), cI 0, cI 0, cI 0, cM 1 ([] : List (List D)), cM 1 ([] : List (List D)), cS (S (i).prop), cS (S (i).param), cN]]) [[none, none, none, none, none, none, none, none, none, none, none, none, none, none, none, some 1]] (uB hi (es := []) (by rw [hp]; rfl)) : SpG g _ _ _ _ _))) (fun hc3 => ?_) (fun hc3 => ?_)
 (try simp only [zq8] at hc3)
 simp at hc3
 (try simp only [zq8] at hc3)
 exact zr hG [] [] aC
def zq13 := And.intro @List.length_append.{0} (And.intro @List.length_cons.{0} (And.intro @List.length_map.{0, 0} (And.intro @List.length_nil.{0} (And.intro @Go.Eng.inR.eq_1 (And.intro @intsD.eq_1 (@strs.eq_1))))))
theorem aKP (i : It) (hi : ItOk i) (hp : i.program ≠ []) :
  SpG g 38 [.c (cS (S (itT i)))] [] (.tup [(true, [cI ((i).id), cI ((i).author), cI ((i).rank), cI ((i).time), cI ((i).kind), cM 7 (aR ((i).input)), cI (tvK ((i).output)), cS (S (tvS ((i).output))), cI 0, cI 0, cI 0, cM 1 ([] : List (List D)), cM 1 ([] : List (List D)), cS (S (i).prop), cS (S (i).param), cM 1 (intsD ((i).program))]), (false, [cB true])]) [] := by
 refine aP 98 Tryz.func38 (by kernel_rfl) fun fr hG => ?_
 refine zC hG [(1, 1, kC (.tup [(false, [cS (S (rsT i 1))]), (false, [cB true])])), (4, 1, .call (.c (cI ((i).id))) [] [[.s (S (rsT i 2))], [.b true]]), (4, 3, .call (.c (cI ((i).author))) [] [[.s (S (rsT i 3))], [.b true]]), (4, 5, .call (.c (cI ((i).rank))) [] [[.s (S (rsT i 4))], [.b true]]), (4, 7, .call (.c (cI ((i).time))) [] [[.s (S (rsT i 5))], [.b true]]), (4, 9, .call (.c (cI ((i).kind))) [] [[.s (S (rsT i 6))], [.b true]]), (5, 1, .call (.c (cS (S (rwT (i).input)))) [] [[.s (S (rsT i 7))], [.b true]]), (5, 3, .call (.c (cS (S (tvT (i).output)))) [] [[.s (S (rsT i 8))], [.b true]]), (6, 1, .call (.c (cS (S (i).prop))) [] [[.s (S (rsT i 9))], [.b true]]), (6, 3, .call (.c (cS (S (i).param))) [] [[.s (S (rsT i 10))], [.b true]])] [1, 0, 1, 1, 1, 1, 1, 1, 1] (false) (⟨[zS 0 (S (itT i)), zX 2 100 0, zB 3 false, zX 4 205 0, zX 8 511 0, zS 9 (S (rwT (i).input)), zS 10 (S (tvT (i).output))], [(100, y13), (205, .box 9 [cS (S (rsT i 10))]), (511, .box 63 [cI ((i).id), cI ((i).author), cI ((i).rank), cI ((i).time), cI ((i).kind), cN, cI 0, cS (S []), cI 0, cI 0, cI 0, cN, cN, cS (S (i).prop), cS (S (i).param), cN])]⟩) (aA (mN i : SpG g _ _ _ _ _) (aA (fB i hi 0 (by decide) : SpG g _ _ _ _ _) (aA (fB i hi 1 (by decide) : SpG g _ _ _ _ _) (aA (fB i hi 2 (by decide) : SpG g _ _ _ _ _) (aA (fB i hi 3 (by decide) : SpG g _ _ _ _ _) (aA (fB i hi 4 (by decide) : SpG g _ _ _ _ _) (aA (fF i hi 0 (by decide) : SpG g _ _ _ _ _) (aA (fF i hi 1 (by decide) : SpG g _ _ _ _ _) (aA (fF i hi 2 (by decide) : SpG g _ _ _ _ _) (aB (fF i hi 3 (by decide) : SpG g _ _ _ _ _))))))))))) (fun hc1 => absurd hc1 (by decide)) (fun _ => ?_)
 refine zC hG [(10, 1, kC (y11 (aR ((i).input)))), (11, 1, kC (y10 (tvK ((i).output)) (S (tvS ((i).output))) ([] : List (List D))))] [1, 0, 1, 1, 1, 1, 1, 1, 1, 1, 1, 1, 1] (!((S (rsT i 10)).toList == (S []).toList)) (⟨[zS 0 (S (itT i)), zX 2 100 0, zB 3 false, zX 4 205 0, zX 8 511 0, zB 11 true, zB 12 true], [(100, y13), (205, .box 9 [cS (S (rsT i 10))]), (511, .box 63 [cI ((i).id), cI ((i).author), cI ((i).rank), cI ((i).time), cI ((i).kind), cM 7 (aR ((i).input)), cI (tvK ((i).output)), cS (S (tvS ((i).output))), cI 0, cI 0, cI 0, cM 1 ([] : List (List D)), cM 1 ([] : List (List D)), cS (S (i).prop), cS (S (i).param), cN])]⟩) (aA (oX i.input hi.len hi.cells : SpG g _ _ _ _ _) (aB (aE0 i.output hi.output : SpG g _ _ _ _ _))) (fun hc2 => ?_) (fun hc2 => ?_)
 (try simp only [zq8] at hc2)
 refine zA hG [(13, 1, .call (.c (.ar 100 0)) [(100, .arr 0 9 1 (strs (i.program.map Lib.itoa)))] [])] [0, 1, 0, 1, 0, 1, 1, 1, 1, 1, 1, 1, 1, 1, 1, 1] (⟨[zS 0 (S (itT i)), zX 2 100 0, zB 3 false, zX 8 511 0, zB 11 true, zB 12 true, zY 63 1401 0, zI 64 ((strs (i.program.map Lib.itoa)).length : Int), zI 65 0], [(100, y13), (511, .box 63 [cI ((i).id), cI ((i).author), cI ((i).rank), cI ((i).time), cI ((i).kind), cM 7 (aR ((i).input)), cI (tvK ((i).output)), cS (S (tvS ((i).output))), cI 0, cI 0, cI 0, cM 1 ([] : List (List D)), cM 1 ([] : List (List D)), cS (S (i).prop), cS (S (i).param), cN]), (1401, .arr 0 9 1 (strs (i.program.map Lib.itoa)))]⟩) [] [(511, 15, 9003, 3, 1)] (fun (zz : Nat × List (List D)) => match zz with | (q, es) => (i.program.length - q, ⟨[zS 0 (S (itT i)), zX 2 100 0, zB 3 false, zX 8 511 0, zB 11 true, zB 12 true, zY 63 1401 0, zI 64 ((strs (i.program.map Lib.itoa)).length : Int), zI 65 (q : Int)], [(100, y13), (511, .box 63 [cI ((i).id), cI ((i).author), cI ((i).rank), cI ((i).time), cI ((i).kind), cM 7 (aR ((i).input)), cI (tvK ((i).output)), cS (S (tvS ((i).output))), cI 0, cI 0, cI 0, cM 1 ([] : List (List D)), cM 1 ([] : List (List D)), cS (S (i).prop), cS (S (i).param), .ar 9003 0]), (1401, .arr 0 9 1 (strs (i.program.map Lib.itoa))), (9003, .arr 0 3 1 (es))]⟩, q ≤ i.program.length ∧ es = intsD (i.program.take q))) (0, []) (aB (aJZ hi hp : SpG g _ _ _ _ _)) ?_ ?_
 exact ⟨Nat.zero_le _, rfl⟩
 rintro ⟨q, es⟩ ⟨hq, hes⟩
 have hel : es.length = q := by rw [hes, intsD, List.length_map, List.length_take]; omega
 have hpl := hi.plen
 have hsl : (strs (i.program.map Lib.itoa)).length = i.program.length := by rw [strs, List.length_map, List.length_map]
 refine zc hG [] [0, 1] (decide (((q : Int) : Int) < ((strs (i.program.map Lib.itoa)).length : Int))) aC (fun hc4 => ?_) (fun hc4 => ?_)
 (try simp only [zq8] at hc4)
 refine zC hG [(15, 1, .elem (d5 ((i.program.map Lib.itoa).getD q []))), (16, 1, kC (y4 (i.program.getD q 0)))] [1, 0, 1, 1, 0, 0, 1, 1] (false) (⟨[zS 0 (S (itT i)), zX 2 100 0, zB 3 false, zX 8 511 0, zB 11 true, zB 12 true, zI 15 (i.program.getD q 0), zY 63 1401 0, zI 64 ((strs (i.program.map Lib.itoa)).length : Int), zI 65 (q : Int)], [(100, y13), (511, .box 63 [cI ((i).id), cI ((i).author), cI ((i).rank), cI ((i).time), cI ((i).kind), cM 7 (aR ((i).input)), cI (tvK ((i).output)), cS (S (tvS ((i).output))), cI 0, cI 0, cI 0, cM 1 ([] : List (List D)), cM 1 ([] : List (List D)), cS (S (i).prop), cS (S (i).param), .ar 9003 0]), (1401, .arr 0 9 1 (strs (i.program.map Lib.itoa))), (9003, .arr 0 3 1 (es))]⟩) (aA (by intros; (try simp only [zq13] at *); omega : (0 : Int) ≤ (q : Int) ∧ (q : Int) < ((strs (i.program.map Lib.itoa)).length : Int)) (aA (by intros; exact l4 (f := d5) (l := i.program.map Lib.itoa) [] (by rw [List.length_map]; omega) : (strs (i.program.map Lib.itoa))[q]? = some (d5 ((i.program.map Lib.itoa).getD q []))) (aB (atoi_at (q := q) hi (by omega) : SpG g _ _ _ _ _)))) (fun hc5 => absurd hc5 (by decide)) (fun _ => ?_)
 refine zD hG [] (q + 1, es ++ [[D.i (i.program.getD q 0)]]) (aA (by intros; (try simp only [zq13] at *); omega : ((es).length + (([[.i (i.program.getD q 0)]] : List (List D))).length) * (8 + 1) ≤ 140737488355328) (aB (by intros; (try simp only [zq13] at *); omega : inR ((q : Int) + 1)))) ?_ ?_
 (try dsimp only); omega
 refine ⟨by omega, ?_⟩
 rw [hes, dP 0 (by omega), intsD, intsD, List.map_append]; rfl
 (try simp only [zq8] at hc4)
 refine zE hG [] (.exit 0) (⟨[zS 0 (S (itT i)), zX 2 100 0, zB 3 false, zX 8 511 0, zB 11 true, zB 12 true], [(100, y13), (511, .box 63 [cI ((i).id), cI ((i).author), cI ((i).rank), cI ((i).time), cI ((i).kind), cM 7 (aR ((i).input)), cI (tvK ((i).output)), cS (S (tvS ((i).output))), cI 0, cI 0, cI 0, cM 1 ([] : List (List D)), cM 1 ([] : List (List D)), cS (S (i).prop), cS (S (i).param), .ar 9003 0]), (9003, .arr 0 3 1 (es))]⟩) aC rfl ?_
 refine zC hG [(21, 8, kS (S (itT i)))] [1, 0, 1, 1, 1, 1, 1, 1, 1, 1, 1, 1, 1, 1] (!((S (itT i)).toList == (S (itT i)).toList)) (⟨[zX 2 100 0, zB 3 false, zX 8 511 0], [(100, y13), (511, .box 63 [cI ((i).id), cI ((i).author), cI ((i).rank), cI ((i).time), cI ((i).kind), cM 7 (aR ((i).input)), cI (tvK ((i).output)), cS (S (tvS ((i).output))), cI 0, cI 0, cI 0, cM 1 ([] : List (List D)), cM 1 ([] : List (List D)), cS (S (i).prop), cS (S (i).param), .ar 9003 0]), (9003, .arr 0 3 1 (es))]⟩) (aB (fun (hg1 : false = false) => (uB hi (es := es) (by rw [hes, List.take_of_length_le (by omega)]) : SpG g _ _ _ _ _))) (fun hc6 => ?_) (fun hc6 => ?_)
 (try simp only [zq8] at hc6)
 simp at hc6
 (try simp only [zq8] at hc6)
 refine zR hG [] [] (.tup [(true, [cI ((i).id), cI ((i).author), cI ((i).rank), cI ((i).time), cI ((i).kind), cM 7 (aR ((i).input)), cI (tvK ((i).output)), cS (S (tvS ((i).output))), cI 0, cI 0, cI 0, cM 1 ([] : List (List D)), cM 1 ([] : List (List D)), cS (S (i).prop), cS (S (i).param), cM 1 (es)]), (false, [cB true])]) [] aC ?_ ?_
 rw [hes, List.take_of_length_le (by omega)]
 rfl
 (try simp only [zq8] at hc2)
 exact (aCE (by have h2 : rsT i 10 = [] := (by simpa using hc2); exact h2) hp).elim
theorem aIF (i : It) (hi : ItOk i) : SpG g 38 [.c (cS (S (itT i)))] [] (.tup [(true, [cI ((i).id), cI ((i).author), cI ((i).rank), cI ((i).time), cI ((i).kind), cM 7 (aR ((i).input)), cI (tvK ((i).output)), cS (S (tvS ((i).output))), cI 0, cI 0, cI 0, cM 1 ([] : List (List D)), cM 1 ([] : List (List D)), cS (S (i).prop), cS (S (i).param), cM 1 (intsD ((i).program))]), (false, [cB true])]) [] := by
 by_cases h : i.program = []
 have := m9 [[none, none, none, none, none, none, none, none, none, none, none, none, none, none, none, some 1], []] (read_no (g := g) i hi h)
 rw [show intsD i.program = [] by rw [h]; rfl]
 exact this
 exact aKP i hi h
end Go.Proofs.YtclaplngjmgnoaaGreatDoor
namespace Go.Proofs.YtclaplngjmgnoaaGreatDoor
open Go.RowKit Go.V
open Go.Eng (inR byteAt u8 d8)
variable {g : Gv}
def nxV (l : List Int) (k n : Int) : Int := if k ≥ l.length ∨ n < 1 then 0 else ((l.getD k.toNat 0).tmod n + n).tmod n
def nxK (l : List Int) (k n : Int) : Int := if k ≥ l.length ∨ n < 1 then k else k + 1
structure NumOk (l : List Int) (k : Int) : Prop where
 k0 : 0 ≤ k
 k1 : k ≤ l.length
 k2 : (l.length : Int) ≤ 9223372036854775807
theorem NumOk.next {l : List Int} {k : Int} (h : NumOk l k) (n : Int) : NumOk l (nxK l k n) := by
 have := h.k0; have := h.k1
 unfold nxK; split
 ·exact h
 ·exact ⟨by omega, by omega, h.k2⟩
theorem aEG {x n : Int} (hn : 1 ≤ n) : -n < x.tmod n ∧ x.tmod n < n :=
 ⟨Int.lt_tmod_of_pos x (by omega), Int.tmod_lt_of_pos x (by omega)⟩
theorem dJ (l : List Int) (k : Int) {n : Int} (hn : 1 ≤ n) : 0 ≤ nxV l k n ∧ nxV l k n < n := by
 unfold nxV
 split
 omega
 have h1 := aEG (x := l.getD k.toNat 0) hn
 refine ⟨Int.tmod_nonneg _ (by omega), Int.tmod_lt_of_pos _ (by omega)⟩
def wordsL : List (List UInt8) := [[], [97], [98], [97, 98], [105, 116, 39, 115], [50, 48, 50, 52, 45, 48, 49, 45, 51, 49], [49, 50], [45, 51, 46, 53], [65, 124, 66, 44, 91, 99, 93, 59], [78, 111, 114, 116, 104, 32, 55], [120, 32, 121], [39, 39], [97, 98, 99, 97, 98, 99], [48], [55, 46, 50, 53]]
def chM (l : List Int) : Nat → Int → List UInt8 × Int
 | 0, k => ([], k)
 | n + 1, k => (u8 (32 + nxV l k 95) :: (chM l n (nxK l k 95)).1, (chM l n (nxK l k 95)).2)
def txN (l : List Int) (k : Int) : Int := if nxV l k 18 = 17 then 190 + nxV l (nxK l (nxK l k 18) 9) 11 else nxV l (nxK l k 18) 9
def txK (l : List Int) (k : Int) : Int := if nxV l k 18 = 17 then nxK l (nxK l (nxK l k 18) 9) 11 else nxK l (nxK l k 18) 9
def txM (l : List Int) (k : Int) : List UInt8 × Int := if nxV l k 18 < 15 then (wordsL.getD (nxV l k 18).toNat [], nxK l k 18) else chM l (txN l k).toNat (txK l k)
theorem aF4 {l : List Int} {N j : Nat} {kk : Int} (h : j < N) : chM l (N - j) kk = (u8 (32 + nxV l kk 95) :: (chM l (N - (j + 1)) (nxK l kk 95)).1, (chM l (N - (j + 1)) (nxK l kk 95)).2) := by
 have : N - j = (N - (j + 1)) + 1 := by omega
 rw [this, chM]
theorem aNB (l : List Int) : ∀ (n : Nat) (k : Int), (chM l n k).1.length = n
 | 0, k => rfl
 | n + 1, k => by simp [chM, aNB l n]
theorem aNA {l : List Int} : ∀ (n : Nat) {k : Int}, NumOk l k → NumOk l (chM l n k).2
 | 0, k, h => h
 | n + 1, k, h => by rw [chM]; exact aNA n (h.next 95)
theorem mY {l : List Int} {k : Int} (h : NumOk l k) : NumOk l (txM l k).2 := by
 unfold txM; split
 ·exact h.next 18
 ·refine aNA _ ?_
  unfold txK; split
  ·exact ((h.next 18).next 9).next 11
  ·exact (h.next 18).next 9
theorem txN_bd (l : List Int) (k : Int) : 0 ≤ txN l k ∧ txN l k ≤ 200 := by
 unfold txN
 have h1 := dJ l (nxK l (nxK l k 18) 9) (n := 11) (by decide)
 have h2 := dJ l (nxK l k 18) (n := 9) (by decide)
 split <;> omega
def aI9 := And.intro @List.length_map.{0, 0} (And.intro @Go.Eng.inR.eq_1 (And.intro @intsD.eq_1 (@maxLen.eq_1)))
abbrev y14 (a0 : List (List D)) (a1 : Int) : Ob := .box 162 [cM 1 a0, cI a1]
theorem g5 (l : List Int) (k n : Int) (h : NumOk l k) (hn : n ≤ 1000000000000000001) :
  SpG g 82 [.c (.bx 0 0), .c (cI n)] [(0, y14 (intsD l) k)] (.c (cI (nxV l k n))) [(0, y14 (intsD l) (nxK l k n))] := by
 have h0 := h.k0; have h1 := h.k1; have h2 := h.k2
 have hk1 : k + 1 - 1 = k := by omega
 have hb : 1 ≤ n → -n < (l.getD k.toNat 0).tmod n ∧ (l.getD k.toNat 0).tmod n < n := aEG
 refine aP 43 Tryz.func82 (by kernel_rfl) fun fr hG => ?_
 refine zC hG [] [1, 0, 1] ((decide ((k : Int) ≥ ((intsD l).length : Int))) || (decide ((n : Int) < 1))) (⟨[zX 0 0 0, zI 1 n, zI 4 0], [(0, y14 (intsD l) k)]⟩) aC (fun hc1 => ?_) (fun hc1 => ?_)
 (try simp only [blS, intsD, List.length_map] at hc1)
 refine zR hG [] [] (.c (cI 0)) [(0, y14 (intsD l) k)] aC ?_ ?_
 rw [nxV, if_pos hc1]
 rw [nxK, if_pos hc1]
 (try simp only [blS, intsD, List.length_map] at hc1)
 refine zR hG [(4, 9, .elem (intD ((l).getD ((k + 1) - 1 : Int).toNat 0)))] [] (.c (cI (Int.tmod ((Int.tmod ((l).getD ((k + 1) - 1 : Int).toNat 0) n) + n) n))) [(0, y14 (intsD l) (k + 1))] (aA (by intros; (try rw [hk1]); (try simp only [aI9] at *); omega : inR (k + 1)) (aA (by intros; (try rw [hk1]); (try simp only [aI9] at *); omega : inR ((k + 1) - 1)) (aA (by intros; exact d6 _ (by omega) (by (try simp only [intsD, List.length_map] at *); omega) : (0 : Int) ≤ ((k + 1) - 1) ∧ (intsD l)[((k + 1) - 1 : Int).toNat]? = some (intD ((l).getD ((k + 1) - 1 : Int).toNat 0))) (aA (by intros; (try rw [hk1]); (try simp only [aI9] at *); omega : n ≠ (0 : Int)) (aA (by intros; (try rw [hk1]); (try simp only [aI9] at *); omega : inR ((Int.tmod ((l).getD ((k + 1) - 1 : Int).toNat 0) n) + n)) (aB (by intros; (try rw [hk1]); (try simp only [aI9] at *); omega : n ≠ (0 : Int)))))))) ?_ ?_
 rw [nxV, if_neg (by omega), hk1]
 rw [nxK, if_neg (by omega)]
theorem aJB  :
  SpG g 212 [] [] (.c (.ar 100 0)) [(100, .arr 0 9 1 (strs wordsL))] := by
 refine aP 2 Tryz.func212 (by kernel_rfl) fun fr hG => ?_
 exact zr hG [] [200] aC
theorem aDF (l : List Int) (k : Int) (h : NumOk l k) :
  SpG g 142 [.c (.bx 0 0)] [(0, y14 (intsD l) k)] (.c (cS (S (txM l k).1))) [(0, y14 (intsD l) ((txM l k).2))] := by
 have a1 := dJ l k (n := 18) (by decide)
 have a2 := dJ l (nxK l k 18) (n := 9) (by decide)
 have a3 := dJ l (nxK l (nxK l k 18) 9) (n := 11) (by decide)
 have hw : ((strs wordsL).length : Int) = 15 := rfl
 refine aP 40 Tryz.func142 (by kernel_rfl) fun fr hG => ?_
 refine zP hG [(1, 1, .call (.c (cI (nxV l k 18))) [] [[.sl 1 (intsD l), .i (nxK l k 18)]]), (2, 0, .call (.c (.ar 100 0)) [(100, .arr 0 9 1 (strs wordsL))] [])] [1, 0, 1, 1, 1] ((nxV l k 18 : Int) < ((strs wordsL).length : Int)) (⟨[zX 0 0 0, zS 2 (S []), zI 3 (nxV l k 18), zY 4 300 0], [(0, y14 (intsD l) (nxK l k 18)), (300, .arr 0 9 1 (strs wordsL))]⟩) (aA (g5 l k 18 (by (repeat (first | assumption | apply NumOk.next))) (by decide) : SpG g _ _ _ _ _) (aB (aJB : SpG g _ _ _ _ _))) (fun hc1 => ?_) (fun hc1 => ?_)
 ·skip
  refine zR hG [(4, 3, .elem (d5 ((wordsL).getD (nxV l k 18 : Int).toNat [])))] [] (.c (cS (S ((wordsL).getD (nxV l k 18 : Int).toNat [])))) [(0, y14 (intsD l) (nxK l k 18))] (aA (by intros; (try simp only [inR, maxLen] at *); (try simp only [zq1] at *); omega : (0 : Int) ≤ (nxV l k 18) ∧ (nxV l k 18) < ((strs wordsL).length : Int)) (aB (by intros; exact l4 _ (by (try simp only [strs, rowD, aKE, valsD, List.length_map] at *); omega) : (strs wordsL)[(nxV l k 18 : Int).toNat]? = some (d5 ((wordsL).getD (nxV l k 18 : Int).toNat []))))) ?_ ?_
  ·rw [txM, if_pos (by omega)]
  ·rw [txM, if_pos (by omega)]
 ·skip
  refine zP hG [(5, 1, .call (.c (cI (nxV l (nxK l k 18) 9))) [] [[.sl 1 (intsD l), .i (nxK l (nxK l k 18) 9)]])] [1, 0, 1, 1, 1, 1, 1] ((nxV l k 18 : Int) = 17) (⟨[zX 0 0 0, zS 2 (S []), zI 5 (nxV l (nxK l k 18) 9)], [(0, y14 (intsD l) (nxK l (nxK l k 18) 9))]⟩) (aB (g5 l (nxK l k 18) 9 (by (repeat (first | assumption | apply NumOk.next))) (by decide) : SpG g _ _ _ _ _)) (fun hc2 => ?_) (fun hc2 => ?_)
  ·skip
   refine zA hG [(7, 1, .call (.c (cI (nxV l (nxK l (nxK l k 18) 9) 11))) [] [[.sl 1 (intsD l), .i (nxK l (nxK l (nxK l k 18) 9) 11)]])] [0, 1, 0, 1, 1, 1, 1, 1, 1, 1] (⟨[zX 0 0 0, zS 2 (S []), zI 5 (190 + (nxV l (nxK l (nxK l k 18) 9) 11)), zN 6, zI 7 0], [(0, y14 (intsD l) (nxK l (nxK l (nxK l k 18) 9) 11))]⟩) [(6, 9000, 5, 1)] [] (fun (zz : Nat × List (List D) × List UInt8 × Int) => match zz with | (j, es, acc, kk) => ((190 + (nxV l (nxK l (nxK l k 18) 9) 11)).toNat - j, ⟨[zX 0 0 0, zS 2 (S []), zI 5 (190 + (nxV l (nxK l (nxK l k 18) 9) 11)), zY 6 9000 0, zI 7 (j : Int)], [(0, y14 (intsD l) kk), (9000, .arr 0 5 1 (es))]⟩, j ≤ (190 + (nxV l (nxK l (nxK l k 18) 9) 11)).toNat ∧ NumOk l kk ∧ es = bytesD acc ∧ acc.length = j ∧ acc ++ (chM l ((190 + (nxV l (nxK l (nxK l k 18) 9) 11)).toNat - j) kk).1 = (chM l (190 + (nxV l (nxK l (nxK l k 18) 9) 11)).toNat (nxK l (nxK l (nxK l k 18) 9) 11)).1 ∧ (chM l ((190 + (nxV l (nxK l (nxK l k 18) 9) 11)).toNat - j) kk).2 = (chM l (190 + (nxV l (nxK l (nxK l k 18) 9) 11)).toNat (nxK l (nxK l (nxK l k 18) 9) 11)).2)) (0, [], [], nxK l (nxK l (nxK l k 18) 9) 11) (aA (g5 l (nxK l (nxK l k 18) 9) 11 (by (repeat (first | assumption | apply NumOk.next))) (by decide) : SpG g _ _ _ _ _) (aB (by intros; (try simp only [inR, maxLen] at *); (try simp only [zq1] at *); omega : inR (190 + (nxV l (nxK l (nxK l k 18) 9) 11))))) ?_ ?_
   ·exact ⟨Nat.zero_le _, (by (repeat (first | assumption | apply NumOk.next))), rfl, rfl, by simp, by simp⟩
   rintro ⟨j, es, acc, kk⟩ ⟨hj, hN, hes, ha, h3, h4⟩
   have hlen : es.length = j := by rw [hes, bK, ha]
   have hx := dJ l kk (n := 95) (by decide)
   refine zp hG [] [1, 0] (((j : Int) : Int) < (190 + (nxV l (nxK l (nxK l k 18) 9) 11))) aC (fun hc4 => ?_) (fun hc4 => ?_)
   ·skip
    refine zD hG [(12, 2, .call (.c (cI (nxV l kk 95))) [] [[.sl 1 (intsD l), .i (nxK l kk 95)]])] (j + 1, es ++ [[D.y (IntKind.wrap .u8 (32 + nxV l kk 95))]], acc ++ [u8 (32 + nxV l kk 95)], nxK l kk 95) (aA (g5 l kk 95 (by (repeat (first | assumption | apply NumOk.next))) (by decide) : SpG g _ _ _ _ _) (aA (by intros; (try simp only [inR, maxLen] at *); (try simp only [zq1] at *); omega : inR (32 + (nxV l kk 95))) (aA (by intros; (try simp only [inR, maxLen] at *); (try simp only [zq1] at *); omega : ((es).length + ([[.y (IntKind.wrap .u8 (32 + (nxV l kk 95)))]] : List (List D)).length) * (1 + 1) ≤ 140737488355328) (aB (by intros; (try simp only [inR, maxLen] at *); (try simp only [zq1] at *); omega : inR ((j : Int) + 1)))))) ?_ ?_
    ·(try dsimp only); omega
    ·have hjs := aF4 (l := l) (kk := kk) (N := (190 + (nxV l (nxK l (nxK l k 18) 9) 11)).toNat) (j := j) (by omega)
     refine ⟨by omega, hN.next _, by rw [hes, pC], by simp [ha], ?_, ?_⟩
     ·rw [← h3, hjs]; simp
     ·rw [← h4, hjs]
   ·skip
    refine zE hG [] (.exit 0) (⟨[zS 2 (S []), zY 6 9000 0], [(0, y14 (intsD l) kk), (9000, .arr 0 5 1 (es))]⟩) aC rfl ?_
    refine zR hG [(13, 1, kS (S acc))] [] (.c (cS (S acc))) [(0, y14 (intsD l) kk)] (aB (by rw [hes, mQ] : es = bytesD (S acc).data.toList)) ?_ ?_
    ·have e : txM l k = chM l (txN l k).toNat (txK l k) := by rw [txM, if_neg (by omega)]
     have e2 : txN l k = 190 + nxV l (nxK l (nxK l k 18) 9) 11 := by rw [txN, if_pos hc2]
     have e3 : txK l k = nxK l (nxK l (nxK l k 18) 9) 11 := by rw [txK, if_pos hc2]
     have hz : (190 + nxV l (nxK l (nxK l k 18) 9) 11).toNat - j = 0 := by omega
     rw [hz] at h3
     simp only [chM, List.append_nil] at h3
     rw [e, e2, e3, ← h3]
    ·have e : txM l k = chM l (txN l k).toNat (txK l k) := by rw [txM, if_neg (by omega)]
     have e2 : txN l k = 190 + nxV l (nxK l (nxK l k 18) 9) 11 := by rw [txN, if_pos hc2]
     have e3 : txK l k = nxK l (nxK l (nxK l k 18) 9) 11 := by rw [txK, if_pos hc2]
     have hz : (190 + nxV l (nxK l (nxK l k 18) 9) 11).toNat - j = 0 := by omega
     rw [hz] at h4
     simp only [chM] at h4
     rw [e, e2, e3, ← h4]
  ·skip
   refine zA hG [] [0, 1, 0, 1, 1, 1, 1, 1, 1, 1] (⟨[zX 0 0 0, zS 2 (S []), zI 5 (nxV l (nxK l k 18) 9), zN 6, zI 7 0], [(0, y14 (intsD l) (nxK l (nxK l k 18) 9))]⟩) [(6, 9000, 5, 1)] [] (fun (zz : Nat × List (List D) × List UInt8 × Int) => match zz with | (j, es, acc, kk) => ((nxV l (nxK l k 18) 9).toNat - j, ⟨[zX 0 0 0, zS 2 (S []), zI 5 (nxV l (nxK l k 18) 9), zY 6 9000 0, zI 7 (j : Int)], [(0, y14 (intsD l) kk), (9000, .arr 0 5 1 (es))]⟩, j ≤ (nxV l (nxK l k 18) 9).toNat ∧ NumOk l kk ∧ es = bytesD acc ∧ acc.length = j ∧ acc ++ (chM l ((nxV l (nxK l k 18) 9).toNat - j) kk).1 = (chM l (nxV l (nxK l k 18) 9).toNat (nxK l (nxK l k 18) 9)).1 ∧ (chM l ((nxV l (nxK l k 18) 9).toNat - j) kk).2 = (chM l (nxV l (nxK l k 18) 9).toNat (nxK l (nxK l k 18) 9)).2)) (0, [], [], nxK l (nxK l k 18) 9) aC ?_ ?_
   ·exact ⟨Nat.zero_le _, (by (repeat (first | assumption | apply NumOk.next))), rfl, rfl, by simp, by simp⟩
   rintro ⟨j, es, acc, kk⟩ ⟨hj, hN, hes, ha, h3, h4⟩
   have hlen : es.length = j := by rw [hes, bK, ha]
   have hx := dJ l kk (n := 95) (by decide)
   refine zp hG [] [1, 0] (((j : Int) : Int) < (nxV l (nxK l k 18) 9)) aC (fun hc6 => ?_) (fun hc6 => ?_)
   ·skip
    refine zD hG [(12, 2, .call (.c (cI (nxV l kk 95))) [] [[.sl 1 (intsD l), .i (nxK l kk 95)]])] (j + 1, es ++ [[D.y (IntKind.wrap .u8 (32 + nxV l kk 95))]], acc ++ [u8 (32 + nxV l kk 95)], nxK l kk 95) (aA (g5 l kk 95 (by (repeat (first | assumption | apply NumOk.next))) (by decide) : SpG g _ _ _ _ _) (aA (by intros; (try simp only [inR, maxLen] at *); (try simp only [zq1] at *); omega : inR (32 + (nxV l kk 95))) (aA (by intros; (try simp only [inR, maxLen] at *); (try simp only [zq1] at *); omega : ((es).length + ([[.y (IntKind.wrap .u8 (32 + (nxV l kk 95)))]] : List (List D)).length) * (1 + 1) ≤ 140737488355328) (aB (by intros; (try simp only [inR, maxLen] at *); (try simp only [zq1] at *); omega : inR ((j : Int) + 1)))))) ?_ ?_
    ·(try dsimp only); omega
    ·have hjs := aF4 (l := l) (kk := kk) (N := (nxV l (nxK l k 18) 9).toNat) (j := j) (by omega)
     refine ⟨by omega, hN.next _, by rw [hes, pC], by simp [ha], ?_, ?_⟩
     ·rw [← h3, hjs]; simp
     ·rw [← h4, hjs]
   ·skip
    refine zE hG [] (.exit 0) (⟨[zS 2 (S []), zY 6 9000 0], [(0, y14 (intsD l) kk), (9000, .arr 0 5 1 (es))]⟩) aC rfl ?_
    refine zR hG [(13, 1, kS (S acc))] [] (.c (cS (S acc))) [(0, y14 (intsD l) kk)] (aB (by rw [hes, mQ] : es = bytesD (S acc).data.toList)) ?_ ?_
    ·have e : txM l k = chM l (txN l k).toNat (txK l k) := by rw [txM, if_neg (by omega)]
     have e2 : txN l k = nxV l (nxK l k 18) 9 := by rw [txN, if_neg hc2]
     have e3 : txK l k = nxK l (nxK l k 18) 9 := by rw [txK, if_neg hc2]
     have hz : (nxV l (nxK l k 18) 9).toNat - j = 0 := by omega
     rw [hz] at h3
     simp only [chM, List.append_nil] at h3
     rw [e, e2, e3, ← h3]
    ·have e : txM l k = chM l (txN l k).toNat (txK l k) := by rw [txM, if_neg (by omega)]
     have e2 : txN l k = nxV l (nxK l k 18) 9 := by rw [txN, if_neg hc2]
     have e3 : txK l k = nxK l (nxK l k 18) 9 := by rw [txK, if_neg hc2]
     have hz : (nxV l (nxK l k 18) 9).toNat - j = 0 := by omega
     rw [hz] at h4
     simp only [chM] at h4
     rw [e, e2, e3, ← h4]
def uM (c : UInt8) : List UInt8 := if c = 39 then [39, 39] else [c]
def kJ (l : List UInt8) : List UInt8 := l.flatMap uM
def quoL (l : List UInt8) : List UInt8 := [39] ++ kJ l ++ [39]
theorem nX : ∀ (l : List UInt8), (kJ l).length ≤ 2 * l.length
 | [] => by simp [kJ]
 | c :: l => by
  have := nX l
  have h1 : (uM c).length ≤ 2 := by unfold uM; split <;> simp
  simp only [zq0, kJ, List.flatMap_cons] at this ⊢
  omega
theorem uL {l : List UInt8} {k : Nat} (h : k < l.length) : kJ (l.take (k + 1)) = kJ (l.take k) ++ uM (l.getD k 0) := by
 have e : l.take (k + 1) = l.take k ++ [l.getD k 0] := by
  rw [List.take_add_one, List.getD_eq_getElem?_getD, List.getElem?_eq_getElem h]; rfl
 rw [e, kJ, List.flatMap_append]
 simp [kJ]
theorem S_cutq (l : List UInt8) (a b : Nat) : (S l).extract a b = S ((l.take b).drop a) := by
 apply ByteArray.ext
 rw [ByteArray.data_extract]
 apply Array.ext'
 simp [S, List.drop_take, List.extract_eq_take_drop]
theorem kL {l : List UInt8} {k : Nat} (h : k < l.length) : (S l).extract k ((k : Int) + 1).toNat = S [l.getD k 0] := by
 have e : ((k : Int) + 1).toNat = k + 1 := by omega
 rw [e, S_cutq]
 congr 1
 have e : l.take (k + 1) = l.take k ++ [l.getD k 0] := by
  rw [List.take_add_one, List.getD_eq_getElem?_getD, List.getElem?_eq_getElem h]; rfl
 have ht : (l.take k).length = k := by rw [List.length_take]; omega
 rw [e, List.drop_append_of_le_length (by omega), List.drop_of_length_le (by omega)]
 rfl
theorem cEqq {l : List UInt8} {k : Nat} (h : ((l.getD k 0).toNat : Int) = 39) : l.getD k 0 = 39 := by
 have : (l.getD k 0).toNat = 39 := by omega
 exact UInt8.toNat_inj.1 this
theorem cNe {l : List UInt8} {k : Nat} (h : ¬ ((l.getD k 0).toNat : Int) = 39) : ¬ l.getD k 0 = 39 := fun e => h (by rw [e]; rfl)
def yG := And.intro @List.length_append.{0} (And.intro @List.length_cons.{0} (And.intro @List.length_nil.{0} (And.intro @eO (And.intro @aM (And.intro @Go.Eng.inR.eq_1 (@maxLen.eq_1))))))
theorem aHH (s : List UInt8) (h : s.length ≤ 1000000) :
  SpG g 147 [.c (cS (S s))] [] (.c (cS (S (quoL s)))) [] := by
 refine aP 26 Tryz.func147 (by kernel_rfl) fun fr hG => ?_
 refine zL hG [] [0, 1, 0, 1, 1] (fun (zz : ByteArray × Nat) => match zz with | (o, k) => (s.length - k, ⟨[zS 0 (S s), zS 2 (S []), zS 3 o, zI 4 (k : Int)], []⟩, k ≤ s.length ∧ o = S ([39] ++ kJ (s.take k)))) (S [39], 0) aC ?_ ?_
 exact ⟨Nat.zero_le _, by simp [kJ]⟩
 rintro ⟨o, k⟩ ⟨hk, ho⟩
 have hl := nX (s.take k)
 have ht : (s.take k).length = k := by simp; omega
 refine zc hG [] [1, 0] (decide (((k : Int) : Int) < ((S s).size : Int))) aC (fun hc2 => ?_) (fun hc2 => ?_)
 (try simp only [blS, aM, gL, Int.toNat_natCast] at hc2)
 refine zC hG [] [1, 1, 0, 0, 1] (decide ((byteAt (S s) (k : Int) : Int) = 39)) (⟨[zS 0 (S s), zS 2 (S []), zS 3 (o ++ ((S s).extract k ((k : Int) + 1 : Int).toNat)), zI 4 (k : Int)], []⟩) (aA (by intros; (try rw [kL (by (try simp only [aM] at *); omega)]); (try rw [ho]); (try simp only [yG] at *); omega : inR ((k : Int) + 1)) (aA (by intros; (try rw [kL (by (try simp only [aM] at *); omega)]); (try rw [ho]); (try simp only [yG] at *); omega : (0 : Int) ≤ (k : Int) ∧ ((k : Int) : Int) ≤ ((k : Int) + 1) ∧ ((k : Int) + 1) ≤ ((S s).size : Int)) (aA (by intros; (try rw [kL (by (try simp only [aM] at *); omega)]); (try rw [ho]); (try simp only [yG] at *); omega : (o).size + ((S s).extract k ((k : Int) + 1 : Int).toNat).size ≤ maxLen) (aB (by intros; (try rw [kL (by (try simp only [aM] at *); omega)]); (try rw [ho]); (try simp only [yG] at *); omega : (0 : Int) ≤ (k : Int) ∧ (k : Int) < ((S s).size : Int)))))) (fun hc3 => ?_) (fun hc3 => ?_)
 (try simp only [blS, aM, gL, Int.toNat_natCast] at hc3)
 refine zD hG [] ((o ++ ((S s).extract k ((k : Int) + 1 : Int).toNat)) ++ (S [39]), k + 1) (aA (by intros; (try rw [kL (by (try simp only [aM] at *); omega)]); (try rw [ho]); (try simp only [yG] at *); omega : (o ++ ((S s).extract k ((k : Int) + 1 : Int).toNat)).size + (S [39]).size ≤ maxLen) (aB (by intros; (try rw [kL (by (try simp only [aM] at *); omega)]); (try rw [ho]); (try simp only [yG] at *); omega : inR ((k : Int) + 1)))) ?_ ?_
 (try dsimp only); omega
 refine ⟨by omega, ?_⟩
 rw [kL (by omega), ho, eO, eO, uL (by omega)]
 rw [uM, if_pos (cEqq hc3), cEqq hc3]; simp
 (try simp only [blS, aM, gL, Int.toNat_natCast] at hc3)
 refine zD hG [] (o ++ ((S s).extract k ((k : Int) + 1 : Int).toNat), k + 1) (aB (by intros; (try rw [kL (by (try simp only [aM] at *); omega)]); (try rw [ho]); (try simp only [yG] at *); omega : inR ((k : Int) + 1))) ?_ ?_
 (try dsimp only); omega
 refine ⟨by omega, ?_⟩
 rw [kL (by omega), ho, eO, uL (by omega)]
 rw [uM, if_neg (cNe hc3)]; simp
 (try simp only [blS, aM, gL, Int.toNat_natCast] at hc2)
 refine zE hG [] (.exit 0) (⟨[zS 2 (S []), zS 3 o], []⟩) aC rfl ?_
 refine zR hG [] [] (.c (cS (o ++ (S [39])))) [] (aB (by intros; (try rw [kL (by (try simp only [aM] at *); omega)]); (try rw [ho]); (try simp only [yG] at *); omega : (o).size + (S [39]).size ≤ maxLen)) ?_ ?_
 have : s.take k = s := List.take_of_length_le (by omega)
 rw [ho, this, eO]; rfl
 rfl
theorem yY {a b : Bool} (h : a = b) : (SV.c (cB a) : SV) = .c (cB b) := by rw [h]
theorem aHJ (s : ByteArray) (hs : s.size ≤ maxLen) :
  SpG g 214 [.c (cS s)] [] (.c (cB (c6 s))) [] := by
 unfold maxLen at hs
 refine aP 23 Tryz.func214 (by kernel_rfl) fun fr hG => ?_
 refine zL hG [] [0, 1, 0, 1] (fun (zz : Nat) => match zz with | k => (s.size - k, ⟨[zS 0 s, zB 2 false, zI 3 (k : Int)], []⟩, k ≤ s.size ∧ (bs s).all dY = ((bs s).drop k).all dY)) 0 aC ?_ ?_
 exact ⟨Nat.zero_le _, rfl⟩
 rintro k ⟨hk, hall⟩
 refine zp hG [] [1, 0] (((k : Int) : Int) < ((s).size : Int)) aC (fun hc2 => ?_) (fun hc2 => ?_)
 skip
 refine zc hG [] [1, 0, 0, 1] ((decide ((byteAt (s) (k : Int) : Int) < 32)) || (decide ((byteAt (s) (k : Int) : Int) > 126))) (aA (by intros; first | omega | decide | (simp only [inR, blS] at *; omega) : (0 : Int) ≤ (k : Int) ∧ (k : Int) < ((s).size : Int)) (aB (by intros; first | omega | decide | (simp only [inR, blS] at *; omega) : (decide ((byteAt (s) (k : Int) : Int) < 32)) = false → (0 : Int) ≤ (k : Int) ∧ (k : Int) < ((s).size : Int)))) (fun hc3 => ?_) (fun hc3 => ?_)
 (try simp only [blS] at hc3)
 refine zE hG [] .ret (⟨[zS 0 s, zB 2 false], []⟩) aC rfl ?_
 refine zR hG [] [] (.c (cB false)) [] aC ?_ ?_
 refine yY ?_
 rw [c6, hall, pZ s k (by omega)]; simp only [iQ] at hc3; simp [dY]; omega
 rfl
 (try simp only [blS] at hc3)
 refine zD hG [] (k + 1) (aB (by intros; first | omega | decide | (simp only [inR, blS] at *; omega) : inR ((k : Int) + 1))) ?_ ?_
 (try dsimp only); omega
 exact ⟨by omega, by rw [hall, pZ s k (by omega)]; simp only [iQ] at hc3; simp [dY]; omega⟩
 skip
 refine zE hG [] (.exit 0) (⟨[zS 0 s, zB 2 false], []⟩) aC rfl ?_
 refine zR hG [] [] (.c (cB (decide ((((s).size : Int) : Int) ≤ 200)))) [] aC ?_ ?_
 refine yY ?_
 rw [c6, hall, aNJ s k (by omega)]; simp
 rfl
theorem val1_ok (l : List Int) (k : Int) (h : NumOk l k) :
  SpG g 91 [.c (.bx 0 0), .c (cI 1)] [(0, y14 (intsD l) k)] (.agg [cI 1, cS (S (txM l k).1), cI 0, cI 0, cI 0, cN, cN]) [(0, y14 (intsD l) ((txM l k).2))] := by
 refine aP 45 Tryz.func91 (by kernel_rfl) fun fr hG => ?_
 refine zC hG [] [1, 0, 1, 0, 1] (true) (⟨[zX 0 0 0, zI 1 1, zX 4 100 0, zI 6 1], [(0, y14 (intsD l) k), (100, y8)]⟩) aC (fun _ => ?_) (fun hc1 => absurd hc1 (by decide))
 exact zr hG [(3, 2, .call (.c (cS (S (txM l k).1))) [] [[.sl 1 (intsD l), .i ((txM l k).2)]])] [] (aB (aDF l k h : SpG g _ _ _ _ _))
end Go.Proofs.YtclaplngjmgnoaaGreatDoor
namespace Go.V
open Go.RowKit
def yA (P : Program) (fr : Fr) (n : Nat) (ops : Array Oper) (i : Nat) (r : Rec) (envi : Env) (owni : Own) : Prop :=
 ∀ (env : Env) (own : Own) (a : Act) (w : World) (pl : Pl), Ok fr n env own a w pl → (∀ u ∈ r.uses, env u = envi u) → (∀ j ∈ r.touch, own j = owni j) →
  (∀ t, r.dst = some t → ∀ u q sv, env u = some (q, sv) → u ≠ t → ∀ x ∈ q, x.1 ≠ t) → ∀ K : Act → World → Prop, (∀ a' w' pl', Ok fr n (dW env r) (bE own r.upd) a' w' pl' → K a' w') → d9 P ops i K a w
structure RecsOk (P : Program) (fr : Fr) (n : Nat) (ops : Array Oper) (rs : List Rec) (env : Env) (own : Own) (env' : Env) (own' : Own) : Prop where
 len : rs.length = ops.size
 envE : env' = bZ rs (fun _ => true) 0 env
 ownE : own' = bV rs (fun _ => true) 0 own
 each : ∀ (i : Nat) (r : Rec), rs[i]? = some r → ∃ envi owni, yA P fr n ops i r envi owni ∧ envi = bZ rs (fun j => decide (j < i)) 0 env ∧ owni = bV rs (fun j => decide (j < i)) 0 own
 keysT : ∀ (i : Nat) (r : Rec), rs[i]? = some r → ∀ x ∈ keys r.upd, x ∈ r.touch
 sub : ∀ (i : Nat) (r : Rec), rs[i]? = some r → ∀ x, x ∈ slots r → x ∈ r.uses
def okB : Nat → List Rec → List Nat → Bool
 | _, [], _ => true
 | i, a :: r, _ :: ms => aDE a i r ms && okB (i + 1) r ms
 | _, _ :: _, [] => false
theorem wU : ∀ {l : List Rec} {ms : List Nat} {k i j : Nat} {a b : Rec}, okB k l ms = true → l[i]? = some a → l[j]? = some b → i < j → ∃ m, ms[j]? = some m ∧ (m.testBit (k + i) = true ∨ o6 a b = true)
 | [], ms, k, i, j, a, b, _, h, _, _ => by simp at h
 | x :: r, [], k, i, j, a, b, h, _, _, _ => by simp [okB] at h
 | x :: r, m :: ms, k, 0, j, a, b, h, hi, hj, hlt => by
  simp only [okB, Bool.and_eq_true] at h
  obtain ⟨j, rfl⟩ : ∃ j', j = j' + 1 := ⟨j - 1, by omega⟩
  simp only [List.getElem?_cons_zero, Option.some.injEq] at hi
  subst hi
  simpa using qW h.1 (by simpa using hj)
 | x :: r, m :: ms, k, i + 1, j, a, b, h, hi, hj, hlt => by
  simp only [okB, Bool.and_eq_true] at h
  obtain ⟨j, rfl⟩ : ∃ j', j = j' + 1 := ⟨j - 1, by omega⟩
  obtain ⟨m', h1, h2⟩ := wU h.2 (by simpa using hi) (by simpa using hj) (by omega)
  exact ⟨m', by simpa using h1, by rw [show k + (i + 1) = k + 1 + i by omega]; exact h2⟩
theorem hY : ∀ (rs : List Rec) (D : Nat → Bool) (_ : ∀ j, D j = false) (k : Nat) (e : Env), bZ rs D k e = e
 | [], _, _, _, _ => rfl
 | y :: ys, D, h, k, e => by simp only [bZ, h k, Bool.false_eq_true, if_false]; exact hY ys D h (k + 1) e
theorem gZ : ∀ (rs : List Rec) (D : Nat → Bool) (_ : ∀ j, D j = false) (k : Nat) (e : Own), bV rs D k e = e
 | [], _, _, _, _ => rfl
 | y :: ys, D, h, k, e => by simp only [bV, h k, Bool.false_eq_true, if_false]; exact gZ ys D h (k + 1) e
section
variable {P : Program} {fr : Fr} {n : Nat} {ops : Array Oper}
theorem tM {env env' : Env} {own own' : Own} {rs : List Rec} (h : RecsOk P fr n ops rs env own env' own') {i : Nat} (hi : i < ops.size) : ∃ r, rs[i]? = some r := ⟨rs[i]'(by rw [h.len]; exact hi), List.getElem?_eq_getElem _⟩
theorem stepX {env env' : Env} {own own' own0 : Own} {rs : List Rec} (h : RecsOk P fr n ops rs env own env' own') (hag : ∀ (i : Nat) (r : Rec), rs[i]? = some r → ∀ x ∈ r.touch, own0 x = own x) (henv : ∀ u q sv, env u = some (q, sv) → q = [])
  {D : Nat → Bool} {i : Nat} {r : Rec} (hr : rs[i]? = some r) (hDi : D i = false)
  (hlow : ∀ j b, j < i → rs[j]? = some b → (b.dst.any (fun t => r.uses.contains t) || (keys b.upd).any (fun x => r.touch.contains x)) = true → D j = true)
  (hhigh : ∀ j b, i < j → rs[j]? = some b → (b.dst.any (fun t => r.uses.contains t || r.dst == some t) || (keys b.upd).any (fun x => r.touch.contains x || (keys r.upd).contains x) || r.dst.any (fun t => (slots b).contains t)) = true → D j = false)
  (hpath : ∀ j b, j < i → rs[j]? = some b → r.dst.any (fun t => (slots b).contains t) = false)
  {a : Act} {w : World} {pl : Pl} (hok : Ok fr n (bZ rs D 0 env) (bV rs D 0 own0) a w pl) {K : Act → World → Prop}
  (hK : ∀ a' w' pl', Ok fr n (bZ rs (cA D i) 0 env) (bV rs (cA D i) 0 own0) a' w' pl' → K a' w') : d9 P ops i K a w := by
 obtain ⟨h1, h2, h3, h4, _⟩ := h
 obtain ⟨envi, owni, hrec, he, hw⟩ := h4 i r hr
 have hDu : ∀ u ∈ r.uses, ∀ j b, rs[j]? = some b → b.dst = some u → D (0 + j) = decide (0 + j < i) := by
  intro u hu j b hj hb
  rw [Nat.zero_add]
  rcases Nat.lt_trichotomy j i with hlt | rfl | hgt
  ·rw [decide_eq_true hlt]
   exact hlow j b hlt hj (by simp [hb, hu])
  ·rw [hDi, decide_eq_false (by omega)]
  ·rw [decide_eq_false (by omega)]
   exact hhigh j b hgt hj (by simp [hb, hu])
 refine hrec _ _ a w pl hok (fun u hu => ?_) (fun x hx => ?_) (fun t ht u q sv hq hne x hx hxt => ?_) K (fun a' w' pl' hok' => hK a' w' pl' ?_)
 ·rw [he]
  exact cQ rs _ _ 0 _ _ u rfl (hDu u hu)
 ·rw [hw]
  refine cP rs _ _ 0 _ _ x (hag i r hr x hx) (fun j b hj hb => ?_)
  rw [Nat.zero_add]
  rcases Nat.lt_trichotomy j i with hlt | rfl | hgt
  ·rw [decide_eq_true hlt]
   exact hlow j b hlt hj (by simp only [Bool.or_eq_true, List.any_eq_true]; exact .inr ⟨x, hb, by simpa using hx⟩)
  ·rw [hDi, decide_eq_false (by omega)]
  ·rw [decide_eq_false (by omega)]
   exact hhigh j b hgt hj (by simp only [Bool.or_eq_true, List.any_eq_true]; exact .inl (.inr ⟨x, hb, .inl (by simpa using hx)⟩))
 ·rcases nZ rs D 0 _ u q sv hq with h5 | ⟨j, b, h5, h6, h7, rfl⟩
  ·rw [henv u q sv h5] at hx; cases hx
  ·rw [Nat.zero_add] at h6
   have hsl : (slots b).contains t = true := by
    simp only [slots, List.contains_iff_mem, List.mem_map]
    exact ⟨x, hx, hxt⟩
   rcases Nat.lt_trichotomy j i with hlt | rfl | hgt
   ·have := hpath j b hlt h5
    rw [ht] at this
    simp only [Option.any_some, hsl] at this
    cases this
   ·rw [hDi] at h6; cases h6
   ·have := hhigh j b hgt h5 (by rw [ht]; simp only [Option.any_some, hsl, Bool.or_true])
    rw [this] at h6; cases h6
 ·
  have e1 : dW (bZ rs D 0 env) r = bZ rs (cA D i) 0 env := by
   funext u
   by_cases hu : r.dst = some u
   ·rw [nY rs (cA D i) 0 _ u i r hr hu (by simp [cA]) (fun j b hj hb hbu => by
     rw [Nat.zero_add]
     simp only [cA, if_neg (show j ≠ i by omega)]
     exact hhigh j b hj hb (by simp [hbu, hu]))]
    simp only [dW, hu]
    exact upd_same _ _ _
   ·have hp : dW (bZ rs D 0 env) r u = bZ rs D 0 env u := by
     unfold dW
     cases hd' : r.dst with
     | none => rfl
     | some t => exact upd_ne _ _ (fun e => hu (by rw [hd', e]))
    rw [hp]
    refine cQ rs _ _ 0 _ _ u rfl (fun j b hj hb => ?_)
    rw [Nat.zero_add]
    have : j ≠ i := fun e => by subst e; rw [hr] at hj; injection hj with hj; rw [hj] at hu; exact hu hb
    simp [cA, this]
  have e2 : bE (bV rs D 0 own0) r.upd = bV rs (cA D i) 0 own0 := by
   funext x
   by_cases hu : x ∈ keys r.upd
   ·exact (nJ rs (cA D i) 0 _ _ x i r hr hu (by simp [cA]) (fun j b hj hb hbu => by
     rw [Nat.zero_add]
     simp only [cA, if_neg (show j ≠ i by omega)]
     exact hhigh j b hj hb (by simp only [Bool.or_eq_true, List.any_eq_true]; exact .inl (.inr ⟨x, hbu, .inr (by simpa using hu)⟩)))).symm
   ·rw [fA _ _ x hu]
    refine cP rs _ _ 0 _ _ x rfl (fun j b hj hb => ?_)
    rw [Nat.zero_add]
    have : j ≠ i := fun e => by subst e; rw [hr] at hj; injection hj with hj; rw [hj] at hu; exact hu hb
    simp [cA, this]
  rw [← e1, ← e2]
  exact hok'
theorem textX {K : Act → World → Prop} {env env' : Env} {own own' own0 : Own} {rs : List Rec} (h : RecsOk P fr n ops rs env own env' own') (hag : ∀ (i : Nat) (r : Rec), rs[i]? = some r → ∀ x ∈ r.touch, own0 x = own x) (henv : ∀ u q sv, env u = some (q, sv) → q = []) (hT : okT rs = true)
  (hQ : ∀ a w pl, Ok fr n (env') ((bV rs (fun _ => true) 0 own0)) a w pl → K a w) : ∀ (m i : Nat), i + m = ops.size → ∀ a w pl, Ok fr n (bZ rs (fun j => decide (j < i)) 0 env) (bV rs (fun j => decide (j < i)) 0 own0) a w pl → dI P ops K (List.range' i m) a w := by
 intro m
 obtain ⟨h1, h2, h3, h4, _⟩ := id h
 induction m with
 | zero =>
  intro i hi a w pl hok
  simp only [List.range'_zero, dI]
  refine hQ a w pl ?_
  have hlt : ∀ j r, rs[j]? = some r → (0 + j) < i := by
   intro j r hj
   have := (List.getElem?_eq_some_iff.1 hj).1
   omega
  have e1 : bZ rs (fun j => decide (j < i)) 0 env = env' := by
   rw [h2]
   funext u
   exact cQ rs _ _ 0 _ _ u rfl (fun j r hj _ => decide_eq_true (hlt j r hj))
  have e2 : bV rs (fun j => decide (j < i)) 0 own0 = (bV rs (fun _ => true) 0 own0) := by
   funext u
   exact cP rs _ _ 0 _ _ u rfl (fun j r hj _ => decide_eq_true (hlt j r hj))
  rw [← e1, ← e2]
  exact hok
 | succ m ih =>
  intro i hi a w pl hok
  rw [List.range'_succ, dI]
  obtain ⟨r, hr⟩ := tM h (i := i) (by omega)
  refine stepX h hag henv hr (D := fun j => decide (j < i)) (by simp) (fun j b hj _ _ => by simpa using hj) (fun j b hj _ _ => by simp; omega) (fun j b hj hb => ?_) hok (fun a' w' pl' hok' => ?_)
  have := lY hT hb hr hj
  unfold kT at this
  cases hd : r.dst with
  | none => rfl
  | some t =>
   rw [hd] at this
   simp only [Option.any_some]
   simpa using this
  have e : cA (fun j => decide (j < i)) i = fun j => decide (j < i + 1) := by
   funext j
   by_cases hj : j = i
   subst hj; simp [cA]
   simp only [cA, if_neg hj]
   congr 1
   simp only [eq_iff_iff]
   omega
  rw [e] at hok'
  exact ih (i + 1) (by omega) a' w' pl' hok'
theorem anyX {K : Act → World → Prop} {env env' : Env} {own own' own0 : Own} {rs : List Rec} (h : RecsOk P fr n ops rs env own env' own') (hag : ∀ (i : Nat) (r : Rec), rs[i]? = some r → ∀ x ∈ r.touch, own0 x = own x) (henv : ∀ u q sv, env u = some (q, sv) → q = []) (hT : okT rs = true) (hA : okB 0 rs (bef ops) = true) (hE : eU 0 ops.toList = true)
  (hQ : ∀ a w pl, Ok fr n (env') ((bV rs (fun _ => true) 0 own0)) a w pl → K a w) : ∀ (fuel : Nat) (listed : Array Bool), listed.size = ops.size → (List.range ops.size).countP (fun i => !listed.getD i false) ≤ fuel →
   (∀ i o, ops[i]? = some o → listed.getD i false = true → ∀ e ∈ o.after, Region.binds .any e = true → listed.getD e.on false = true) →
   ∀ a w pl, Ok fr n (bZ rs (fun j => listed.getD j false) 0 env) (bV rs (fun j => listed.getD j false) 0 own0) a w pl → p5 P .any ops K fuel listed a w := by
 obtain ⟨h1, h2, h3, h4, hkt, hsl⟩ := id h
 have hlen : rs.length = ops.size := h1
 have fin : ∀ (listed : Array Bool), (∀ i, i < ops.size → listed.getD i false = true) → ∀ a w pl, Ok fr n (bZ rs (fun j => listed.getD j false) 0 env) (bV rs (fun j => listed.getD j false) 0 own0) a w pl → K a w := by
  intro listed hall a w pl hok
  refine hQ a w pl ?_
  have hlt : ∀ j r, rs[j]? = some r → listed.getD (0 + j) false = true := by
   intro j r hj
   have := (List.getElem?_eq_some_iff.1 hj).1
   rw [Nat.zero_add]
   exact hall j (by omega)
  have e1 : bZ rs (fun j => listed.getD j false) 0 env = env' := by
   rw [h2]
   funext u
   exact cQ rs _ _ 0 _ _ u rfl (fun j r hj _ => hlt j r hj)
  have e2 : bV rs (fun j => listed.getD j false) 0 own0 = (bV rs (fun _ => true) 0 own0) := by
   funext u
   exact cP rs _ _ 0 _ _ u rfl (fun j r hj _ => hlt j r hj)
  rw [← e1, ← e2]
  exact hok
 have rdy : ∀ (listed : Array Bool), listed.size = ops.size → Region.ready .any ops listed = [] → ∀ i, i < ops.size → listed.getD i false = true := by
  intro listed hsz hr i
  induction i using Nat.strongRecOn with
  | _ i ih =>
   intro hi
   cases hb : listed.getD i false with
   | true => rfl
   | false =>
    exfalso
    have hmem : i ∈ Region.ready .any ops listed := by
     rw [mem_ready]
     refine ⟨?_, ops[i], Array.getElem?_eq_getElem hi, fun e he hbd => ?_⟩
     have : i < listed.size := by omega
     simp only [Array.getD, this, dif_pos] at hb ⊢
     exact hb
     have := jJ hE (i := i) (o := ops[i]) (by simp [hi]) e he hbd
     exact ih e.on (by omega) (by omega)
    rw [hr] at hmem
    cases hmem
 intro fuel
 induction fuel with
 | zero =>
  intro listed hsz hcnt hcl a w pl hok
  have hall : ∀ i, i < ops.size → listed.getD i false = true := by
   intro i hi
   have h0 : (List.range ops.size).countP (fun i => !listed.getD i false) = 0 := by omega
   rw [List.countP_eq_zero] at h0
   have := h0 i (List.mem_range.2 hi)
   simpa using this
  refine ⟨?_, fin listed hall a w pl hok⟩
  rw [List.eq_nil_iff_forall_not_mem]
  intro i hi
  obtain ⟨h5, o, ho, _⟩ := mem_ready.1 hi
  have hlt := (Array.getElem?_eq_some_iff.1 ho).1
  have h6 := hall i hlt
  have : i < listed.size := by omega
  simp only [Array.getD, this, dif_pos] at h5 h6
  rw [h5] at h6
  cases h6
 | succ fuel ih =>
  intro listed hsz hcnt hcl a w pl hok
  refine ⟨fun hr => fin listed (rdy listed hsz hr) a w pl hok, fun i hi => ?_⟩
  obtain ⟨h5, o, ho, hedge⟩ := mem_ready.1 hi
  have hlt := (Array.getElem?_eq_some_iff.1 ho).1
  have hltl : i < listed.size := by omega
  have hDi : listed.getD i false = false := by
   simp only [Array.getD, hltl, dif_pos] at h5 ⊢
   exact h5
  obtain ⟨r, hr⟩ := tM h hlt
  have hmarked : (fun j => (listed.setIfInBounds i true).getD j false) = cA (fun j => listed.getD j false) i := by
   funext j
   by_cases hj : j = i
   subst hj; simp [cA, hltl]
   simp only [cA, if_neg hj]; exact getD_set_ne false (Ne.symm hj)
  have hbef : ∀ b, (bef ops)[i]? = some b → ∀ j, b.testBit j = true → listed.getD j false = true :=
   fun b hb => iR (D := fun j => listed.getD j false) hcl i o b ho hb hedge
  have haft : ∀ j m, (bef ops)[j]? = some m → m.testBit i = true → listed.getD j false = false := by
   intro j m hm hbit
   cases hb : listed.getD j false with
   | false => rfl
   | true =>
    exfalso
    have hjl : j < ops.size := by
     rcases Nat.lt_or_ge j listed.size with h' | h'
     omega
     simp [Array.getD, Nat.not_lt.2 h'] at hb
    have := iR (D := fun j => listed.getD j false) hcl j ops[j] m (Array.getElem?_eq_getElem hjl) hm (hcl j _ (Array.getElem?_eq_getElem hjl) hb) i hbit
    rw [hDi] at this
    cases this
  refine stepX h hag henv hr (D := fun j => listed.getD j false) hDi (fun j b hj hb hd => ?_) (fun j b hj hb hd => ?_) (fun j b hj hb => ?_) hok (fun a' w' pl' hok' => ?_)
  obtain ⟨m, hm, hor⟩ := wU hA hb hr hj
  rw [Nat.zero_add] at hor
  rcases hor with hbit | hind
  exact hbef m hm j hbit
  exfalso
  simp only [o6, Bool.and_eq_true] at hind
  obtain ⟨⟨⟨hi1, hi2⟩, hi3⟩, hi4⟩ := hind
  simp only [Bool.or_eq_true] at hd
  rcases hd with hd | hd
  cases hbd : b.dst with
  | none => rw [hbd] at hd; cases hd
  | some t =>
   rw [hbd] at hd hi1
   simp only [Option.any_some] at hd
   simp at hi1
   exact hi1.1 (by simpa using hd)
  obtain ⟨x, hx, hxt⟩ := List.any_eq_true.1 hd
  have := List.all_eq_true.1 hi3 x hx
  rw [hxt] at this
  cases this
  obtain ⟨m, hm, hor⟩ := wU hA hr hb hj
  rw [Nat.zero_add] at hor
  rcases hor with hbit | hind
  exact haft j m hm hbit
  exfalso
  simp only [o6, Bool.and_eq_true] at hind
  obtain ⟨⟨⟨hi1, hi2⟩, hi3⟩, hi4⟩ := hind
  simp only [Bool.or_eq_true] at hd
  rcases hd with (hd | hd) | hd
  cases hbd : b.dst with
  | none => rw [hbd] at hd; cases hd
  | some t =>
   rw [hbd] at hd hi2
   simp only [Option.any_some, Bool.or_eq_true] at hd
   rcases hd with hd | hd
   simp only [hd] at hi2; cases hi2
   simp only [beq_iff_eq] at hd
   rw [hd, hbd] at hi1
   simp at hi1
  obtain ⟨x, hx, hxt⟩ := List.any_eq_true.1 hd
  have h7 := List.all_eq_true.1 hi4 x hx
  simp only [Bool.or_eq_true] at hxt
  rcases hxt with hxt | hxt
  rw [hxt] at h7; cases h7
  have h8 : x ∈ keys r.upd := by simpa using hxt
  have h9 := hkt i r hr x h8
  have : r.touch.contains x = true := by simpa using h9
  rw [this] at h7
  cases h7
  cases hrd : r.dst with
  | none => rw [hrd] at hd; cases hd
  | some t =>
   rw [hrd] at hd hi1
   simp only [Option.any_some] at hd
   simp only [Bool.and_eq_true] at hi1
   have hsub : ∀ x, x ∈ slots b → x ∈ b.uses := hsl j b hb
   have := hsub t (by simpa using hd)
   have h7 : b.uses.contains t = true := by simpa using this
   rw [h7] at hi1
   cases hi1.1
  have := lY hT hb hr hj
  unfold kT at this
  cases hd : r.dst with
  | none => rfl
  | some t =>
   rw [hd] at this
   simp only [Option.any_some]
   simpa using this
  refine ih _ (by simp [hsz]) ?_ ?_ a' w' pl' ?_
  have hsplit : (List.range ops.size).countP (fun j => !(listed.setIfInBounds i true).getD j false) + 1 = (List.range ops.size).countP (fun j => !listed.getD j false) := by
   have hm : ∀ (l : List Nat), l.Nodup → i ∈ l → l.countP (fun j => !(listed.setIfInBounds i true).getD j false) + 1 = l.countP (fun j => !listed.getD j false) := by
    intro l
    induction l with
    | nil => intro _ h; cases h
    | cons x r ihl =>
     intro hn hi
     rw [List.nodup_cons] at hn
     by_cases hx : x = i
     subst hx
     have hsame : r.countP (fun j => !(listed.setIfInBounds x true).getD j false) = r.countP (fun j => !listed.getD j false) := by
      refine List.countP_congr (fun j hj => ?_)
      have : x ≠ j := fun e => hn.1 (by rw [e]; exact hj)
      rw [getD_set_ne false this]
     have hs : (listed.setIfInBounds x true).getD x false = true := by simp [hltl]
     rw [List.countP_cons_of_neg (by simp [hs]), List.countP_cons_of_pos (by simp [hDi]), hsame]
     have hir : i ∈ r := (List.mem_cons.1 hi).resolve_left (fun e => hx e.symm)
     have := ihl hn.2 hir
     rw [List.countP_cons, List.countP_cons, getD_set_ne false (fun e => hx e.symm)]
     omega
   exact hm _ List.nodup_range (List.mem_range.2 hlt)
  omega
  intro j o' hj hdone e he hbd
  by_cases hji : j = i
  subst hji
  rw [ho] at hj
  injection hj with hj
  subst hj
  exact getD_set_true (hedge e he hbd)
  rw [getD_set_ne false (Ne.symm hji)] at hdone
  exact getD_set_true (hcl j o' hj hdone e he hbd)
  rw [hmarked]; exact hok'
theorem z6 {env env' : Env} {own own' own0 : Own} {rs : List Rec} (h : RecsOk P fr n ops rs env own env' own') (hag : ∀ (i : Nat) (r : Rec), rs[i]? = some r → ∀ x ∈ r.touch, own0 x = own x) (henv : ∀ u q sv, env u = some (q, sv) → q = [])
  (hT : okT rs = true) {K : Act → World → Prop} {a : Act} {w : World} {pl : Pl} (hok : Ok fr n env own0 a w pl)
  (hQ : ∀ a w pl, Ok fr n env' (bV rs (fun _ => true) 0 own0) a w pl → K a w) : dI P ops K (List.range ops.size) a w := by
 have h0 : ∀ e : Env, bZ rs (fun j => decide (j < 0)) 0 e = e := fun e => hY rs _ (fun j => by simp) 0 e
 have h0' : ∀ e : Own, bV rs (fun j => decide (j < 0)) 0 e = e := fun e => gZ rs _ (fun j => by simp) 0 e
 rw [List.range_eq_range']
 exact textX h hag henv hT hQ ops.size 0 (by omega) a w pl (by rw [h0, h0']; exact hok)
theorem aKK {R : Wp P} {id : Nat} {draw : Bool} (hm : P.follows .mixedOrders = true) {env env' : Env} {own own' own0 : Own} {rs : List Rec} (h : RecsOk P fr n ops rs env own env' own') (hag : ∀ (i : Nat) (r : Rec), rs[i]? = some r → ∀ x ∈ r.touch, own0 x = own x) (henv : ∀ u q sv, env u = some (q, sv) → q = [])
  (hT : okT rs = true) (hA : draw = true → okB 0 rs (bef ops) = true ∧ eU 0 ops.toList = true) (hnd : d3 ops = true) {Q : Exit → Act → World → Prop} {a : Act} {w : World} {pl : Pl} (hok : Ok fr n env own0 a w pl)
  (hQ : ∀ a w pl, Ok fr n env' (bV rs (fun _ => true) 0 own0) a w pl → Q .normal a w) : R.wp (Code.region id ops draw) Q a w := by
 have h0 : ∀ e : Env, bZ rs (fun j => decide (j < 0)) 0 e = e := fun e => hY rs _ (fun j => by simp) 0 e
 have h0' : ∀ e : Own, bV rs (fun j => decide (j < 0)) 0 e = e := fun e => gZ rs _ (fun j => by simp) 0 e
 cases draw with
 | false =>
  refine R.region hnd ?_
  rw [List.range_eq_range']
  exact textX h hag henv hT hQ ops.size 0 (by omega) a w pl (by rw [h0, h0']; exact hok)
 | true =>
  obtain ⟨hA, hE⟩ := hA rfl
  refine R.any hm hnd ?_
  have hz : ∀ j, (Array.replicate ops.size false).getD j false = false := by
   intro j
   simp only [Array.getD_eq_getD_getElem?, Array.getElem?_replicate]
   split <;> rfl
  have hg : w.grownBy { w with drawn := w.drawn + 1 } none := ⟨rfl, rfl, rfl, Nat.le_refl _, fun _ _ _ => rfl⟩
  obtain ⟨m', L⟩ := hok.mem.ext hg
  refine anyX h hag henv hT hA hE hQ ops.size _ (by simp) ?_ (fun i o _ hd => by rw [hz] at hd; cases hd) a _ pl ?_
  exact Nat.le_trans List.countP_le_length (by simp)
  rw [hY rs _ hz 0, gZ rs _ hz 0]
  exact hok.later m' L
end
end Go.V
namespace Go.V
open Go.RowKit
inductive Tr (α : Type) where
 | e
 | n (v : Option α) (l r : Tr α)
def Tr.get {α : Type} : Tr α → Nat → Option α
 | .e, _ => none
 | .n v l r, i => bif Nat.beq i 0 then v else bif Nat.beq (i % 2) 1 then l.get (i / 2) else r.get (i / 2 - 1)
def Tr.put {α : Type} (x : Option α) : Nat → Tr α → Nat → Tr α
 | 0, t, _ => t
 | f + 1, .e, i => bif Nat.beq i 0 then .n x .e .e else bif Nat.beq (i % 2) 1 then .n none (Tr.put x f .e (i / 2)) .e else .n none .e (Tr.put x f .e (i / 2 - 1))
 | f + 1, .n v l r, i => bif Nat.beq i 0 then .n x l r else bif Nat.beq (i % 2) 1 then .n v (Tr.put x f l (i / 2)) r else .n v l (Tr.put x f r (i / 2 - 1))
theorem jO {i j : Nat} : (Nat.beq i j = true) = (i = j) := by simp [Nat.beq_eq]
theorem d2 {α : Type} {i j : Nat} {x y : α} : (bif Nat.beq i j then x else y) = if i = j then x else y := by
 by_cases h : i = j
 subst h; simp [Nat.beq_refl]
 have : Nat.beq i j = false := by
  cases hb : Nat.beq i j with
  | false => rfl
  | true => exact absurd (Nat.eq_of_beq_eq_true hb) h
 rw [this, if_neg h]; rfl
theorem Tr.get_put {α : Type} (x : Option α) : ∀ (f : Nat) (t : Tr α) (i j : Nat), i + 1 < 2 ^ f → (Tr.put x f t i).get j = if j = i then x else t.get j
 | 0, t, i, j, h => by simp at h
 | f + 1, t, i, j, h => by
  have h2 : 2 ^ (f + 1) = 2 * 2 ^ f := by rw [Nat.pow_succ]; omega
  cases t with
  | e =>
   simp only [Tr.put, d2]
   split
   rename_i hi
   subst hi
   simp only [Tr.get, d2]
   split
   rename_i hj; simp [hj]
   rename_i hj; simp [hj, Tr.get]
   rename_i hi
   split
   rename_i ho
   simp only [Tr.get, d2]
   by_cases hj : j = 0
   simp only [hj, if_true]; rw [if_neg (by omega)]
   rw [if_neg hj]
   by_cases hjo : j % 2 = 1
   rw [if_pos hjo, Tr.get_put x f .e (i / 2) (j / 2) (by omega)]
   by_cases hji : j = i
   simp [hji]
   rw [if_neg (show ¬ j / 2 = i / 2 by omega), if_neg hji]; simp [Tr.get]
   rw [if_neg hjo, if_neg (by omega)]
   rename_i ho
   simp only [Tr.get, d2]
   by_cases hj : j = 0
   simp only [hj, if_true]; rw [if_neg (by omega)]
   rw [if_neg hj]
   by_cases hjo : j % 2 = 1
   rw [if_pos hjo, if_neg (by omega)]
   rw [if_neg hjo, Tr.get_put x f .e (i / 2 - 1) (j / 2 - 1) (by omega)]
   by_cases hji : j = i
   simp [hji]
   rw [if_neg (show ¬ j / 2 - 1 = i / 2 - 1 by omega), if_neg hji]; simp [Tr.get]
  | n v l r =>
   simp only [Tr.put, d2]
   split
   rename_i hi
   subst hi
   simp only [Tr.get, d2]
   split
   rename_i hj; simp [hj]
   rename_i hj; simp [hj]
   rename_i hi
   split
   rename_i ho
   simp only [Tr.get, d2]
   by_cases hj : j = 0
   simp only [hj, if_true]; rw [if_neg (by omega)]
   rw [if_neg hj, if_neg hj]
   by_cases hjo : j % 2 = 1
   rw [if_pos hjo, if_pos hjo, Tr.get_put x f l (i / 2) (j / 2) (by omega)]
   by_cases hji : j = i
   simp [hji]
   rw [if_neg (show ¬ j / 2 = i / 2 by omega), if_neg hji]
   rw [if_neg hjo, if_neg hjo, if_neg (by omega)]
   rename_i ho
   simp only [Tr.get, d2]
   by_cases hj : j = 0
   simp only [hj, if_true]; rw [if_neg (by omega)]
   rw [if_neg hj, if_neg hj]
   by_cases hjo : j % 2 = 1
   rw [if_pos hjo, if_pos hjo, if_neg (by omega)]
   rw [if_neg hjo, if_neg hjo, Tr.get_put x f r (i / 2 - 1) (j / 2 - 1) (by omega)]
   by_cases hji : j = i
   simp [hji]
   rw [if_neg (show ¬ j / 2 - 1 = i / 2 - 1 by omega), if_neg hji]
def few (i : Nat) : Bool := Nat.ble (i + 2) 1099511627776
theorem Tr.get_put40 {α : Type} {x : Option α} {t : Tr α} {i : Nat} (h : few i = true) (j : Nat) : (Tr.put x 40 t i).get j = if j = i then x else t.get j :=
 Tr.get_put x 40 t i j (by
  have := Nat.le_of_ble_eq_true h
  have e : (2 : Nat) ^ 40 = 1099511627776 := by decide
  omega)
def nC : Tr Ob → List (Nat × Ob) → Option (Tr Ob)
 | t, [] => some t
 | t, (i, o) :: r => if few i then nC (Tr.put (some o) 40 t i) r else none
theorem eA : ∀ {l : List (Nat × Ob)} {t t' : Tr Ob}, nC t l = some t' → t'.get = bE t.get l
 | [], t, t', h => by simp only [nC, Option.some.injEq] at h; subst h; rfl
 | (i, o) :: r, t, t', h => by
  simp only [nC] at h
  split at h
  rename_i hf
  rw [eA h]
  simp only [bE]
  congr 1
  funext j
  rw [Tr.get_put40 hf]
  rfl
  cases h
theorem f0 : ∀ (l : List (Nat × Ob)) {own own' : Own} {i : Nat}, own i = own' i → bE own l i = bE own' l i
 | [], _, _, _, h => h
 | (j, o) :: r, own, own', i, h => f0 r (by by_cases hi : i = j <;> simp [upd, hi, h])
theorem eH : ∀ (l m : List (Nat × Ob)) (own : Own), bE own (l ++ m) = bE (bE own l) m
 | [], _, _ => rfl
 | (j, o) :: r, m, own => eH r m _
def bU (loc : cC) (tr : Tr SV) : Env := fun t => match aE loc t with
 | some x => some x
 | none => (tr.get t).map fun s => ([], s)
def rQ : cC → Tr SV → Tr SV
 | [], tr => tr
 | (t, p, sv) :: r, tr => Tr.put (bif p.isEmpty then some sv else none) 40 (rQ r tr) t
theorem k6 : ∀ {loc : cC} {tr : Tr SV}, (loc.all fun e => few e.1) = true → ∀ {u : Nat} {q : Path} {sv : SV}, bU [] (rQ loc tr) u = some (q, sv) → q = [] ∧ bU loc tr u = some (q, sv)
 | [], tr, _, u, q, sv, h => by
  refine ⟨?_, h⟩
  simp only [bU, aE, rQ, Option.map_eq_some_iff, Prod.mk.injEq] at h
  obtain ⟨_, _, h, _⟩ := h
  exact h.symm
 | (t, p, s) :: r, tr, hf, u, q, sv, h => by
  simp only [List.all_cons, Bool.and_eq_true] at hf
  simp only [bU, aE, rQ] at h ⊢
  rw [Tr.get_put40 hf.1] at h
  by_cases hu : t = u
  subst hu
  simp only [if_true, beq_self_eq_true] at h ⊢
  cases p with
  | nil =>
   simp only [List.isEmpty_nil, cond_true, Option.map_some, Option.some.injEq, Prod.mk.injEq] at h
   obtain ⟨rfl, rfl⟩ := h
   exact ⟨rfl, rfl⟩
  | cons x y => simp at h
  have hne : (t == u) = false := by simpa using hu
  rw [if_neg (Ne.symm hu)] at h
  rw [hne]
  simp only [Bool.false_eq_true, if_false]
  exact k6 (loc := r) hf.2 (by simpa only [bU, aE] using h)
structure Ent (P : Program) (G : List (Nat × List Value)) where
 f : FuncId
 ask : Nat → List SV → List (Nat × Ob) → Option (SV × List (Nat × Ob) × List Prop)
 ok : ∀ {k : Nat} {ins : List SV} {refs post : List (Nat × Ob)} {out : SV} {cs : List Prop}, ask k ins refs = some (out, post, cs) → conj cs → Spec P G f ins refs out post
def aA7 {P : Program} {G : List (Nat × List Value)} : List (Ent P G) → FuncId → Option (Ent P G)
 | [], _ => none
 | e :: r, f => bif Nat.beq e.f f then some e else aA7 r f
theorem aFV {P : Program} {G : List (Nat × List Value)} : ∀ {T : List (Ent P G)} {f : FuncId} {e : Ent P G}, aA7 T f = some e → e.f = f
 | [], f, e, h => by simp [aA7] at h
 | x :: r, f, e, h => by
  simp only [aA7, d2] at h
  split at h
  rename_i hx; simp only [Option.some.injEq] at h; rw [← h]; exact hx
  exact aFV h
def idsC : C → List Nat
 | .bx i _ => [i]
 | .fn _ l m => (l ++ m).map (·.1)
 | .mp i => [i]
 | .yl i => [i]
 | _ => []
def idsCA : C → List Nat
 | .ar i _ => [i]
 | c => idsC c
def aL9 : SV → List Nat
 | .c x => idsC x
 | .agg xs => xs.flatMap idsC
 | .tup xs => xs.flatMap fun p => p.2.flatMap idsC
def idsO : Option Ob → List Nat
 | some (.box _ cells) => cells.flatMap idsCA
 | some (.arr _ e _ _) => e.ov.flatMap fun x => idsCA x.2
 | none => []
def gC (ob : Own) : Nat → List Nat → List Nat → List Nat
 | 0, _, acc => acc
 | _ + 1, [], acc => acc
 | f + 1, i :: r, acc => if acc.contains i then gC ob f r acc else gC ob f (idsO (ob i) ++ r) (acc ++ [i])
structure OpR where
 sv : SV
 upd : List (Nat × Ob)
 touch : List Nat
 own : Tr Ob
 k : Nat
 cs : List Prop
def OpR.eff (r : OpR) : Eff := ⟨r.sv, r.upd, r.touch, []⟩
def s8 (own : Tr Ob) (k : Nat) (cs : List Prop) (e : Eff) : Option OpR := match nC own e.upd with
 | some own' => some ⟨e.sv, e.upd, keys e.upd ++ e.touch, own', k, cs⟩
 | none => none
def aNF {P : Program} {G : List (Nat × List Value)} (e : Ent P G) (k : Nat) (svs : List SV) (own : Tr Ob) : Option OpR :=
 match sK own.get (gC own.get 1000 (svs.flatMap aL9) []) svs, o7 own.get (gC own.get 1000 (svs.flatMap aL9) []) 0 (gC own.get 1000 (svs.flatMap aL9) []) with
 | some (ins, _), some refs => match e.ask k ins refs with
  | some (out, post, cs) => match lG (Spec P G e.f) own.get (some svs) k out (gC own.get 1000 (svs.flatMap aL9) []) post with
   | some ef => if ef.obs.all (fun o => o.k || o.b) then s8 own (k + 1 + post.length) cs ef else none
   | none => none
  | none => none
 | _, _ => none
def aN5 (P : Program) (G : List (Nat × List Value)) (lk : Lk) (p : Path) (o : Oper) (own : Tr Ob) (r : OpR) : Prop :=
 r.own.get = bE own.get r.upd ∧ (∀ x ∈ keys r.upd, x ∈ r.touch) ∧
 ∀ (fr : Fr) (own0 : Own) (a : Act) (w : World) (pl : Pl), fr.G = G → conj r.cs → (∀ i ∈ r.touch, own0 i = own.get i) → Mem fr own0 w pl → bH a w pl own0 p lk → Eng.Holds a p → gS P fr own0 a w pl o r.eff
section
variable {P : Program} {G : List (Nat × List Value)} {lk : Lk} {p : Path} {o : Oper}
theorem r3 {fr : Fr} {own : Own} {a : Act} {w : World} {pl : Pl} {e e' : Eff} (h1 : e'.sv = e.sv) (h2 : e'.upd = e.upd) (h : gS P fr own a w pl o e) : gS P fr own a w pl o e' := by
 unfold gS at h ⊢
 rw [h1, h2]
 exact h
theorem gR {own : Tr Ob} {k : Nat} {cs : List Prop} {e : Eff} {r : OpR} (h : s8 own k cs e = some r)
  (hd : ∀ (fr : Fr) (own0 : Own) (a : Act) (w : World) (pl : Pl), fr.G = G → conj cs → (∀ i ∈ e.touch, own0 i = own.get i) → Mem fr own0 w pl → bH a w pl own0 p lk → Eng.Holds a p → gS P fr own0 a w pl o e) : aN5 P G lk p o own r := by
 unfold s8 at h
 split at h
 rename_i own' hs
 simp only [Option.some.injEq] at h
 subst h
 refine ⟨eA hs, fun x hx => by simp [hx], fun fr own0 a w pl hG hc ht m hl hp => ?_⟩
 exact r3 (e := e) rfl rfl (hd fr own0 a w pl hG hc (fun i hi => ht i (by simp [hi])) m hl hp)
 cases h
theorem fJ : ∀ {l : List Prop}, (∀ c ∈ l, c) → conj l
 | [], _ => trivial
 | [c], h => h c (by simp)
 | c :: d :: r, h => ⟨h c (by simp), fJ fun x hx => h x (by simp [hx])⟩
theorem aD8 {S : List SV → List (Nat × Ob) → SV → List (Nat × Ob) → Prop} {ob : Own} {osv : Option (List SV)} {nid : Nat} {out : SV} {rs : List Nat} {post : List (Nat × Ob)} {e : Eff} (h : lG S ob osv nid out rs post = some e) :
  ∃ svs ins ars refs, osv = some svs ∧ sK ob rs svs = some (ins, ars) ∧ o7 ob rs 0 rs = some refs ∧ ∀ x ∈ e.obs, x.p = S ins refs out post ∨ x.k = false := by
 unfold lG at h
 split at h
 rename_i svs
 split at h
 rename_i ins ars refs hargs hrefs
 split at h
 split at h
 simp only [Option.some.injEq] at h
 subst h
 refine ⟨svs, ins, ars, refs, rfl, hargs, hrefs, fun x hx => ?_⟩
 rcases List.mem_cons.1 hx with rfl | hx
 exact .inl rfl
 right
 split at hx
 cases hx
 obtain ⟨y, hy, hx⟩ := List.mem_flatMap.1 hx
 unfold uI at hx
 split at hx
 cases hx
 simp only [List.mem_singleton] at hx
 subst hx; rfl
 cases h
 cases h
 cases h
 cases h
theorem aNE {T : Ent P G} {k : Nat} {svs : List SV} {own : Tr Ob} {r : OpR} (h : aNF T k svs own = some r)
  (hrun : ∀ (own0 : Own) (a : Act) (w : World) (pl : Pl) , bH a w pl own0 p lk → Eng.Holds a p → ∃ vals, All2 (bC w pl own0) svs vals ∧ x9 P G a w o vals (Spec P G T.f)) : aN5 P G lk p o own r := by
 unfold aNF at h
 generalize hrs : gC own.get 1000 (svs.flatMap aL9) [] = rs at h
 split at h
 rename_i ins ars refs hargs hrefs
 split at h
 rename_i out post cs hask
 split at h
 rename_i ef hef
 split at h
 rename_i hall
 refine gR h fun fr own0 a w pl hG hc ht m hl hp => ?_
 subst hG
 obtain ⟨vals, hv, hr⟩ := hrun own0 a w pl hl hp
 obtain ⟨svs', ins', ars', refs', h1, h2, h3, h4⟩ := aD8 hef
 simp only [Option.some.injEq] at h1
 subst h1
 rw [hargs] at h2
 rw [hrefs] at h3
 simp only [Option.some.injEq, Prod.mk.injEq] at h2 h3
 obtain ⟨rfl, rfl⟩ := h2
 subst h3
 refine oB m (vals := vals) (fun s hs => by simp only [Option.some.injEq] at hs; subst hs; exact hv) hr hef ht (fJ fun c hcm => ?_)
 simp only [Eff.obl, pOf, List.mem_map] at hcm
 obtain ⟨x, hx, rfl⟩ := hcm
 rcases h4 x hx with h5 | h5
 rw [h5]; exact T.ok hask hc
 have := List.all_eq_true.1 hall x hx
 rw [h5, Bool.false_or] at this
 exact x.h this
 cases h
 cases h
 cases h
 cases h
end
end Go.V
namespace Go.V
open Go.RowKit
def cX (ov : List (Nat × C)) : Nat → List D → List C
 | _, [] => []
 | p, d :: r => (match ov.lookup p with
  | some c => c
  | none => .d d) :: cX ov (p + 1) r
def eY : List C → List D
 | [] => []
 | .d x :: r => x :: eY r
 | _ :: r => .v undef :: eY r
def fS : Nat → List C → List (Nat × C)
 | _, [] => []
 | p, .d _ :: r => fS (p + 1) r
 | p, c :: r => (p, c) :: fS (p + 1) r
section
variable {P : Program} {fr : Fr} {own : Own} {a : Act} {w w' : World} {pl : Pl} {o : Oper} {p : Path} {lk : Lk}
theorem fU (ov : List (Nat × C)) : ∀ (ds : List D) (p : Nat), (cX ov p ds).length = ds.length
 | [], _ => rfl
 | d :: r, p => by simp [cX, fU ov r]
theorem mX (ov : List (Nat × C)) : ∀ (ds : List D) (p j : Nat), (cX ov p ds)[j]? = (ds[j]?).map fun d => match ov.lookup (p + j) with
  | some c => c
  | none => .d d
 | [], _, j => by simp [cX]
 | d :: r, p, 0 => by simp [cX]
 | d :: r, p, j + 1 => by
  simp only [cX, List.getElem?_cons_succ]
  rw [mX ov r (p + 1) j, show p + 1 + j = p + (j + 1) by omega]
theorem view_ok {ov : List (Nat × C)} {ds : List D} {xs : List Value} (h : AllO w pl own ov ds xs) : All2 (COk w pl own) (cX ov 0 ds) xs := by
 refine ⟨by rw [fU]; exact h.1, fun j c x hc hx => ?_⟩
 rw [mX] at hc
 simp only [Option.map_eq_some_iff, Nat.zero_add] at hc
 obtain ⟨d, hd, rfl⟩ := hc
 have := h.2 j d x hd hx
 cases ho : ov.lookup j with
 | none => rw [ho] at this; exact this
 | some c => rw [ho] at this; exact this
theorem fX : ∀ cs : List C, (eY cs).length = cs.length
 | [] => rfl
 | c :: r => by cases c <;> simp [eY, fX r]
theorem wQ : ∀ (cs : List C) (p j : Nat), j < p → (fS p cs).lookup j = none
 | [], _, _, _ => rfl
 | c :: r, p, j, h => by
  cases c with
  | d x => exact wQ r (p + 1) j (by omega)
  | _ =>
   simp only [fS, List.lookup]
   have : (j == p) = false := by simp; omega
   rw [this]
   exact wQ r (p + 1) j (by omega)
theorem zF : ∀ {cs : List C} {xs : List Value} (p : Nat), All2 (COk w pl own) cs xs → ∀ (j : Nat) (d : D) (x : Value), (eY cs)[j]? = some d → xs[j]? = some x → aBU w pl own d x ((fS p cs).lookup (p + j))
 | [], xs, p, h, j, d, x, hd, hx => by simp [eY] at hd
 | c :: r, xs, p, h, j, d, x, hd, hx => by
  obtain ⟨y, ys, rfl, h1, h2⟩ := h.uncons
  cases j with
  | zero =>
   simp only [List.getElem?_cons_zero, Option.some.injEq] at hx
   subst hx
   cases c with
   | d z =>
    simp only [eY, List.getElem?_cons_zero, Option.some.injEq] at hd
    subst hd
    simp only [fS, Nat.add_zero]
    rw [wQ r (p + 1) p (by omega)]
    exact h1
   | _ => simp only [fS, Nat.add_zero, List.lookup, beq_self_eq_true]; exact h1
  | succ j =>
   have ih := zF (p + 1) h2 j d x (by cases c <;> simpa [eY] using hd) (by simpa using hx)
   rw [show p + 1 + j = p + (j + 1) by omega] at ih
   cases c with
   | d z => exact ih
   | _ =>
    simp only [fS, List.lookup]
    have : (p + (j + 1) == p) = false := by simp
    rw [this]
    exact ih
theorem p0 {cs : List C} {xs : List Value} (h : All2 (COk w pl own) cs xs) : AllO w pl own (fS 0 cs) (eY cs) xs :=
 ⟨by rw [fX]; exact h.1, fun j d x hd hx => by have := zF 0 h j d x hd hx; rwa [Nat.zero_add] at this⟩
theorem jC : ∀ (cs : List C) (p : Nat), p + cs.length ≤ 4611686018427387904 → mkd (fS p cs) = false
 | [], _, _ => rfl
 | c :: r, p, h => by
  simp only [List.length_cons] at h
  have ih := jC r (p + 1) (by omega)
  cases c with
  | d x => exact ih
  | _ =>
   simp only [mkd, fS, List.any_cons, Bool.or_eq_false_iff] at ih ⊢
   exact ⟨by simp; omega, ih⟩
def aF9 (k : Nat) (e : TypeId) (sz n : Nat) (cs : List C) : Ob := .arr k ⟨e, fS 0 cs⟩ sz (chunks sz n (eY cs))
theorem sH {i k : Nat} {e : AT} {sz : Nat} {es : List (List D)} (h : ObOk 0 w pl own i (.arr k e sz es)) : ∃ xs, ownsQ (mkd e.ov) w 0 e.e sz (.slice (pl.sl i).1 es.length (pl.sl i).2) es.length xs ∧ All2 (COk w pl own) (cX e.ov 0 es.flatten) xs ∧ es.flatten.length = es.length * sz := by
 obtain ⟨xs, hx, hr, hs⟩ := h
 exact ⟨xs, hx, view_ok hr, cK hs⟩
def aLQ (P : Program) (lk : Lk) (ob : Own) (t : TypeId) (x : Operand) : Option Eff :=
 match lk [] x with
 | some (.c (.ea i k idx off)) => match ob i with
  | some (.arr k' ⟨e, y :: ov⟩ sz es) => match es[idx]? with
   | some ds => bif Nat.beq k' k && Nat.beq ds.length sz then (match kH P t (cX (y :: ov) (idx * sz) ds) off with
    | some s => some ⟨s, [], [i], []⟩
    | none => none) else none
   | none => none
  | _ => none
 | _ => none
theorem aLP (m : Mem fr own w pl) (hl : bH a w pl own p lk) (hp : Eng.Holds a p) {t : TypeId} {x : Operand} (hop : o.op = .load t x) {ob : Own} {e : Eff} (h : aLQ P lk ob t x = some e) (hob : ∀ i ∈ e.touch, own i = ob i) : Does P fr own a w pl o e := by
 unfold aLQ at h
 split at h
 rename_i i k idx off hx
 split at h
 rename_i k' el y ov sz es hbx
 split at h
 rename_i ds hds
 cases hc : (Nat.beq k' k && Nat.beq ds.length sz) with
 | false => rw [hc] at h; cases h
 | true =>
  rw [hc] at h
  simp only [cond_true] at h
  simp only [Bool.and_eq_true, jO] at hc
  obtain ⟨rfl, hdl⟩ := hc
  split at h
  rename_i s hs
  simp only [Option.some.injEq] at h
  subst h
  have hi : own i = some (.arr k' ⟨el, y :: ov⟩ sz es) := by rw [hob i (by simp), hbx]
  obtain ⟨k2, e2, sz2, es2, hi2, _, hv, _⟩ := hl [] x _ hx holds_nil hp
  rw [hi] at hi2
  injection hi2 with hi2
  injection hi2 with h1 h2 h3 h4
  subst h1; subst h2; subst h3; subst h4
  obtain ⟨hlt, b, hA, hv⟩ := hv rfl
  obtain ⟨xs, hxs, hr, hss⟩ := m.obj i _ hi
  rcases hxs.all.2 with ⟨_, h0⟩ | ⟨g, cap, cur, fz, hvv, hB, hg, hn, hsz, htk⟩
  omega
  injection hvv with hA1 hA2 hA3
  rw [hA] at hA1
  simp only [Option.some.injEq, Addr.mk.injEq, and_true] at hA1
  subst hA1
  have hL : aN6 w pl own (cX (y :: ov) (idx * sz) ds) cur.toList (idx * sz) := by
   intro j c hj
   rw [mX] at hj
   simp only [Option.map_eq_some_iff] at hj
   obtain ⟨d, hd, rfl⟩ := hj
   have hfd := c7 hss hds hd
   have hlt2 : idx * sz + j < xs.length := by rw [← hr.1]; exact (List.getElem?_eq_some_iff.1 hfd).1
   obtain ⟨u, hxj⟩ : ∃ u, xs[idx * sz + j]? = some u := ⟨_, List.getElem?_eq_getElem hlt2⟩
   have hok := hr.2 _ d _ hfd hxj
   refine ⟨u, ?_, ?_⟩
   rw [← htk, List.getElem?_take] at hxj
   split at hxj
   exact hxj
   cases hxj
   cases ho : (y :: ov).lookup (idx * sz + j) with
   | none => rw [show (AT.mk el (y :: ov)).ov = y :: ov from rfl, ho] at hok; exact hok
   | some c => rw [show (AT.mk el (y :: ov)).ov = y :: ov from rfl, ho] at hok; exact hok
  obtain ⟨v, hv2, hok⟩ := fH hs hL
  exact eJ (L := cur.toList) hop m hv (by simpa using hg) hv2 hok
  cases h
 cases h
 cases h
 cases h
def x6 : List C → Bool
 | [] => true
 | .d _ :: r => x6 r
 | _ => false
def aBZ (P : Program) (lk : Lk) (ob : Own) (ty : TypeId) (x v : Operand) : Option Eff :=
 match lk [] x, lk [] v, P.info? ty with
 | some (.c (.ea i k idx off)), some s, some ti => match ob i, lF s with
  | some (.arr k' ⟨e, ov⟩ sz es), some cs =>
   bif ov.isEmpty && (Nat.beq off 0 && (x6 cs && Nat.beq cs.length sz)) then none else
   bif Nat.beq k' k && (Nat.beq cs.length ti.size && (Nat.ble (idx * sz + off + cs.length) (es.length * sz) && (!(mkd ov) && Nat.ble (es.length * sz) 4611686018427387904))) then
    some ⟨.c .any, [(i, aF9 k e sz es.length (aV (cX ov 0 es.flatten) (idx * sz + off) cs))], [i], []⟩ else none
  | _, _ => none
 | _, _, _ => none
theorem aGR (m : Mem fr own w pl) (hl : bH a w pl own p lk) (hp : Eng.Holds a p) {ty : TypeId} {x v : Operand} (hop : o.op = .store ty x v) (hd : o.dst = none) {ob : Own} {e : Eff} (h : aBZ P lk ob ty x v = some e) (hob : ∀ i ∈ e.touch, own i = ob i) : Does P fr own a w pl o e := by
 unfold aBZ at h
 split at h
 ·rename_i i k idx off s ti hx hs hti
  split at h
  ·rename_i k' el ov sz es cs hbx hcs
   cases hc0 : (ov.isEmpty && (Nat.beq off 0 && (x6 cs && Nat.beq cs.length sz))) with
   | true => rw [hc0] at h; cases h
   | false =>
    rw [hc0] at h
    simp only [cond_false] at h
    cases hc : (Nat.beq k' k && (Nat.beq cs.length ti.size && (Nat.ble (idx * sz + off + cs.length) (es.length * sz) && (!(mkd ov) && Nat.ble (es.length * sz) 4611686018427387904)))) with
    | false => rw [hc] at h; cases h
    | true =>
     rw [hc] at h
     simp only [cond_true, Option.some.injEq] at h
     simp only [Bool.and_eq_true, jO, Nat.ble_eq, Bool.not_eq_true'] at hc
     obtain ⟨rfl, hc1, hc2, hmk, hbig⟩ := hc
     subst h
     have hi : own i = some (.arr k' ⟨el, ov⟩ sz es) := by rw [hob i (by simp), hbx]
     obtain ⟨k2, e2, sz2, es2, hi2, _, hv, _⟩ := hl [] x _ hx holds_nil hp
     rw [hi] at hi2
     injection hi2 with hi2
     injection hi2 with h1 h2 h3 h4
     subst h1; subst h2; subst h3; subst h4
     obtain ⟨hlt, b, hA, hv⟩ := hv rfl
     have hcv := iC hcs (hl [] v s hs holds_nil hp)
     obtain ⟨xs, hxs, hview, hfl⟩ := sH (m.obj i _ hi)
     rw [show mkd (AT.mk el ov).ov = false from hmk] at hxs
     have hview : All2 (COk w pl own) (cX ov 0 es.flatten) xs := hview
     have hxl : xs.length = es.length * sz := by rw [← hview.1, fU, hfl]
     have hvl : (a.eval v).cells.toList.length = cs.length := hcv.1.symm
     have hlen1 : (a.eval v).cells.size = ti.size := by simp at hvl; omega
     generalize hcl : (a.eval v).cells.toList = cells at hcv hvl
     generalize hpl : idx * sz + off = q at hc2 hv ⊢
     have hsplC : All2 (COk w pl own) (aV (cX ov 0 es.flatten) q cs) (aV xs q cells) := f6 hview hcv q
     have hslen : (aV (cX ov 0 es.flatten) q cs).length = es.length * sz := by
      unfold aV
      simp only [List.length_append, List.length_take, List.length_drop, fU, hfl]
      omega
     rcases hxs.2 with ⟨_, h0⟩ | ⟨g, cap, cur, hvv, hB, hg, hn, hcap, hsz, htk⟩
     ·omega
     ·injection hvv with hA1 hA2 hA3
      rw [hA] at hA1
      simp only [Option.some.injEq, Addr.mk.injEq, and_true] at hA1
      subst hA1
      have hcl2 : es.length * sz ≤ cur.size := by rw [hsz]; exact Nat.mul_le_mul_right _ hn
      have hsp : (aV cur.toList q cells).take (es.length * sz) = aV xs q cells := by
       have e1 : (cur.toList.take q).length = q := by rw [List.length_take, Array.length_toList]; omega
       have e2 : (cur.toList.take q ++ cells).length = q + cells.length := by rw [List.length_append, e1]
       have e3 : (cur.toList.take q ++ cells).take (es.length * sz) = cur.toList.take q ++ cells := List.take_of_length_le (by rw [e2]; omega)
       have e4 : xs.take q = cur.toList.take q := by rw [← htk, List.take_take, Nat.min_eq_left (by omega)]
       have e5 : xs.drop (q + cells.length) = (cur.toList.drop (q + cells.length)).take (es.length * sz - (q + cells.length)) := by rw [← htk, List.drop_take]
       unfold aV
       rw [List.take_append, e3, e2, e4, e5]
      have hsl : (aV cur.toList q cells).length = cur.size := by
       unfold aV
       simp only [List.length_append, List.length_take, List.length_drop, Array.length_toList]
       omega
      have hrun : (execOp a.eval o).run P w = .ok .skip (w.setRow b (aV cur.toList q cells).toArray) := by
       unfold execOp
       simp only [hop, hv]
       have := run_storeCells_at (P := P) b q el cells 0 cur w hg (by simp; omega) (jQ hcv)
       simp only [Nat.add_zero] at this ⊢
       simp only [Instr.storeAt, Instr.sureAddr, storeVar, sizeOf, typeInfo]
       simp [hti, hlen1, hcl, this, aV]
      have hgr : w.grownBy (w.setRow b (aV cur.toList q cells).toArray) ((pl.sl i).1.map (·.block)) := by
       refine ⟨rfl, rfl, rfl, by simp [World.setRow], fun q hq hne => dZ _ _ _ (fun he => hne ?_)⟩
       rw [hA, he]; rfl
      intro K Q hK
      obtain ⟨hch1, hch2, hch3⟩ := chunks_flatten sz es.length (eY (aV (cX ov 0 es.flatten) q cs)) (by rw [fX]; exact hslen)
      have hmk2 : mkd (fS 0 (aV (cX ov 0 es.flatten) q cs)) = false := jC _ 0 (by rw [hslen]; omega)
      obtain ⟨pl', m', L, hA'⟩ := m.turnArrO (k' := k') (e' := ⟨el, fS 0 (aV (cX ov 0 es.flatten) q cs)⟩) (es' := chunks sz es.length (eY (aV (cX ov 0 es.flatten) q cs))) (A := some ⟨b, 0, none⟩) (cap := cap) (xs := aV xs q cells) hi hgr
       (by
        rw [show mkd (AT.mk el (fS 0 (aV (cX ov 0 es.flatten) q cs))).ov = false from hmk2, hch2]
        exact ⟨by rw [← hsp]; simp only [List.length_take, hsl]; omega, .inr ⟨b, cap, (aV cur.toList q cells).toArray, rfl, hB, setRow_heap w _ cur _ el (0, 0) hg, hn, hcap, by simp [hsl, hsz], hsp⟩⟩)
       (.inl (by rw [hA])) (by rw [hch1]; exact p0 hsplC) hch3 (.inr ⟨rfl, hch2, by rw [← hA3, ← hA]⟩)
      unfold Oper.wp
      rw [hrun, Oper.upon_skip]
      exact hK undef _ pl' m' L (.inl hd)
  ·cases h
 ·cases h
def bslG (P : Program) (lk : Lk) (ob : Own) (T : TypeId) (len : Nat) (parts : Array (Nat × Operand)) (nid : Nat) : Option Eff :=
 match ob nid, i8 lk parts.toList, P.underlying T with
 | none, some ps, some (.slice e) => match P.info? e with
  | some i => match i.zero with
   | some z => bif Nat.ble (len * i.size) 16777216 && (Nat.ble 1 i.size && Nat.beq z.cells.size i.size) then
     (match eE ((Array.range (len * i.size)).map ((if len * i.size = 0 then #[] else z.cells)[· % (if len * i.size = 0 then #[] else z.cells).size]!)).toList with
     | some zc => match mG (fun k => some (k * i.size, i.size)) zc ps with
      | some cs => bif x6 cs then none else bif Nat.beq cs.length (len * i.size) then some ⟨.c (.ar nid 0), [(nid, aF9 0 e i.size len cs)], [nid], []⟩ else none
      | none => none
     | none => none) else none
   | none => none
  | none => none
 | _, _, _ => none
theorem bslG_ok (m : Mem fr own w pl) (hl : bH a w pl own p lk) (hp : Eng.Holds a p) {T : TypeId} {len : Nat} {parts : Array (Nat × Operand)} (hop : o.op = .buildSlice T len parts) {ob : Own} {nid : Nat} {e : Eff} (h : bslG P lk ob T len parts nid = some e) (hob : ∀ i ∈ e.touch, own i = ob i) : Does P fr own a w pl o e := by
 unfold bslG at h
 split at h
 rename_i ps el hnone hps hu
 have hparts := gY hl hp hps
 split at h
 rename_i i hi
 split at h
 rename_i z hz
 cases hc : (Nat.ble (len * i.size) 16777216 && (Nat.ble 1 i.size && Nat.beq z.cells.size i.size)) with
 | false => rw [hc] at h; cases h
 | true =>
  rw [hc] at h
  simp only [cond_true] at h
  simp only [Bool.and_eq_true, jO, Nat.ble_eq] at hc
  obtain ⟨hc1, hc2, hc3⟩ := hc
  split at h
  rename_i zc hzc
  split at h
  rename_i cs hf
  cases hall : x6 cs with
  | true => rw [hall] at h; cases h
  | false =>
   rw [hall] at h
   simp only [cond_false] at h
   cases hcl : Nat.beq cs.length (len * i.size) with
   | false => rw [hcl] at h; cases h
   | true =>
    rw [hcl] at h
    simp only [cond_true, Option.some.injEq] at h
    have hcl := Nat.eq_of_beq_eq_true hcl
    subst h
    obtain ⟨cells', h1, h2⟩ := gK hf (dA hzc) hparts
    obtain ⟨hfl, hln, hsz⟩ := chunks_flatten i.size len (eY cs) (by rw [fX]; exact hcl)
    have hcs : cells'.size = len * i.size := by have := h2.1; simp at this; omega
    have hlen : len ≤ maxLen := by
     have : len ≤ len * i.size := Nat.le_mul_of_pos_right len hc2
     unfold maxLen; omega
    have hg : w.grownBy (w.alloc (.cells cells' el)) none := ⟨rfl, rfl, rfl, by simp, fun k hk _ => Below.heap_alloc _ _ _ hk⟩
    have hr : (execOp a.eval o).run P w = .ok (.value (.slice (some ⟨w.heap.size, 0, none⟩) len len)) (w.alloc (.cells cells' el)) := by
     unfold execOp
     simp only [hop, Instr.buildSlice]
     have hsz2 : ¬ len * i.size > 2 ^ 24 := by omega
     by_cases h0 : len * i.size = 0
     simp only [h0, if_true] at h1 hsz2 ⊢
     simp at h1
     simp [run_underlying hu, sizeOf, typeInfo, hi, h0, h1, newRow, newObj]
     rfl
     simp only [h0, if_false] at h1
     simp [run_underlying hu, sizeOf, typeInfo, hi, h0, h1, newRow, newObj, zeroValue, hz, hsz2]
     rfl
    intro K Q hK
    have hmk : mkd (fS 0 cs) = false := jC _ 0 (by omega)
    obtain ⟨pl', m', L, hA⟩ := m.newArr (i := nid) (e := ⟨el, fS 0 cs⟩) (sz := i.size) (es := chunks i.size len (eY cs)) (xs := cells'.toList) (A := some ⟨w.heap.size, 0, none⟩) (cap := len) (by rw [hob nid (by simp), hnone]) hg
     (by
      rw [show mkd (AT.mk el (fS 0 cs)).ov = false from hmk]
      exact ⟨by rw [hln]; simp [hcs], .inr ⟨w.heap.size, len, cells', by rw [hln], Nat.zero_le _, heap_alloc_new w _, by omega, hlen, hcs, by rw [hln, List.take_of_length_le (by simp [hcs])]⟩⟩)
     (fun ad h => by injection h with h; rw [← h]; exact Nat.le_refl _) (by rw [hfl]; exact p0 h2) hsz
    unfold Oper.wp
    rw [hr, Oper.upon_value]
    exact hK _ _ pl' m' L (.inr ⟨0, _, i.size, _, upd_same _ _ _, Nat.le_refl _, fun _ => by rw [hA, hln], rfl⟩)
  cases h
  cases h
 cases h
 cases h
 cases h
def aKQ (lk : Lk) (ob : Own) (x : Operand) : Option (Nat × Nat × List C × List Nat) :=
 match lk [] x with
 | some (.c (.d (.sl sz es))) => some (sz, es.length, es.flatten.map .d, [])
 | some (.c (.ar i k)) => match ob i with
  | some (.arr k' ⟨_, ov⟩ sz es) => bif Nat.beq k' k && !(mkd ov) then some (sz, es.length, cX ov 0 es.flatten, [i]) else none
  | _ => none
 | _ => none
theorem z8 (m : Mem fr own w pl) (hl : bH a w pl own p lk) (hp : Eng.Holds a p) {ob : Own} {x : Operand} {sz n : Nat} {cs : List C} {t : List Nat} (h : aKQ lk ob x = some (sz, n, cs, t)) (hob : ∀ i ∈ t, own i = ob i) :
  ∃ A c xs, a.eval x = .slice A n c ∧ All2 (COk w pl own) cs xs ∧ cs.length = n * sz ∧ ((n = 0 ∧ c = 0) ∨ ∃ b off, A = some ⟨b, off, none⟩ ∧ ∀ (j : Nat) (u : Value), xs[j]? = some u → w.cell? ⟨b, off + j, none⟩ = some u) := by
 unfold aKQ at h
 split at h
 rename_i sz' es hx
 simp only [Option.some.injEq, Prod.mk.injEq] at h
 obtain ⟨rfl, rfl, rfl, rfl⟩ := h
 obtain ⟨A, c, xs, h1, h2, h3, h4, h5⟩ := qQ (ob := own) m hl hp (show aAA lk own x = some (sz', es, []) by unfold aAA; rw [hx]) (fun i hi => by cases hi)
 refine ⟨A, c, xs, h1, uZ (f := C.d) (S := COk w pl own) (fun x y h => h) h2, by rw [List.length_map]; exact cK h3, h5.imp (fun h => ⟨by rw [h.1]; rfl, h.2⟩) id⟩
 rename_i i k hx
 split at h
 rename_i k' el ov sz' es hi
 cases hc : (Nat.beq k' k && !(mkd ov)) with
 | false => rw [hc] at h; cases h
 | true =>
  rw [hc] at h
  simp only [cond_true, Option.some.injEq, Prod.mk.injEq] at h
  obtain ⟨rfl, rfl, rfl, rfl⟩ := h
  simp only [Bool.and_eq_true, jO, Bool.not_eq_true'] at hc
  obtain ⟨rfl, hmk⟩ := hc
  have hi' : own i = some (.arr k' ⟨el, ov⟩ sz' es) := by rw [hob i (by simp), hi]
  have hv := dG (w := w) (hl [] x _ hx holds_nil hp) hi'
  obtain ⟨xs, hxs, hview, hfl⟩ := sH (m.obj i _ hi')
  rw [show mkd (AT.mk el ov).ov = false from hmk] at hxs
  refine ⟨_, _, xs, hv, hview, by rw [fU]; exact hfl, ?_⟩
  rcases hxs.2 with ⟨h0, h1⟩ | ⟨g, cap, cur, hvv, hB, hg, hn, hcap, hsz, htk⟩
  injection h0 with _ _ h2
  exact .inl ⟨h1, h2⟩
  injection hvv with hA1 hA2 hA3
  refine .inr ⟨g, 0, hA1, fun j u hj => ?_⟩
  rw [cell_of_row w g _ cur el (0, 0) hg]
  rw [← htk, List.getElem?_take] at hj
  split at hj
  simpa using hj
  cases hj
 cases h
 cases h
def appG (P : Program) (lk : Lk) (ob : Own) (T : TypeId) (s x : Operand) (nid : Nat) : Option Eff :=
 match P.underlying T, aKQ lk ob x with
 | some (.slice e), some (szx, nx, news, tx) => match P.info? e with
  | some i => match i.zero with
   | some z => bif Nat.beq z.cells.size i.size && (Nat.ble 1 i.size && Nat.beq szx i.size) then
     (match lk [] s with
     | some (.c (.ar j k)) => match ob j with
      | some (.arr k' ⟨e', ov⟩ sz es) => bif x6 news && ov.isEmpty then none else
       bif Nat.beq k' k && (Nat.beq e' e && (Nat.beq sz i.size && (!(mkd ov) && Nat.ble ((es.length + nx) * (i.bytes + 1)) 140737488355328))) && Nat.ble ((es.length + nx) * i.size) 4611686018427387904 then
        some ⟨.c (.ar j (k + 1)), [(j, aF9 (k + 1) e i.size (es.length + nx) (cX ov 0 es.flatten ++ news))], j :: tx, []⟩ else none
      | _ => none
     | some (.c (.d (.v (.slice none 0 0)))) => match ob nid with
      | none => bif x6 news then none else bif Nat.ble (nx * (i.bytes + 1)) 140737488355328 && Nat.ble (nx * i.size) 4611686018427387904 then some ⟨.c (.ar nid 0), [(nid, aF9 0 e i.size nx news)], nid :: tx, []⟩ else none
      | some _ => none
     | _ => none) else none
   | none => none
  | none => none
 | _, _ => none
theorem appG_ok (m : Mem fr own w pl) (hl : bH a w pl own p lk) (hp : Eng.Holds a p) {T : TypeId} {s x : Operand} (hop : o.op = .call { callee := .builtin .append, args := #[s, x], argTypes := #[T, T] }) {ob : Own} {nid : Nat} {e : Eff} (h : appG P lk ob T s x nid = some e) (hob : ∀ i ∈ e.touch, own i = ob i) : Does P fr own a w pl o e := by
 unfold appG at h
 have hrun : ∀ {v w'}, (Builtin.append_ #[T, T] o.type #[a.eval s, a.eval x]).run P w = .ok v w' → (execOp a.eval o).run P w = .ok (.value v) w' := by
  intro v w' hr
  unfold execOp
  simp only [hop, resolve, invoke, builtin, Sem.run_bind, Sem.run_pure, Result.andThen_ok, List.map_toArray, List.map_cons, List.map_nil, hr]
 split at h
 rename_i el szx nx news tx hu hrx
 split at h
 rename_i i hi
 split at h
 rename_i z hz
 cases hc : (Nat.beq z.cells.size i.size && (Nat.ble 1 i.size && Nat.beq szx i.size)) with
 | false => rw [hc] at h; cases h
 | true =>
  rw [hc] at h
  simp only [cond_true] at h
  simp only [Bool.and_eq_true, jO, Nat.ble_eq] at hc
  obtain ⟨hc1, hc2, rfl⟩ := hc
  split at h
  rename_i j k hs
  split at h
  rename_i k' e' ov sz es hbx
  cases hc0 : (x6 news && ov.isEmpty) with
  | true => rw [hc0] at h; cases h
  | false =>
   rw [hc0] at h
   simp only [cond_false] at h
   cases hk : (Nat.beq k' k && (Nat.beq e' el && (Nat.beq sz i.size && (!(mkd ov) && Nat.ble ((es.length + nx) * (i.bytes + 1)) 140737488355328))) && Nat.ble ((es.length + nx) * i.size) 4611686018427387904) with
   | false => rw [hk] at h; cases h
   | true =>
    rw [hk] at h
    simp only [cond_true, Option.some.injEq] at h
    simp only [Bool.and_eq_true, jO, Nat.ble_eq, Bool.not_eq_true'] at hk
    obtain ⟨⟨rfl, rfl, rfl, hmk, hbig⟩, hbig2⟩ := hk
    subst h
    have hj : own j = some (.arr k' ⟨e', ov⟩ i.size es) := by rw [hob j (by simp), hbx]
    have hv := dG (w := w) (hl [] s _ hs holds_nil hp) hj
    obtain ⟨A2, c2, xs2, hx2, hr2, hl2, hA2⟩ := z8 m hl hp hrx (fun i hi => hob i (by simp [hi]))
    obtain ⟨xs, hxs, hview, hfl⟩ := sH (m.obj j _ hj)
    rw [show mkd (AT.mk e' ov).ov = false from hmk] at hxs
    have hview : All2 (COk w pl own) (cX ov 0 es.flatten) xs := hview
    have hl2' : xs2.length = nx * i.size := by rw [← hr2.1, hl2]
    obtain ⟨A', c', w', h1, h2, h3, h4⟩ := fD (P := P) (w := w) 0 T o.type e' i z hu hi hz hc1 hc2 hxs hl2' (jQ hr2) hA2 hbig (Nat.zero_le _)
    intro K Q hK
    have hall := hview.append hr2
    have hcl : (cX ov 0 es.flatten ++ news).length = (es.length + nx) * i.size := by rw [List.length_append, fU, hfl, hl2, Nat.add_mul]
    obtain ⟨hch1, hch2, hch3⟩ := chunks_flatten i.size (es.length + nx) (eY (cX ov 0 es.flatten ++ news)) (by rw [fX]; exact hcl)
    have hmk2 : mkd (fS 0 (cX ov 0 es.flatten ++ news)) = false := jC _ 0 (by omega)
    obtain ⟨pl', m', L, hA⟩ := m.turnArrO (k' := k' + 1) (e' := ⟨e', fS 0 (cX ov 0 es.flatten ++ news)⟩) (es' := chunks i.size (es.length + nx) (eY (cX ov 0 es.flatten ++ news))) (A := A') (cap := c') (xs := xs ++ xs2) hj h3 (by
      rw [show mkd (AT.mk e' (fS 0 (cX ov 0 es.flatten ++ news))).ov = false from hmk2, hch2]; exact h2)
     (h4.imp id (fun h ad had => by rw [had] at h; simp only [Option.map_some, Option.some.injEq] at h; omega))
     (by rw [hch1]; exact p0 hall) hch3 (.inl (by omega))
    have := hrun (v := .slice A' (es.length + nx) c') (w' := w') (by rw [hv, hx2]; exact h1)
    unfold Oper.wp
    rw [this, Oper.upon_value]
    exact hK _ _ pl' m' L (.inr ⟨k' + 1, _, i.size, _, upd_same _ _ _, Nat.le_refl _, fun _ => by rw [hA, hch2], rfl⟩)
  cases h
  rename_i hs
  split at h
  rename_i hnone
  cases hc0 : x6 news with
  | true => rw [hc0] at h; cases h
  | false =>
   rw [hc0] at h
   simp only [cond_false] at h
   cases hk : (Nat.ble (nx * (i.bytes + 1)) 140737488355328 && Nat.ble (nx * i.size) 4611686018427387904) with
   | false => rw [hk] at h; cases h
   | true =>
    rw [hk] at h
    simp only [cond_true, Option.some.injEq] at h
    simp only [Bool.and_eq_true, Nat.ble_eq] at hk
    obtain ⟨hbig, hbig2⟩ := hk
    subst h
    have hv : a.eval s = .slice none 0 0 := Rd.exact (hl [] s _ hs holds_nil hp)
    obtain ⟨A2, c2, xs2, hx2, hr2, hl2, hA2⟩ := z8 m hl hp hrx (fun i hi => hob i (by simp [hi]))
    have hl2' : xs2.length = nx * i.size := by rw [← hr2.1, hl2]
    obtain ⟨A', c', w', h1, h2, h3, h4⟩ := fD (P := P) (w := w) 0 T o.type el i z hu hi hz hc1 hc2 (World.ownsRow_nil w _ _ _) hl2' (jQ hr2) hA2 (by rw [Nat.zero_add]; exact hbig) (Nat.zero_le _)
    rw [Nat.zero_add] at h1 h2
    intro K Q hK
    obtain ⟨hch1, hch2, hch3⟩ := chunks_flatten i.size nx (eY news) (by rw [fX]; exact hl2)
    have hmk2 : mkd (fS 0 news) = false := jC _ 0 (by omega)
    obtain ⟨pl', m', L, hA⟩ := m.newArr (i := nid) (e := ⟨el, fS 0 news⟩) (sz := i.size) (es := chunks i.size nx (eY news)) (xs := xs2) (A := A') (cap := c') (by rw [hob nid (by simp), hnone]) h3 (by
      rw [show mkd (AT.mk el (fS 0 news)).ov = false from hmk2, hch2]; simp only [List.nil_append] at h2; exact h2)
     (fun ad had => by
      rw [had] at h4
      rcases h4 with h | h
      simp at h
      simp only [Option.map_some, Option.some.injEq] at h; omega) (by rw [hch1]; exact p0 hr2) hch3
    have := hrun (v := .slice A' nx c') (w' := w') (by rw [hv, hx2]; exact h1)
    unfold Oper.wp
    rw [this, Oper.upon_value]
    exact hK _ _ pl' m' L (.inr ⟨0, _, i.size, _, upd_same _ _ _, Nat.le_refl _, fun _ => by rw [hA, hch2], rfl⟩)
  cases h
  cases h
 cases h
 cases h
 cases h
end
end Go.V
