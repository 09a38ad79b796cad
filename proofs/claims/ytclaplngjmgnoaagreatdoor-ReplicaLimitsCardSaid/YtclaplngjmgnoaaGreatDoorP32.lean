/- Part 32 of the proof: texts TryzShelf, V33a, V33b, V33c, V33d. -/
import Derived.Test.YtclaplngjmgnoaaGreatDoorP29
import Derived.Shelf.Strings.Builder1
import Derived.Shelf.Strings.Builder2
import Derived.Shelf.Strings.OnBuilder
import Derived.Shelf.Small.Utf8
import Derived.Shelf.Small.Strs
import Derived.Shelf.Small.Wraps
import Derived.Shelf.Strings.BuilderF
import Derived.Shelf.Strings.BuilderK
import Derived.Shelf.Strconv.Atoi
import Derived.Shelf.Strconv.Itoa0
import Derived.Shelf.Strconv.Itoa1
import Derived.Shelf.LaysM
import Derived.Shelf.Strconv.Itoa2
import Derived.Shelf.Strconv.Itoa3
import Derived.Shelf.Strconv.AtoiErrFast
import Derived.Shelf.Strconv.ParseIntEmpty
import Derived.Shelf.Strconv.AtoiFail
import Derived.Shelf.Strconv.Clone
import Derived.Shelf.Strconv.SyntaxError
import Derived.Shelf.LaysC
import Derived.Shelf.Strconv.ToError
import Derived.Shelf.Strconv.Lower
import Derived.Shelf.Strconv.ParseUint10
import Derived.Shelf.Strconv.ParseUint10Empty
import Derived.Shelf.Strconv.ParseUint10Any
import Derived.Shelf.Strconv.ParseInt10
import Derived.Shelf.Strconv.AtoiLong
import Derived.Shelf.Strconv.AtoiInnerAll
import Derived.Shelf.Strconv.RangeError
import Derived.Shelf.Strconv.ToErrorRange
import Derived.Shelf.Strconv.AtoiAll
import Derived.Shelf.Strconv.ErrVarAll
import Derived.Shelf.Strings.Search1
import Derived.Shelf.Strings.Search2
import Derived.Shelf.Strings.Search3
import Derived.Shelf.Strings.Cut
import Derived.Shelf.Strings.Count
import Derived.Shelf.Strings.Shaped
import Derived.Shelf.Strings.Prefix
import Derived.Shelf.Strings.Split
import Derived.Shelf.Strings.Replace
import Derived.Shelf.Strings.SplitShaped
import Derived.Shelf.Strings.Runes
import Derived.Shelf.Strings.IndexAny
import Derived.Shelf.Strings.AsciiSet
import Derived.Shelf.Strings.IndexAnyAll
import Derived.Shelf.Bits.Mul64
import Derived.Shelf.Unicode.DecodeSlow
import Derived.Ground.Names2Prog
import Derived.Shelf.Slices.Clone
import Derived.Shelf.Slices.In.SortNone
import Derived.Ground.SlgmProg
import Derived.Shelf.SortM.Plain
import Derived.Test.YtclaplngjmgnoaaGreatDoorProg
import Derived.Lib.AppendIntMem
import Derived.Lib.SplitLaws
set_option linter.all false
namespace Go.Proofs
open Go.Shelf
def Tryz.lays156_ren : Go.Shelf.Ren := ⟨fun | 156 => 57 | 165 => 110 | 166 => 34 | 169 => 36 | 240 => 61 | 241 => 173 | 276 => 114 | 277 => 241 | n => n, fun | 31 => 58 | 9 => 9 | 3 => 3 | 4 => 4 | 0 => 0 | 20 => 20 | 72 => 89 | 76 => 95 | 70 => 86 | 37 => 87 | 75 => 94 | 127 => 142 | 164 => 199 | 5 => 5 | 80 => 36 | n => n, fun | n => n⟩
theorem Tryz.lays156 : Go.Proofs.Lays.n156 Tryz.prog Tryz.lays156_ren := {
 mixed := by kernel_rfl
 f156 := Tryz.func57.trans (congrArg some (by kernel_rfl))
 f165 := Tryz.func110.trans (congrArg some (by kernel_rfl))
 f166 := Tryz.func34.trans (congrArg some (by kernel_rfl))
 f169 := Tryz.func36.trans (congrArg some (by kernel_rfl))
 f240 := Tryz.func61.trans (congrArg some (by kernel_rfl))
 f241 := Tryz.func173.trans (congrArg some (by kernel_rfl))
 f276 := Tryz.func114.trans (congrArg some (by kernel_rfl))
 f277 := Tryz.func241.trans (congrArg some (by kernel_rfl))
 t0 := Tryz.underlying0
 a0 := Tryz.isAgg0
 z0 := Tryz.sizeOf0
 v0 := Tryz.zeroValue0
 t3 := Tryz.underlying3
 a3 := Tryz.isAgg3
 z3 := Tryz.sizeOf3
 v3 := Tryz.zeroValue3
 t4 := Tryz.underlying4
 a4 := Tryz.isAgg4
 z4 := Tryz.sizeOf4
 v4 := Tryz.zeroValue4
 t9 := Tryz.underlying9
 a9 := Tryz.isAgg9
 z9 := Tryz.sizeOf9
 v9 := Tryz.zeroValue9
 t20 := Tryz.underlying20
 a20 := Tryz.isAgg20
 z20 := Tryz.sizeOf20
 v20 := Tryz.zeroValue20
 t31 := Tryz.underlying58
 a31 := Tryz.isAgg58
 z31 := Tryz.sizeOf58
 v31 := Tryz.zeroValue58
 t37 := Tryz.underlying87
 a37 := Tryz.isAgg87
 z37 := Tryz.sizeOf87
 v37 := Tryz.zeroValue87
 t70 := Tryz.underlying86
 a70 := Tryz.isAgg86
 z70 := Tryz.sizeOf86
 v70 := Tryz.zeroValue86
 t72 := Tryz.underlying89
 a72 := Tryz.isAgg89
 z72 := Tryz.sizeOf89
 v72 := Tryz.zeroValue89
 t75 := Tryz.underlying94
 a75 := Tryz.isAgg94
 z75 := Tryz.sizeOf94
 v75 := Tryz.zeroValue94
 t76 := Tryz.underlying95
 a76 := Tryz.isAgg95
 z76 := Tryz.sizeOf95
 v76 := Tryz.zeroValue95
 t127 := Tryz.underlying142
 a127 := Tryz.isAgg142
 z127 := Tryz.sizeOf142
 v127 := Tryz.zeroValue142
 t164 := Tryz.underlying199
 a164 := Tryz.isAgg199
 z164 := Tryz.sizeOf199
 v164 := Tryz.zeroValue199 }
theorem Tryz.Builder_Extra_156 : Builder.Extra Tryz.prog Tryz.lays156_ren := {
 sizeBuilder := by kernel_rfl
 liesBuilder := by kernel_rfl
 t5 := Tryz.underlying5
 a5 := Tryz.isAgg5
 z5 := Tryz.sizeOf5
 v5 := Tryz.zeroValue5
 infoByte := by kernel_rfl
 cellsByte := by kernel_rfl
 sizeByte := by kernel_rfl
 neB5 := by decide }
open Go.RowKit in
theorem Tryz.strings_Join_none (a : Option Addr) (c : Nat) (sep : ByteArray) (w : World) :
  Calls Tryz.prog 57 #[.slice a 0 c, .string sep] w fun e w' => e = .returned (.string ⟨#[]⟩) ∧ w' = w := Any.strings_Join_none Tryz.lays156 Tryz.Builder_Extra_156 a c sep w
open Go.RowKit in
theorem Tryz.strings_Join (bk o c : Nat) (xs : List ByteArray) (sep : ByteArray) (w : World) (hcells : ∀ (j : Nat) x, xs[j]? = some x → w.cell? ⟨bk, o + j, none⟩ = some (.string x)) (hbk : bk < w.heap.size) (hN : xs.length ≤ 140737488355328) (hcap : xs.length ≤ c) (hlen : (Lib.join (xs.map (·.data.toList)) sep.data.toList).length ≤ 140737488355328) :
  Calls Tryz.prog 57 #[.slice (some ⟨bk, o, none⟩) xs.length c, .string sep] w fun e w' => e = .returned (.string ⟨(Lib.join (xs.map (·.data.toList)) sep.data.toList).toArray⟩) ∧ Below w.heap.size w w' := Any.strings_Join Tryz.lays156 Tryz.Builder_Extra_156 bk o c xs sep w hcells hbk hN hcap hlen
def Tryz.lays137_ren : Go.Shelf.Ren := ⟨fun | 137 => 320 | 217 => 251 | 266 => 315 | n => n, fun | 9 => 9 | 5 => 5 | 3 => 3 | n => n, fun | n => n⟩
theorem Tryz.lays137 : Go.Proofs.Lays.n137 Tryz.prog Tryz.lays137_ren := {
 mixed := by kernel_rfl
 f137 := Tryz.func320.trans (congrArg some (by kernel_rfl))
 f217 := Tryz.func251.trans (congrArg some (by kernel_rfl))
 f266 := Tryz.func315.trans (congrArg some (by kernel_rfl))
 t3 := Tryz.underlying3
 a3 := Tryz.isAgg3
 z3 := Tryz.sizeOf3
 v3 := Tryz.zeroValue3
 t5 := Tryz.underlying5
 a5 := Tryz.isAgg5
 z5 := Tryz.sizeOf5
 v5 := Tryz.zeroValue5
 t9 := Tryz.underlying9
 a9 := Tryz.isAgg9
 z9 := Tryz.sizeOf9
 v9 := Tryz.zeroValue9 }
open Go.RowKit in
theorem Tryz.strings_IndexByte (s : ByteArray) (c : Int) (w : World) :
  Calls Tryz.prog 320 #[.string s, .int .u8 c] w fun e w' => e = .returned (.int .i64 (Lib.indexByte s.data.toList c.toNat.toUInt8)) ∧ w' = w := Any.strings_IndexByte Tryz.lays137 s c w
def Tryz.lays103_ren : Go.Shelf.Ren := ⟨fun | 103 => 65 | 210 => 117 | 206 => 176 | n => n, fun | 9 => 9 | 4 => 4 | 24 => 146 | 3 => 3 | n => n, fun | n => n⟩
theorem Tryz.lays103 : Go.Proofs.Lays.n103 Tryz.prog Tryz.lays103_ren := {
 mixed := by kernel_rfl
 f103 := Tryz.func65.trans (congrArg some (by kernel_rfl))
 f206 := Tryz.func176.trans (congrArg some (by kernel_rfl))
 f210 := Tryz.func117.trans (congrArg some (by kernel_rfl))
 t3 := Tryz.underlying3
 a3 := Tryz.isAgg3
 z3 := Tryz.sizeOf3
 v3 := Tryz.zeroValue3
 t4 := Tryz.underlying4
 a4 := Tryz.isAgg4
 z4 := Tryz.sizeOf4
 v4 := Tryz.zeroValue4
 t9 := Tryz.underlying9
 a9 := Tryz.isAgg9
 z9 := Tryz.sizeOf9
 v9 := Tryz.zeroValue9
 t24 := Tryz.underlying146
 a24 := Tryz.isAgg146
 z24 := Tryz.sizeOf146
 v24 := Tryz.zeroValue146 }
open Go.RowKit in
theorem Tryz.strings_CutPrefix (s p : ByteArray) (w : World) :
  Calls Tryz.prog 65 #[.string s, .string p] w fun e w' => e = .returned (.tuple #[.string ⟨(Lib.trimPrefix s.data.toList p.data.toList).toArray⟩, .bool (Lib.hasPrefix s.data.toList p.data.toList)]) ∧ w' = w := Any.strings_CutPrefix Tryz.lays103 s p w
def Tryz.laysM171_ren : Go.Shelf.Ren := ⟨fun | 171 => 55 | 243 => 106 | 246 => 167 | 283 => 231 | 284 => 232 | 285 => 233 | 286 => 234 | 129 => 162 | 317 => 299 | 318 => 300 | 319 => 301 | 320 => 302 | 337 => 353 | 338 => 354 | n => n, fun | 3 => 3 | 9 => 9 | 2 => 2 | 4 => 4 | 171 => 315 | 0 => 0 | 53 => 257 | 37 => 87 | 5 => 5 | 173 => 317 | 212 => 375 | 51 => 255 | 20 => 20 | 213 => 376 | 46 => 183 | 232 => 440 | 233 => 441 | n => n, fun | 17 => 3 | 18 => 7 | 19 => 8 | n => n⟩
theorem Tryz.laysM171 : Go.Proofs.LaysM.n171 Tryz.prog Tryz.laysM171_ren := {
 mixed := by kernel_rfl
 f129 := Tryz.func162.trans (congrArg some (by kernel_rfl))
 f171 := Tryz.func55.trans (congrArg some (by kernel_rfl))
 f243 := Tryz.func106.trans (congrArg some (by kernel_rfl))
 f246 := Tryz.func167.trans (congrArg some (by kernel_rfl))
 f283 := Tryz.func231.trans (congrArg some (by kernel_rfl))
 f284 := Tryz.func232.trans (congrArg some (by kernel_rfl))
 f285 := Tryz.func233.trans (congrArg some (by kernel_rfl))
 f286 := Tryz.func234.trans (congrArg some (by kernel_rfl))
 f317 := Tryz.func299.trans (congrArg some (by kernel_rfl))
 f318 := Tryz.func300.trans (congrArg some (by kernel_rfl))
 f319 := Tryz.func301.trans (congrArg some (by kernel_rfl))
 f320 := Tryz.func302.trans (congrArg some (by kernel_rfl))
 f337 := Tryz.func353.trans (congrArg some (by kernel_rfl))
 f338 := Tryz.func354.trans (congrArg some (by kernel_rfl))
 t0 := Tryz.underlying0
 a0 := Tryz.isAgg0
 z0 := Tryz.sizeOf0
 v0 := Tryz.zeroValue0
 t2 := Tryz.underlying2
 a2 := Tryz.isAgg2
 z2 := Tryz.sizeOf2
 v2 := Tryz.zeroValue2
 t3 := Tryz.underlying3
 a3 := Tryz.isAgg3
 z3 := Tryz.sizeOf3
 v3 := Tryz.zeroValue3
 t4 := Tryz.underlying4
 a4 := Tryz.isAgg4
 z4 := Tryz.sizeOf4
 v4 := Tryz.zeroValue4
 t5 := Tryz.underlying5
 a5 := Tryz.isAgg5
 z5 := Tryz.sizeOf5
 v5 := Tryz.zeroValue5
 t9 := Tryz.underlying9
 a9 := Tryz.isAgg9
 z9 := Tryz.sizeOf9
 v9 := Tryz.zeroValue9
 t20 := Tryz.underlying20
 a20 := Tryz.isAgg20
 z20 := Tryz.sizeOf20
 v20 := Tryz.zeroValue20
 t37 := Tryz.underlying87
 a37 := Tryz.isAgg87
 z37 := Tryz.sizeOf87
 v37 := Tryz.zeroValue87
 t46 := Tryz.underlying183
 a46 := Tryz.isAgg183
 z46 := Tryz.sizeOf183
 v46 := Tryz.zeroValue183
 t51 := Tryz.underlying255
 a51 := Tryz.isAgg255
 z51 := Tryz.sizeOf255
 v51 := Tryz.zeroValue255
 t53 := Tryz.underlying257
 a53 := Tryz.isAgg257
 z53 := Tryz.sizeOf257
 v53 := Tryz.zeroValue257
 t171 := Tryz.underlying315
 a171 := Tryz.isAgg315
 z171 := Tryz.sizeOf315
 v171 := Tryz.zeroValue315
 t173 := Tryz.underlying317
 a173 := Tryz.isAgg317
 z173 := Tryz.sizeOf317
 v173 := Tryz.zeroValue317
 t212 := Tryz.underlying375
 a212 := Tryz.isAgg375
 z212 := Tryz.sizeOf375
 v212 := Tryz.zeroValue375
 t213 := Tryz.underlying376
 a213 := Tryz.isAgg376
 z213 := Tryz.sizeOf376
 t232 := Tryz.underlying440
 a232 := Tryz.isAgg440
 z232 := Tryz.sizeOf440
 v232 := Tryz.zeroValue440
 t233 := Tryz.underlying441
 a233 := Tryz.isAgg441
 z233 := Tryz.sizeOf441
 v233 := Tryz.zeroValue441
 g17 := by kernel_rfl
 g18 := by kernel_rfl
 g19 := by kernel_rfl
 i0 := by kernel_rfl
 i2 := by kernel_rfl
 i3 := by kernel_rfl
 i4 := by kernel_rfl
 i5 := by kernel_rfl
 i9 := by kernel_rfl
 i20 := by kernel_rfl
 i37 := by kernel_rfl
 i46 := by kernel_rfl
 i51 := by kernel_rfl
 i53 := by kernel_rfl
 i171 := by kernel_rfl
 i173 := by kernel_rfl
 i212 := by kernel_rfl
 i232 := by kernel_rfl
 i233 := by kernel_rfl
 m17 := by kernel_rfl
 m18 := by kernel_rfl
 m19 := by kernel_rfl }
open Go.RowKit Go.Sort Go.Lib in
theorem Tryz.strconv_Itoa (n : Int) (h0 : -9223372036854775808 ≤ n) (h1 : n ≤ 9223372036854775807) (w : World) (htab : Lib.TabIs Tryz.prog w "internal/strconv.uint64pow10" .u64 Lib.pow10Tab) :
  Calls Tryz.prog 55 #[.int .i64 n] w fun e w' => e = .returned (.string ⟨(Lib.itoa n).toArray⟩) ∧ ∃ k os, w' = grow (w.drewN k) os := Any.strconv_Itoa Tryz.laysM171 n h0 h1 w htab
def Tryz.laysC172_ren : Go.Shelf.Ren := ⟨fun | 172 => 68 | 244 => 119 | 245 => 120 | 247 => 178 | 279 => 179 | 280 => 180 | 281 => 181 | 282 => 182 | 287 => 255 | 316 => 256 | 171 => 55 | 205 => 257 | 321 => 317 | 322 => 318 | 243 => 106 | 246 => 167 | 283 => 231 | 284 => 232 | 285 => 233 | 286 => 234 | 129 => 162 | 317 => 299 | 318 => 300 | 319 => 301 | 320 => 302 | 337 => 353 | 338 => 354 | n => n, fun | 9 => 9 | 3 => 3 | 75 => 94 | 76 => 95 | 4 => 4 | 5 => 5 | 167 => 270 | 37 => 87 | 0 => 0 | 85 => 271 | 2 => 2 | 168 => 273 | 53 => 257 | 175 => 337 | 46 => 183 | 210 => 340 | 127 => 142 | 145 => 386 | 143 => 384 | 21 => 21 | 171 => 315 | 173 => 317 | 212 => 375 | 51 => 255 | 20 => 20 | 213 => 376 | 232 => 440 | 233 => 441 | 80 => 36 | n => n, fun | 15 => 1 | 16 => 2 | 17 => 3 | 18 => 7 | 19 => 8 | n => n⟩
theorem Tryz.laysC172 : Go.Proofs.LaysC.n172 Tryz.prog Tryz.laysC172_ren := {
 mixed := by kernel_rfl
 f129 := Tryz.func162.trans (congrArg some (by kernel_rfl))
 f171 := Tryz.func55.trans (congrArg some (by kernel_rfl))
 f172 := Tryz.func68.trans (congrArg some (by kernel_rfl))
 f205 := Tryz.func257.trans (congrArg some (by kernel_rfl))
 f243 := Tryz.func106.trans (congrArg some (by kernel_rfl))
 f244 := Tryz.func119.trans (congrArg some (by kernel_rfl))
 f245 := Tryz.func120.trans (congrArg some (by kernel_rfl))
 f246 := Tryz.func167.trans (congrArg some (by kernel_rfl))
 f247 := Tryz.func178.trans (congrArg some (by kernel_rfl))
 f279 := Tryz.func179.trans (congrArg some (by kernel_rfl))
 f280 := Tryz.func180.trans (congrArg some (by kernel_rfl))
 f281 := Tryz.func181.trans (congrArg some (by kernel_rfl))
 f282 := Tryz.func182.trans (congrArg some (by kernel_rfl))
 f283 := Tryz.func231.trans (congrArg some (by kernel_rfl))
 f284 := Tryz.func232.trans (congrArg some (by kernel_rfl))
 f285 := Tryz.func233.trans (congrArg some (by kernel_rfl))
 f286 := Tryz.func234.trans (congrArg some (by kernel_rfl))
 f287 := Tryz.func255.trans (congrArg some (by kernel_rfl))
 f316 := Tryz.func256.trans (congrArg some (by kernel_rfl))
 f317 := Tryz.func299.trans (congrArg some (by kernel_rfl))
 f318 := Tryz.func300.trans (congrArg some (by kernel_rfl))
 f319 := Tryz.func301.trans (congrArg some (by kernel_rfl))
 f320 := Tryz.func302.trans (congrArg some (by kernel_rfl))
 f321 := Tryz.func317.trans (congrArg some (by kernel_rfl))
 f322 := Tryz.func318.trans (congrArg some (by kernel_rfl))
 f337 := Tryz.func353.trans (congrArg some (by kernel_rfl))
 f338 := Tryz.func354.trans (congrArg some (by kernel_rfl))
 t0 := Tryz.underlying0
 a0 := Tryz.isAgg0
 z0 := Tryz.sizeOf0
 v0 := Tryz.zeroValue0
 t2 := Tryz.underlying2
 a2 := Tryz.isAgg2
 z2 := Tryz.sizeOf2
 v2 := Tryz.zeroValue2
 t3 := Tryz.underlying3
 a3 := Tryz.isAgg3
 z3 := Tryz.sizeOf3
 v3 := Tryz.zeroValue3
 t4 := Tryz.underlying4
 a4 := Tryz.isAgg4
 z4 := Tryz.sizeOf4
 v4 := Tryz.zeroValue4
 t5 := Tryz.underlying5
 a5 := Tryz.isAgg5
 z5 := Tryz.sizeOf5
 v5 := Tryz.zeroValue5
 t9 := Tryz.underlying9
 a9 := Tryz.isAgg9
 z9 := Tryz.sizeOf9
 v9 := Tryz.zeroValue9
 t20 := Tryz.underlying20
 a20 := Tryz.isAgg20
 z20 := Tryz.sizeOf20
 v20 := Tryz.zeroValue20
 t21 := Tryz.underlying21
 a21 := Tryz.isAgg21
 z21 := Tryz.sizeOf21
 v21 := Tryz.zeroValue21
 t37 := Tryz.underlying87
 a37 := Tryz.isAgg87
 z37 := Tryz.sizeOf87
 v37 := Tryz.zeroValue87
 t46 := Tryz.underlying183
 a46 := Tryz.isAgg183
 z46 := Tryz.sizeOf183
 v46 := Tryz.zeroValue183
 t51 := Tryz.underlying255
 a51 := Tryz.isAgg255
 z51 := Tryz.sizeOf255
 v51 := Tryz.zeroValue255
 t53 := Tryz.underlying257
 a53 := Tryz.isAgg257
 z53 := Tryz.sizeOf257
 v53 := Tryz.zeroValue257
 t75 := Tryz.underlying94
 a75 := Tryz.isAgg94
 z75 := Tryz.sizeOf94
 v75 := Tryz.zeroValue94
 t76 := Tryz.underlying95
 a76 := Tryz.isAgg95
 z76 := Tryz.sizeOf95
 v76 := Tryz.zeroValue95
 t85 := Tryz.underlying271
 a85 := Tryz.isAgg271
 z85 := Tryz.sizeOf271
 v85 := Tryz.zeroValue271
 t127 := Tryz.underlying142
 a127 := Tryz.isAgg142
 z127 := Tryz.sizeOf142
 v127 := Tryz.zeroValue142
 t143 := Tryz.underlying384
 a143 := Tryz.isAgg384
 z143 := Tryz.sizeOf384
 v143 := Tryz.zeroValue384
 t145 := Tryz.underlying386
 a145 := Tryz.isAgg386
 z145 := Tryz.sizeOf386
 v145 := Tryz.zeroValue386
 t167 := Tryz.underlying270
 a167 := Tryz.isAgg270
 z167 := Tryz.sizeOf270
 v167 := Tryz.zeroValue270
 t168 := Tryz.underlying273
 a168 := Tryz.isAgg273
 z168 := Tryz.sizeOf273
 v168 := Tryz.zeroValue273
 t171 := Tryz.underlying315
 a171 := Tryz.isAgg315
 z171 := Tryz.sizeOf315
 v171 := Tryz.zeroValue315
 t173 := Tryz.underlying317
 a173 := Tryz.isAgg317
 z173 := Tryz.sizeOf317
 v173 := Tryz.zeroValue317
 t175 := Tryz.underlying337
 a175 := Tryz.isAgg337
 z175 := Tryz.sizeOf337
 v175 := Tryz.zeroValue337
 t210 := Tryz.underlying340
 a210 := Tryz.isAgg340
 z210 := Tryz.sizeOf340
 v210 := Tryz.zeroValue340
 t212 := Tryz.underlying375
 a212 := Tryz.isAgg375
 z212 := Tryz.sizeOf375
 v212 := Tryz.zeroValue375
 t213 := Tryz.underlying376
 a213 := Tryz.isAgg376
 z213 := Tryz.sizeOf376
 t232 := Tryz.underlying440
 a232 := Tryz.isAgg440
 z232 := Tryz.sizeOf440
 v232 := Tryz.zeroValue440
 t233 := Tryz.underlying441
 a233 := Tryz.isAgg441
 z233 := Tryz.sizeOf441
 v233 := Tryz.zeroValue441
 g15 := by kernel_rfl
 g16 := by kernel_rfl
 g17 := by kernel_rfl
 g18 := by kernel_rfl
 g19 := by kernel_rfl
 t80 := Tryz.underlying36
 a80 := Tryz.isAgg36
 z80 := Tryz.sizeOf36
 v80 := Tryz.zeroValue36
 i0 := by kernel_rfl
 i2 := by kernel_rfl
 i3 := by kernel_rfl
 i4 := by kernel_rfl
 i5 := by kernel_rfl
 i9 := by kernel_rfl
 i20 := by kernel_rfl
 i21 := by kernel_rfl
 i37 := by kernel_rfl
 i46 := by kernel_rfl
 i51 := by kernel_rfl
 i53 := by kernel_rfl
 i75 := by kernel_rfl
 i76 := by kernel_rfl
 i80 := by kernel_rfl
 i85 := by kernel_rfl
 i127 := by kernel_rfl
 i143 := by kernel_rfl
 i145 := by kernel_rfl
 i167 := by kernel_rfl
 i168 := by kernel_rfl
 i171 := by kernel_rfl
 i173 := by kernel_rfl
 i175 := by kernel_rfl
 i210 := by kernel_rfl
 i212 := by kernel_rfl
 i232 := by kernel_rfl
 i233 := by kernel_rfl
 m15 := by kernel_rfl
 m16 := by kernel_rfl
 m17 := by kernel_rfl
 m18 := by kernel_rfl
 m19 := by kernel_rfl
 c0 := by kernel_rfl
 c2 := by kernel_rfl
 c3 := by kernel_rfl
 c4 := by kernel_rfl
 c5 := by kernel_rfl
 c9 := by kernel_rfl
 c20 := by kernel_rfl
 c21 := by kernel_rfl
 c37 := by kernel_rfl
 c46 := by kernel_rfl
 c51 := by kernel_rfl
 c53 := by kernel_rfl
 c75 := by kernel_rfl
 c76 := by kernel_rfl
 c80 := by kernel_rfl
 c85 := by kernel_rfl
 c127 := by kernel_rfl
 c143 := by kernel_rfl
 c145 := by kernel_rfl
 c167 := by kernel_rfl
 c168 := by kernel_rfl
 c171 := by kernel_rfl
 c173 := by kernel_rfl
 c175 := by kernel_rfl
 c210 := by kernel_rfl
 c212 := by kernel_rfl
 c213 := by kernel_rfl
 c232 := by kernel_rfl
 c233 := by kernel_rfl }
open Go.RowKit in
theorem Tryz.strconv_Atoi_ok (s : ByteArray) (hmax : s.size ≤ 9223372036854775806) (v : Int) (h : Lib.atoiAll s.data.toList = .ok v) (w : World) :
  Calls Tryz.prog 68 #[.string s] w fun e w' => e = .returned (.tuple #[.int .i64 v, .nilIface]) ∧ (w' = w ∨ ∃ t, w' = Lib.bytesWorld w 5 t) := Any.strconv_Atoi_ok Tryz.laysC172 s hmax v h w
def Tryz.lays145_ren : Go.Shelf.Ren := ⟨fun | 145 => 67 | 220 => 118 | 219 => 177 | 217 => 251 | 225 => 252 | 224 => 253 | 267 => 254 | 266 => 315 | 314 => 316 | n => n, fun | 9 => 9 | 4 => 4 | 59 => 148 | 3 => 3 | 5 => 5 | 46 => 183 | 146 => 381 | 51 => 255 | n => n, fun | 1 => 0 | n => n⟩
theorem Tryz.lays145 : Go.Proofs.Lays.n145 Tryz.prog Tryz.lays145_ren := {
 mixed := by kernel_rfl
 f145 := Tryz.func67.trans (congrArg some (by kernel_rfl))
 f217 := Tryz.func251.trans (congrArg some (by kernel_rfl))
 f219 := Tryz.func177.trans (congrArg some (by kernel_rfl))
 f220 := Tryz.func118.trans (congrArg some (by kernel_rfl))
 f224 := Tryz.func253.trans (congrArg some (by kernel_rfl))
 f225 := Tryz.func252.trans (congrArg some (by kernel_rfl))
 f266 := Tryz.func315.trans (congrArg some (by kernel_rfl))
 f267 := Tryz.func254.trans (congrArg some (by kernel_rfl))
 f314 := Tryz.func316.trans (congrArg some (by kernel_rfl))
 t3 := Tryz.underlying3
 a3 := Tryz.isAgg3
 z3 := Tryz.sizeOf3
 v3 := Tryz.zeroValue3
 t4 := Tryz.underlying4
 a4 := Tryz.isAgg4
 z4 := Tryz.sizeOf4
 v4 := Tryz.zeroValue4
 t5 := Tryz.underlying5
 a5 := Tryz.isAgg5
 z5 := Tryz.sizeOf5
 v5 := Tryz.zeroValue5
 t9 := Tryz.underlying9
 a9 := Tryz.isAgg9
 z9 := Tryz.sizeOf9
 v9 := Tryz.zeroValue9
 t46 := Tryz.underlying183
 a46 := Tryz.isAgg183
 z46 := Tryz.sizeOf183
 v46 := Tryz.zeroValue183
 t51 := Tryz.underlying255
 a51 := Tryz.isAgg255
 z51 := Tryz.sizeOf255
 v51 := Tryz.zeroValue255
 t59 := Tryz.underlying148
 a59 := Tryz.isAgg148
 z59 := Tryz.sizeOf148
 v59 := Tryz.zeroValue148
 t146 := Tryz.underlying381
 a146 := Tryz.isAgg381
 z146 := Tryz.sizeOf381
 v146 := Tryz.zeroValue381
 g1 := by kernel_rfl }
open Go.RowKit Go.Lib in
theorem Tryz.strings_Cut (s sep : ByteArray) (m : Int) (w : World) (hs : s.size < 4294967281) (hm : w.cell? ⟨0, 0, none⟩ = some (.int .i64 m)) :
  Calls Tryz.prog 67 #[.string s, .string sep] w fun e w' => e = .returned (.tuple #[.string ⟨(Lib.cut s.data.toList sep.data.toList).1.toArray⟩, .string ⟨(Lib.cut s.data.toList sep.data.toList).2.1.toArray⟩, .bool (Lib.cut s.data.toList sep.data.toList).2.2]) ∧ ∃ n, w' = w.drewN n := Any.strings_Cut Tryz.lays145 s sep m w hs hm
def Tryz.lays146_ren : Go.Shelf.Ren := ⟨fun | 146 => 72 | 221 => 123 | 268 => 185 | 138 => 186 | 143 => 187 | 195 => 265 | 197 => 235 | 218 => 266 | 219 => 177 | 260 => 303 | 217 => 251 | 225 => 252 | 224 => 253 | 267 => 254 | 266 => 315 | 314 => 316 | n => n, fun | 9 => 9 | 31 => 58 | 3 => 3 | 4 => 4 | 0 => 0 | 105 => 319 | 21 => 21 | 5 => 5 | 46 => 183 | 119 => 405 | 139 => 408 | 138 => 407 | 146 => 381 | 51 => 255 | n => n, fun | 1 => 0 | 3 => 4 | 4 => 5 | n => n⟩
theorem Tryz.lays146 : Go.Proofs.Lays.n146 Tryz.prog Tryz.lays146_ren := {
 mixed := by kernel_rfl
 f138 := Tryz.func186.trans (congrArg some (by kernel_rfl))
 f143 := Tryz.func187.trans (congrArg some (by kernel_rfl))
 f146 := Tryz.func72.trans (congrArg some (by kernel_rfl))
 f195 := Tryz.func265.trans (congrArg some (by kernel_rfl))
 f197 := Tryz.func235.trans (congrArg some (by kernel_rfl))
 f217 := Tryz.func251.trans (congrArg some (by kernel_rfl))
 f218 := Tryz.func266.trans (congrArg some (by kernel_rfl))
 f219 := Tryz.func177.trans (congrArg some (by kernel_rfl))
 f221 := Tryz.func123.trans (congrArg some (by kernel_rfl))
 f224 := Tryz.func253.trans (congrArg some (by kernel_rfl))
 f225 := Tryz.func252.trans (congrArg some (by kernel_rfl))
 f260 := Tryz.func303.trans (congrArg some (by kernel_rfl))
 f266 := Tryz.func315.trans (congrArg some (by kernel_rfl))
 f267 := Tryz.func254.trans (congrArg some (by kernel_rfl))
 f268 := Tryz.func185.trans (congrArg some (by kernel_rfl))
 f314 := Tryz.func316.trans (congrArg some (by kernel_rfl))
 t0 := Tryz.underlying0
 a0 := Tryz.isAgg0
 z0 := Tryz.sizeOf0
 v0 := Tryz.zeroValue0
 t3 := Tryz.underlying3
 a3 := Tryz.isAgg3
 z3 := Tryz.sizeOf3
 v3 := Tryz.zeroValue3
 t4 := Tryz.underlying4
 a4 := Tryz.isAgg4
 z4 := Tryz.sizeOf4
 v4 := Tryz.zeroValue4
 t5 := Tryz.underlying5
 a5 := Tryz.isAgg5
 z5 := Tryz.sizeOf5
 v5 := Tryz.zeroValue5
 t9 := Tryz.underlying9
 a9 := Tryz.isAgg9
 z9 := Tryz.sizeOf9
 v9 := Tryz.zeroValue9
 t21 := Tryz.underlying21
 a21 := Tryz.isAgg21
 z21 := Tryz.sizeOf21
 v21 := Tryz.zeroValue21
 t31 := Tryz.underlying58
 a31 := Tryz.isAgg58
 z31 := Tryz.sizeOf58
 v31 := Tryz.zeroValue58
 t46 := Tryz.underlying183
 a46 := Tryz.isAgg183
 z46 := Tryz.sizeOf183
 v46 := Tryz.zeroValue183
 t51 := Tryz.underlying255
 a51 := Tryz.isAgg255
 z51 := Tryz.sizeOf255
 v51 := Tryz.zeroValue255
 t105 := Tryz.underlying319
 a105 := Tryz.isAgg319
 z105 := Tryz.sizeOf319
 v105 := Tryz.zeroValue319
 t119 := Tryz.underlying405
 a119 := Tryz.isAgg405
 z119 := Tryz.sizeOf405
 t138 := Tryz.underlying407
 a138 := Tryz.isAgg407
 z138 := Tryz.sizeOf407
 v138 := Tryz.zeroValue407
 t139 := Tryz.underlying408
 a139 := Tryz.isAgg408
 z139 := Tryz.sizeOf408
 v139 := Tryz.zeroValue408
 t146 := Tryz.underlying381
 a146 := Tryz.isAgg381
 z146 := Tryz.sizeOf381
 v146 := Tryz.zeroValue381
 g1 := by kernel_rfl
 g3 := by kernel_rfl
 g4 := by kernel_rfl }
open Go.RowKit Go.Lib in
theorem Tryz.strings_Split (s sep : ByteArray) (m : Int) (w : World) (hs : s.size < 4294967281) (hm : w.cell? ⟨0, 0, none⟩ = some (.int .i64 m)) (h1 : 1 ≤ sep.size) :
  Calls Tryz.prog 72 #[.string s, .string sep] w fun e w' =>
   e = .returned (.slice (some ⟨w.heap.size, 0, none⟩) (Lib.countB s sep + 1) (Lib.countB s sep + 1)) ∧ w' = w.alloc (.cells ((Lib.splitB sep 0 (Lib.countB s sep) s).map Value.string).toArray 9) := Any.strings_Split Tryz.lays146 (by kernel_rfl) s sep m w hs hm h1
def Tryz.lays155_ren : Go.Shelf.Ren := ⟨fun | 155 => 107 | 154 => 168 | 138 => 186 | 165 => 110 | 143 => 187 | 166 => 34 | 197 => 235 | 169 => 36 | 195 => 265 | 218 => 266 | 240 => 61 | 241 => 173 | 219 => 177 | 260 => 303 | 276 => 114 | 277 => 241 | 217 => 251 | 225 => 252 | 224 => 253 | 267 => 254 | 266 => 315 | 314 => 316 | n => n, fun | 9 => 9 | 3 => 3 | 4 => 4 | 72 => 89 | 0 => 0 | 76 => 95 | 105 => 319 | 21 => 21 | 5 => 5 | 70 => 86 | 20 => 20 | 37 => 87 | 75 => 94 | 127 => 142 | 164 => 199 | 46 => 183 | 119 => 405 | 139 => 408 | 138 => 407 | 146 => 381 | 51 => 255 | 80 => 36 | n => n, fun | 1 => 0 | 3 => 4 | 4 => 5 | n => n⟩
theorem Tryz.lays155 : Go.Proofs.Lays.n155 Tryz.prog Tryz.lays155_ren := {
 mixed := by kernel_rfl
 f138 := Tryz.func186.trans (congrArg some (by kernel_rfl))
 f143 := Tryz.func187.trans (congrArg some (by kernel_rfl))
 f154 := Tryz.func168.trans (congrArg some (by kernel_rfl))
 f155 := Tryz.func107.trans (congrArg some (by kernel_rfl))
 f165 := Tryz.func110.trans (congrArg some (by kernel_rfl))
 f166 := Tryz.func34.trans (congrArg some (by kernel_rfl))
 f169 := Tryz.func36.trans (congrArg some (by kernel_rfl))
 f195 := Tryz.func265.trans (congrArg some (by kernel_rfl))
 f197 := Tryz.func235.trans (congrArg some (by kernel_rfl))
 f217 := Tryz.func251.trans (congrArg some (by kernel_rfl))
 f218 := Tryz.func266.trans (congrArg some (by kernel_rfl))
 f219 := Tryz.func177.trans (congrArg some (by kernel_rfl))
 f224 := Tryz.func253.trans (congrArg some (by kernel_rfl))
 f225 := Tryz.func252.trans (congrArg some (by kernel_rfl))
 f240 := Tryz.func61.trans (congrArg some (by kernel_rfl))
 f241 := Tryz.func173.trans (congrArg some (by kernel_rfl))
 f260 := Tryz.func303.trans (congrArg some (by kernel_rfl))
 f266 := Tryz.func315.trans (congrArg some (by kernel_rfl))
 f267 := Tryz.func254.trans (congrArg some (by kernel_rfl))
 f276 := Tryz.func114.trans (congrArg some (by kernel_rfl))
 f277 := Tryz.func241.trans (congrArg some (by kernel_rfl))
 f314 := Tryz.func316.trans (congrArg some (by kernel_rfl))
 t0 := Tryz.underlying0
 a0 := Tryz.isAgg0
 z0 := Tryz.sizeOf0
 v0 := Tryz.zeroValue0
 t3 := Tryz.underlying3
 a3 := Tryz.isAgg3
 z3 := Tryz.sizeOf3
 v3 := Tryz.zeroValue3
 t4 := Tryz.underlying4
 a4 := Tryz.isAgg4
 z4 := Tryz.sizeOf4
 v4 := Tryz.zeroValue4
 t5 := Tryz.underlying5
 a5 := Tryz.isAgg5
 z5 := Tryz.sizeOf5
 v5 := Tryz.zeroValue5
 t9 := Tryz.underlying9
 a9 := Tryz.isAgg9
 z9 := Tryz.sizeOf9
 v9 := Tryz.zeroValue9
 t20 := Tryz.underlying20
 a20 := Tryz.isAgg20
 z20 := Tryz.sizeOf20
 v20 := Tryz.zeroValue20
 t21 := Tryz.underlying21
 a21 := Tryz.isAgg21
 z21 := Tryz.sizeOf21
 v21 := Tryz.zeroValue21
 t37 := Tryz.underlying87
 a37 := Tryz.isAgg87
 z37 := Tryz.sizeOf87
 v37 := Tryz.zeroValue87
 t46 := Tryz.underlying183
 a46 := Tryz.isAgg183
 z46 := Tryz.sizeOf183
 v46 := Tryz.zeroValue183
 t51 := Tryz.underlying255
 a51 := Tryz.isAgg255
 z51 := Tryz.sizeOf255
 v51 := Tryz.zeroValue255
 t70 := Tryz.underlying86
 a70 := Tryz.isAgg86
 z70 := Tryz.sizeOf86
 v70 := Tryz.zeroValue86
 t72 := Tryz.underlying89
 a72 := Tryz.isAgg89
 z72 := Tryz.sizeOf89
 v72 := Tryz.zeroValue89
 t75 := Tryz.underlying94
 a75 := Tryz.isAgg94
 z75 := Tryz.sizeOf94
 v75 := Tryz.zeroValue94
 t76 := Tryz.underlying95
 a76 := Tryz.isAgg95
 z76 := Tryz.sizeOf95
 v76 := Tryz.zeroValue95
 t105 := Tryz.underlying319
 a105 := Tryz.isAgg319
 z105 := Tryz.sizeOf319
 v105 := Tryz.zeroValue319
 t119 := Tryz.underlying405
 a119 := Tryz.isAgg405
 z119 := Tryz.sizeOf405
 t127 := Tryz.underlying142
 a127 := Tryz.isAgg142
 z127 := Tryz.sizeOf142
 v127 := Tryz.zeroValue142
 t138 := Tryz.underlying407
 a138 := Tryz.isAgg407
 z138 := Tryz.sizeOf407
 v138 := Tryz.zeroValue407
 t139 := Tryz.underlying408
 a139 := Tryz.isAgg408
 z139 := Tryz.sizeOf408
 v139 := Tryz.zeroValue408
 t146 := Tryz.underlying381
 a146 := Tryz.isAgg381
 z146 := Tryz.sizeOf381
 v146 := Tryz.zeroValue381
 t164 := Tryz.underlying199
 a164 := Tryz.isAgg199
 z164 := Tryz.sizeOf199
 v164 := Tryz.zeroValue199
 g1 := by kernel_rfl
 g3 := by kernel_rfl
 g4 := by kernel_rfl }
theorem Tryz.Builder_Extra_155 : Builder.Extra Tryz.prog Tryz.lays155_ren := {
 sizeBuilder := by kernel_rfl
 liesBuilder := by kernel_rfl
 t5 := Tryz.underlying5
 a5 := Tryz.isAgg5
 z5 := Tryz.sizeOf5
 v5 := Tryz.zeroValue5
 infoByte := by kernel_rfl
 cellsByte := by kernel_rfl
 sizeByte := by kernel_rfl
 neB5 := by decide }
open Go.RowKit Go.Lib in
theorem Tryz.strings_ReplaceAll (s old new : ByteArray) (m : Int) (w : World) (hs : s.size < 4294967281) (hm : w.cell? ⟨0, 0, none⟩ = some (.int .i64 m)) (h1 : 1 ≤ old.size) (hlen : s.size + Lib.countB s old * new.size ≤ 140737488355328) :
  Calls Tryz.prog 107 #[.string s, .string old, .string new] w fun e w' =>
   e = .returned (.string ⟨(Lib.replaceAll s.data.toList old.data.toList new.data.toList).toArray⟩) ∧ Below w.heap.size w w' := Any.strings_ReplaceAll Tryz.lays155 Tryz.Builder_Extra_155 s old new m w hs hm h1 hlen
def Tryz.lays153_ren : Go.Shelf.Ren := ⟨fun | 153 => 319 | 152 => 359 | 226 => 360 | 227 => 361 | 228 => 362 | 137 => 320 | 119 => 396 | 224 => 253 | 225 => 252 | 217 => 251 | 266 => 315 | n => n, fun | 9 => 9 | 3 => 3 | 4 => 4 | 5 => 5 | 21 => 21 | 117 => 416 | 116 => 415 | 0 => 0 | 46 => 183 | 124 => 445 | n => n, fun | n => n⟩
theorem Tryz.lays153 : Go.Proofs.Lays.n153 Tryz.prog Tryz.lays153_ren := {
 mixed := by kernel_rfl
 f119 := Tryz.func396.trans (congrArg some (by kernel_rfl))
 f137 := Tryz.func320.trans (congrArg some (by kernel_rfl))
 f152 := Tryz.func359.trans (congrArg some (by kernel_rfl))
 f153 := Tryz.func319.trans (congrArg some (by kernel_rfl))
 f217 := Tryz.func251.trans (congrArg some (by kernel_rfl))
 f224 := Tryz.func253.trans (congrArg some (by kernel_rfl))
 f225 := Tryz.func252.trans (congrArg some (by kernel_rfl))
 f226 := Tryz.func360.trans (congrArg some (by kernel_rfl))
 f227 := Tryz.func361.trans (congrArg some (by kernel_rfl))
 f228 := Tryz.func362.trans (congrArg some (by kernel_rfl))
 f266 := Tryz.func315.trans (congrArg some (by kernel_rfl))
 t0 := Tryz.underlying0
 a0 := Tryz.isAgg0
 z0 := Tryz.sizeOf0
 v0 := Tryz.zeroValue0
 t3 := Tryz.underlying3
 a3 := Tryz.isAgg3
 z3 := Tryz.sizeOf3
 v3 := Tryz.zeroValue3
 t4 := Tryz.underlying4
 a4 := Tryz.isAgg4
 z4 := Tryz.sizeOf4
 v4 := Tryz.zeroValue4
 t5 := Tryz.underlying5
 a5 := Tryz.isAgg5
 z5 := Tryz.sizeOf5
 v5 := Tryz.zeroValue5
 t9 := Tryz.underlying9
 a9 := Tryz.isAgg9
 z9 := Tryz.sizeOf9
 v9 := Tryz.zeroValue9
 t21 := Tryz.underlying21
 a21 := Tryz.isAgg21
 z21 := Tryz.sizeOf21
 v21 := Tryz.zeroValue21
 t46 := Tryz.underlying183
 a46 := Tryz.isAgg183
 z46 := Tryz.sizeOf183
 v46 := Tryz.zeroValue183
 t116 := Tryz.underlying415
 a116 := Tryz.isAgg415
 z116 := Tryz.sizeOf415
 t117 := Tryz.underlying416
 a117 := Tryz.isAgg416
 z117 := Tryz.sizeOf416
 v117 := Tryz.zeroValue416
 t124 := Tryz.underlying445
 a124 := Tryz.isAgg445
 z124 := Tryz.sizeOf445
 v124 := Tryz.zeroValue445 }
open Go.RowKit Go.Lib in
theorem Tryz.strings_IndexAny_laid (s chars : ByteArray) (w : World) (hs : s.size < 4294967281) (hcs : chars.size < 4294967281) (has : ∀ (j : Nat) b, s.data.toList[j]? = some b → b.toNat < 128) (hac : ∀ (j : Nat) b, chars.data.toList[j]? = some b → b.toNat < 128) :
  Calls Tryz.prog 319 #[.string s, .string chars] w fun e w' => e = .returned (.int .i64 (Lib.indexAny s.data.toList chars.data.toList)) ∧ Below w.heap.size w w' := Any.strings_IndexAny_laid Tryz.lays153 (by kernel_rfl) s chars w hs hcs has hac
def Tryz.laysNm215_ren : Go.Shelf.Ren := ⟨fun | 15 => 98 | n => n, fun | 22 => 28 | 3 => 3 | 4 => 4 | n => n, fun | n => n⟩
theorem Tryz.laysNm215 : Go.Proofs.Lays2.n15 Tryz.prog Tryz.laysNm215_ren := {
 mixed := by kernel_rfl
 f15 := Tryz.func98.trans (congrArg some (by kernel_rfl))
 t3 := Tryz.underlying3
 a3 := Tryz.isAgg3
 z3 := Tryz.sizeOf3
 v3 := Tryz.zeroValue3
 t4 := Tryz.underlying4
 a4 := Tryz.isAgg4
 z4 := Tryz.sizeOf4
 v4 := Tryz.zeroValue4
 t22 := Tryz.underlying28
 a22 := Tryz.isAgg28
 z22 := Tryz.sizeOf28
 v22 := Tryz.zeroValue28
 i3 := by kernel_rfl }
open Go.RowKit Go.Lib in
theorem Tryz.slices_Clone_int (b off n c : Nat) (zs : List Int) (w : World) (hz : n ≤ zs.length) (hbig : n * 8 ≤ 140737488355328) (hc : ∀ j, j < zs.length → w.cell? ⟨b, off + j, none⟩ = some (.int .i64 (zs.getD j 0))) :
  Calls Tryz.prog 98 #[.slice (some ⟨b, off, none⟩) n c] w fun e w' => ∃ v', e = .returned v' ∧ w'.ownsRow w.heap.size 3 1 v' n ((zs.take n).map (Value.int .i64)) ∧ v' ≠ .slice none 0 0 ∧ Below w.heap.size w w' := Any.slices_Clone_int Tryz.laysNm215 b off n c zs w hz hbig hc
open Go.RowKit Go.Lib in
theorem Tryz.slices_Clone_int_nil (n c : Nat) (w : World) :
  Calls Tryz.prog 98 #[.slice none n c] w fun e w' => e = .returned (.slice none 0 0) ∧ w' = w := Any.slices_Clone_int_nil Tryz.laysNm215 n c w
def Tryz.laysNm216_ren : Go.Shelf.Ren := ⟨fun | 16 => 163 | n => n, fun | 24 => 58 | 9 => 9 | 4 => 4 | n => n, fun | n => n⟩
theorem Tryz.laysNm216 : Go.Proofs.Lays2.n16 Tryz.prog Tryz.laysNm216_ren := {
 mixed := by kernel_rfl
 f16 := Tryz.func163.trans (congrArg some (by kernel_rfl))
 t4 := Tryz.underlying4
 a4 := Tryz.isAgg4
 z4 := Tryz.sizeOf4
 v4 := Tryz.zeroValue4
 t9 := Tryz.underlying9
 a9 := Tryz.isAgg9
 z9 := Tryz.sizeOf9
 v9 := Tryz.zeroValue9
 t24 := Tryz.underlying58
 a24 := Tryz.isAgg58
 z24 := Tryz.sizeOf58
 v24 := Tryz.zeroValue58
 i9 := by kernel_rfl }
open Go.RowKit Go.Lib in
theorem Tryz.slices_Clone_string_nil (n c : Nat) (w : World) :
  Calls Tryz.prog 163 #[.slice none n c] w fun e w' => e = .returned (.slice none 0 0) ∧ w' = w := Any.slices_Clone_string_nil Tryz.laysNm216 n c w
open Go.RowKit Go.Lib in
theorem Tryz.slices_Clone_int_zero (a : Addr) (c : Nat) (w : World) :
  Calls Tryz.prog 98 #[.slice (some a) 0 c] w fun e w' => ∃ v', e = .returned v' ∧ w'.ownsRow w.heap.size 3 1 v' 0 [] ∧ v' ≠ .slice none 0 0 ∧ Below w.heap.size w w' := Any.slices_Clone_int_zero Tryz.laysNm215 a c w
open Go.RowKit Go.Lib in
theorem Tryz.slices_Clone_string_zero (a : Addr) (c : Nat) (w : World) :
  Calls Tryz.prog 163 #[.slice (some a) 0 c] w fun e w' => ∃ v', e = .returned v' ∧ w'.ownsRow w.heap.size 9 1 v' 0 [] ∧ v' ≠ .slice none 0 0 ∧ Below w.heap.size w w' := Any.slices_Clone_string_zero Tryz.laysNm216 a c w
def Tryz.lays189_ren : Go.Shelf.Ren := ⟨fun | 189 => 46 | 125 => 95 | 257 => 94 | 128 => 161 | 129 => 162 | 294 => 152 | 295 => 153 | 296 => 154 | 297 => 155 | 298 => 156 | 299 => 157 | 216 => 158 | 300 => 159 | 301 => 160 | 328 => 223 | 329 => 224 | 330 => 225 | 331 => 226 | 332 => 227 | 215 => 228 | 343 => 298 | n => n, fun | 28 => 28 | 3 => 3 | 46 => 183 | 0 => 0 | 51 => 255 | 53 => 257 | 4 => 4 | 183 => 249 | 182 => 248 | 131 => 105 | 5 => 5 | 9 => 9 | 218 => 308 | 222 => 312 | 228 => 371 | 229 => 372 | n => n, fun | n => n⟩
theorem Tryz.lays189 : Go.Proofs.Lays.n189 Tryz.prog Tryz.lays189_ren := {
 mixed := by kernel_rfl
 f125 := Tryz.func95.trans (congrArg some (by kernel_rfl))
 f128 := Tryz.func161.trans (congrArg some (by kernel_rfl))
 f129 := Tryz.func162.trans (congrArg some (by kernel_rfl))
 f189 := Tryz.func46.trans (congrArg some (by kernel_rfl))
 f215 := Tryz.func228.trans (congrArg some (by kernel_rfl))
 f216 := Tryz.func158.trans (congrArg some (by kernel_rfl))
 f257 := Tryz.func94.trans (congrArg some (by kernel_rfl))
 f294 := Tryz.func152.trans (congrArg some (by kernel_rfl))
 f295 := Tryz.func153.trans (congrArg some (by kernel_rfl))
 f296 := Tryz.func154.trans (congrArg some (by kernel_rfl))
 f297 := Tryz.func155.trans (congrArg some (by kernel_rfl))
 f298 := Tryz.func156.trans (congrArg some (by kernel_rfl))
 f299 := Tryz.func157.trans (congrArg some (by kernel_rfl))
 f300 := Tryz.func159.trans (congrArg some (by kernel_rfl))
 f301 := Tryz.func160.trans (congrArg some (by kernel_rfl))
 f328 := Tryz.func223.trans (congrArg some (by kernel_rfl))
 f329 := Tryz.func224.trans (congrArg some (by kernel_rfl))
 f330 := Tryz.func225.trans (congrArg some (by kernel_rfl))
 f331 := Tryz.func226.trans (congrArg some (by kernel_rfl))
 f332 := Tryz.func227.trans (congrArg some (by kernel_rfl))
 f343 := Tryz.func298.trans (congrArg some (by kernel_rfl))
 t0 := Tryz.underlying0
 a0 := Tryz.isAgg0
 z0 := Tryz.sizeOf0
 v0 := Tryz.zeroValue0
 t3 := Tryz.underlying3
 a3 := Tryz.isAgg3
 z3 := Tryz.sizeOf3
 v3 := Tryz.zeroValue3
 t4 := Tryz.underlying4
 a4 := Tryz.isAgg4
 z4 := Tryz.sizeOf4
 v4 := Tryz.zeroValue4
 t5 := Tryz.underlying5
 a5 := Tryz.isAgg5
 z5 := Tryz.sizeOf5
 v5 := Tryz.zeroValue5
 t9 := Tryz.underlying9
 a9 := Tryz.isAgg9
 z9 := Tryz.sizeOf9
 v9 := Tryz.zeroValue9
 t28 := Tryz.underlying28
 a28 := Tryz.isAgg28
 z28 := Tryz.sizeOf28
 v28 := Tryz.zeroValue28
 t46 := Tryz.underlying183
 a46 := Tryz.isAgg183
 z46 := Tryz.sizeOf183
 v46 := Tryz.zeroValue183
 t51 := Tryz.underlying255
 a51 := Tryz.isAgg255
 z51 := Tryz.sizeOf255
 v51 := Tryz.zeroValue255
 t53 := Tryz.underlying257
 a53 := Tryz.isAgg257
 z53 := Tryz.sizeOf257
 v53 := Tryz.zeroValue257
 t131 := Tryz.underlying105
 a131 := Tryz.isAgg105
 z131 := Tryz.sizeOf105
 v131 := Tryz.zeroValue105
 t182 := Tryz.underlying248
 a182 := Tryz.isAgg248
 z182 := Tryz.sizeOf248
 v182 := Tryz.zeroValue248
 t183 := Tryz.underlying249
 a183 := Tryz.isAgg249
 z183 := Tryz.sizeOf249
 v183 := Tryz.zeroValue249
 t218 := Tryz.underlying308
 a218 := Tryz.isAgg308
 z218 := Tryz.sizeOf308
 v218 := Tryz.zeroValue308
 t222 := Tryz.underlying312
 a222 := Tryz.isAgg312
 z222 := Tryz.sizeOf312
 v222 := Tryz.zeroValue312
 t228 := Tryz.underlying371
 a228 := Tryz.isAgg371
 z228 := Tryz.sizeOf371
 v228 := Tryz.zeroValue371
 t229 := Tryz.underlying372
 a229 := Tryz.isAgg372
 z229 := Tryz.sizeOf372
 v229 := Tryz.zeroValue372 }
open Go.RowKit Go.Sort in
theorem Tryz.slices_Sort_int_none (p : Option Addr) (cap : Nat) (w : World) :
  Calls Tryz.prog 46 #[.slice p 0 cap] w fun e w' => e = .returned (.tuple #[]) ∧ w' = w := Any.slices_Sort_int_none Tryz.lays189 p cap w
def Tryz.laysSlM5_f46_ren : Go.Shelf.Ren := ⟨fun | 5 => 46 | 8 => 95 | 7 => 94 | 19 => 161 | 20 => 162 | 10 => 152 | 11 => 153 | 12 => 154 | 13 => 155 | 14 => 156 | 15 => 157 | 16 => 158 | 17 => 159 | 18 => 160 | 30 => 223 | 31 => 224 | 32 => 225 | 33 => 226 | 34 => 227 | 35 => 228 | 40 => 298 | n => n, fun | 23 => 28 | 25 => 3 | 3 => 3 | 32 => 183 | 22 => 28 | 0 => 0 | 44 => 255 | 46 => 257 | 4 => 4 | 36 => 249 | 35 => 248 | 41 => 105 | 5 => 5 | 9 => 9 | 53 => 308 | 57 => 312 | 63 => 371 | 64 => 372 | n => n, fun | n => n⟩
theorem Tryz.laysSlM5_f46 : Go.Proofs.SlLaysM.n5 Tryz.prog Tryz.laysSlM5_f46_ren := {
 mixed := by kernel_rfl
 f5 := ⟨Tryz.f46.name, by decide, Tryz.func46.trans (congrArg some (by kernel_rfl))⟩
 f7 := ⟨Tryz.f94.name, by decide, Tryz.func94.trans (congrArg some (by kernel_rfl))⟩
 f8 := Tryz.func95.trans (congrArg some (by kernel_rfl))
 f10 := ⟨Tryz.f152.name, by decide, Tryz.func152.trans (congrArg some (by kernel_rfl))⟩
 f11 := ⟨Tryz.f153.name, by decide, Tryz.func153.trans (congrArg some (by kernel_rfl))⟩
 f12 := ⟨Tryz.f154.name, by decide, Tryz.func154.trans (congrArg some (by kernel_rfl))⟩
 f13 := ⟨Tryz.f155.name, by decide, Tryz.func155.trans (congrArg some (by kernel_rfl))⟩
 f14 := ⟨Tryz.f156.name, by decide, Tryz.func156.trans (congrArg some (by kernel_rfl))⟩
 f15 := ⟨Tryz.f157.name, by decide, Tryz.func157.trans (congrArg some (by kernel_rfl))⟩
 f16 := ⟨Tryz.f158.name, by decide, Tryz.func158.trans (congrArg some (by kernel_rfl))⟩
 f17 := ⟨Tryz.f159.name, by decide, Tryz.func159.trans (congrArg some (by kernel_rfl))⟩
 f18 := ⟨Tryz.f160.name, by decide, Tryz.func160.trans (congrArg some (by kernel_rfl))⟩
 f19 := Tryz.func161.trans (congrArg some (by kernel_rfl))
 f20 := Tryz.func162.trans (congrArg some (by kernel_rfl))
 f30 := ⟨Tryz.f223.name, by decide, Tryz.func223.trans (congrArg some (by kernel_rfl))⟩
 f31 := Tryz.func224.trans (congrArg some (by kernel_rfl))
 f32 := Tryz.func225.trans (congrArg some (by kernel_rfl))
 f33 := ⟨Tryz.f226.name, by decide, Tryz.func226.trans (congrArg some (by kernel_rfl))⟩
 f34 := ⟨Tryz.f227.name, by decide, Tryz.func227.trans (congrArg some (by kernel_rfl))⟩
 f35 := ⟨Tryz.f228.name, by decide, Tryz.func228.trans (congrArg some (by kernel_rfl))⟩
 f40 := ⟨Tryz.f298.name, by decide, Tryz.func298.trans (congrArg some (by kernel_rfl))⟩
 t0 := Tryz.underlying0
 a0 := Tryz.isAgg0
 z0 := Tryz.sizeOf0
 v0 := Tryz.zeroValue0
 t3 := Tryz.underlying3
 a3 := Tryz.isAgg3
 z3 := Tryz.sizeOf3
 v3 := Tryz.zeroValue3
 t4 := Tryz.underlying4
 a4 := Tryz.isAgg4
 z4 := Tryz.sizeOf4
 v4 := Tryz.zeroValue4
 t5 := Tryz.underlying5
 a5 := Tryz.isAgg5
 z5 := Tryz.sizeOf5
 v5 := Tryz.zeroValue5
 t9 := Tryz.underlying9
 a9 := Tryz.isAgg9
 z9 := Tryz.sizeOf9
 v9 := Tryz.zeroValue9
 t22 := Tryz.underlying28
 a22 := Tryz.isAgg28
 z22 := Tryz.sizeOf28
 v22 := Tryz.zeroValue28
 t23 := Tryz.underlying28
 a23 := Tryz.isAgg28
 z23 := Tryz.sizeOf28
 v23 := Tryz.zeroValue28
 t25 := Tryz.underlying3
 a25 := Tryz.isAgg3
 z25 := Tryz.sizeOf3
 v25 := Tryz.zeroValue3
 t32 := Tryz.underlying183
 a32 := Tryz.isAgg183
 z32 := Tryz.sizeOf183
 v32 := Tryz.zeroValue183
 t35 := Tryz.underlying248
 a35 := Tryz.isAgg248
 z35 := Tryz.sizeOf248
 v35 := Tryz.zeroValue248
 t36 := Tryz.underlying249
 a36 := Tryz.isAgg249
 z36 := Tryz.sizeOf249
 v36 := Tryz.zeroValue249
 t41 := Tryz.underlying105
 a41 := Tryz.isAgg105
 z41 := Tryz.sizeOf105
 v41 := Tryz.zeroValue105
 t44 := Tryz.underlying255
 a44 := Tryz.isAgg255
 z44 := Tryz.sizeOf255
 v44 := Tryz.zeroValue255
 t46 := Tryz.underlying257
 a46 := Tryz.isAgg257
 z46 := Tryz.sizeOf257
 v46 := Tryz.zeroValue257
 t53 := Tryz.underlying308
 a53 := Tryz.isAgg308
 z53 := Tryz.sizeOf308
 v53 := Tryz.zeroValue308
 t57 := Tryz.underlying312
 a57 := Tryz.isAgg312
 z57 := Tryz.sizeOf312
 v57 := Tryz.zeroValue312
 t63 := Tryz.underlying371
 a63 := Tryz.isAgg371
 z63 := Tryz.sizeOf371
 v63 := Tryz.zeroValue371
 t64 := Tryz.underlying372
 a64 := Tryz.isAgg372
 z64 := Tryz.sizeOf372
 v64 := Tryz.zeroValue372 }
open Go.Sort Go.RowKit in
theorem Tryz.slices_Sort_int (blk off cap : Nat) (zs : List Int) (w : World) (hH : Holds (Value.int .i64) w blk off zs.toArray) (hblk : blk < w.heap.size) (hsz : zs.length < 4611686018427387904) :
  Calls Tryz.prog 46 #[.slice (some ⟨blk, off, none⟩) zs.length cap] w fun e w' =>
   e = .returned (.tuple #[]) ∧ ∃ n os, w' = grow (putRow (Value.int .i64) (Sort.ahead w n) blk off (zs.mergeSort fun x y => decide (x ≤ y)).toArray) os := AnyM.slices_Sort_int Tryz.laysSlM5_f46 blk off cap zs w hH hblk hsz
end Go.Proofs
namespace Go.Proofs.YtclaplngjmgnoaaGreatDoor
open Go.RowKit Go.V
open Go.Sort (grow)
open Go.Eng (inR byteAt u8 bytesV)
variable {g : Gv}
theorem sv_bool {a b : Bool} (h : a = b) : (SV.c (.d (.b a)) : SV) = .c (.d (.b b)) := by rw [h]
theorem spec_look {f : FuncId} {ins : List SV} {refs : OwnL} {out : SV} {post post' : OwnL} (h : SpG g f ins refs out post) (e : lookO post = lookO post') : SpG g f ins refs out post' := by
 unfold SpG V.Spec at *
 rw [← e]
 exact h
theorem noEsc_114 : NoEsc Tryz.prog 114 := ⟨_, Tryz.func114, by kernel_rfl, by kernel_rfl, by kernel_rfl, by kernel_rfl⟩
theorem getD_mem {α : Type} {l : List α} {k : Nat} {z : α} (h : k < l.length) : l.getD k z ∈ l := by simp [h]
def escC (c : UInt8) : List UInt8 := if c = 39 then [39, 39] else [c]
def escL (l : List UInt8) : List UInt8 := l.flatMap escC
def zq0 := And.intro @List.length_append.{0} (@List.length_cons.{0})
theorem escL_len : ∀ (l : List UInt8), (escL l).length ≤ 2 * l.length
 | [] => by simp [escL]
 | c :: l => by
  have := escL_len l
  have h1 : (escC c).length ≤ 2 := by unfold escC; split <;> simp
  simp only [zq0, escL, List.flatMap_cons] at this ⊢
  omega
theorem S_cut (l : List UInt8) (a b : Nat) : (S l).extract a b = S ((l.take b).drop a) := by
 apply ByteArray.ext
 rw [ByteArray.data_extract]
 apply Array.ext'
 simp [S, List.drop_take, List.extract_eq_take_drop]
def joinL (sep : List UInt8) : List (List UInt8) → List UInt8
 | [] => []
 | [x] => x
 | x :: y :: r => x ++ sep ++ joinL sep (y :: r)
theorem joinL_snoc (sep : List UInt8) : ∀ (l : List (List UInt8)) (x : List UInt8), l ≠ [] → joinL sep (l ++ [x]) = joinL sep l ++ sep ++ x
 | [], x, h => absurd rfl h
 | [y], x, _ => by simp [joinL]
 | y :: z :: r, x, _ => by
  have := joinL_snoc sep (z :: r) x (by simp)
  simp only [List.cons_append, joinL] at this ⊢
  rw [this]
  simp
def sumL (sep : Nat) (l : List (List UInt8)) : Nat := (l.map fun x => x.length + sep).sum
theorem joinL_len (sep : List UInt8) : ∀ (l : List (List UInt8)), (joinL sep l).length ≤ sumL sep.length l
 | [] => by simp [joinL, sumL]
 | [x] => by simp [joinL, sumL]
 | x :: y :: r => by
  have := joinL_len sep (y :: r)
  simp only [joinL, sumL, List.map_cons, List.sum_cons, List.length_append] at this ⊢
  omega
theorem take_snoc {α : Type} (z : α) {l : List α} {k : Nat} (h : k < l.length) : l.take (k + 1) = l.take k ++ [l.getD k z] := by
 rw [List.take_add_one, List.getD_eq_getElem?_getD, List.getElem?_eq_getElem h]; rfl
theorem textsStep {α : Type} (z : α) {f : α → List UInt8} {l : List α} {k : Nat} (h : k < l.length) : strs ((l.take (k + 1)).map f) = strs ((l.take k).map f) ++ [[D.s (S (f (l.getD k z)))]] := by
 rw [take_snoc z h]; simp [strs, strD]
theorem strs_snoc (l : List (List UInt8)) (x : List UInt8) : strs (l ++ [x]) = strs l ++ [[D.s (S x)]] := by simp [strs, strD]
theorem S_sub (l : List UInt8) (i j : Nat) : (S l).extract i j = S ((l.take j).drop i) := by
 have : ((S l).extract i j).data = (S ((l.take j).drop i)).data := by simp [S, ByteArray.data_extract, List.drop_take]
 cases h1 : (S l).extract i j; cases h2 : S ((l.take j).drop i); rw [h1, h2] at this; simpa using this
theorem S_data (l : List UInt8) : (S l).data.toList = l := by simp [S]
theorem bytesD_app (a b : List UInt8) : bytesD (a ++ b) = bytesD a ++ bytesD b := by simp [bytesD]
theorem join_eq (sep : List UInt8) : ∀ l : List (List UInt8), Lib.join l sep = joinL sep l
 | [] => rfl
 | [x] => by simp [Lib.join, joinL, List.intercalate]
 | x :: y :: r => by
  have := join_eq sep (y :: r)
  simp only [Lib.join, joinL, List.intercalate, List.intersperse, List.flatten_cons] at this ⊢
  rw [this]
  simp
theorem join_ok (l : List (List UInt8)) (sep : List UInt8) (h : sumL sep.length l ≤ 1000000000) (hl : l.length ≤ 1000000) : SpG g 57 [.c (.d (.sl 1 (strs l))), .c (.d (.s (S sep)))] [] (.c (.d (.s (S (joinL sep l))))) [] := by
 intro fr w pl args hw hG m ha
 obtain ⟨v, r, rfl, h1, h2⟩ := ha.uncons
 obtain ⟨u, r', rfl, h3, h4⟩ := h2.uncons
 rw [h4.unnil]
 have hu : u = .string (S sep) := Rd.exact h3
 subst hu
 have fin : (Calls Tryz.prog 57 #[v, .string (S sep)] w fun e w' => e = .returned (.string (S (joinL sep l))) ∧ Below w.heap.size w w') → Calls Tryz.prog 57 [v, .string (S sep)].toArray w fun e w' => ∃ v pl', e = .returned v ∧ Mem fr (lookO []) w' pl' ∧ SvOk w' pl' (lookO []) (.c (.d (.s (S (joinL sep l))))) v := by
  intro hc
  refine Calls.mono hc ?_
  rintro e w' ⟨rfl, hb⟩
  obtain ⟨m', L⟩ := m.ext (w' := w') ⟨hb.os, hb.tape, hb.output, hb.size, fun k hk _ => hb.block k hk⟩
  exact ⟨_, pl, rfl, m', Rd.v _ rfl⟩
 refine fin ?_
 have h1 : Rd w (Sh pl (lookO [])) (.sl 1 (strs l)) v := h1
 generalize hes : strs l = es at h1
 cases h1 with
 | nil =>
  have : l = [] := by simpa [strs] using hes
  subst this
  exact (Tryz.strings_Join_none none 0 (S sep) w).mono fun _ _ ⟨a, b⟩ => ⟨a, by rw [b]; exact Below.refl _ _⟩
 | far _ ad =>
  have : l = [] := by simpa [strs] using hes
  subst this
  exact (Tryz.strings_Join_none (some ad) 0 (S sep) w).mono fun _ _ ⟨a, b⟩ => ⟨a, by rw [b]; exact Below.refl _ _⟩
 | sl us hF hb hc hm hs hu hr =>
  rename_i b off c cs e fz
  subst hes
  have hlen : (strs l).length = l.length := by simp [strs]
  have hj := joinL_len sep l
  have e1 : (l.map S).map (fun x : ByteArray => x.data.toList) = l := by
   rw [List.map_map]
   exact (List.map_congr_left fun x _ => by simp [S]).trans (List.map_id l)
  have e2 : (S sep).data.toList = sep := by simp [S]
  have := Tryz.strings_Join b off c (l.map S) (S sep) w (fun j x hx => by
    simp only [List.getElem?_map, Option.map_eq_some_iff] at hx
    obtain ⟨t, ht, rfl⟩ := hx
    have a1 : (strs l)[j]? = some [.s (S t)] := by simp [strs, strD, ht]
    have a2 := hu j 0 _ _ a1 rfl
    have a3 := Rd.exact (hr j 0 _ _ a1 rfl)
    rw [a3] at a2
    rw [Lib.cell_of_heap hb]
    simpa using a2) (Array.getElem?_eq_some_iff.1 hb).1 (by rw [List.length_map]; omega) (by rw [List.length_map, ← hlen]; exact hc) (by rw [e1, e2, join_eq]; omega)
  rw [e1, e2, join_eq, List.length_map] at this
  rw [hlen]
  exact this
theorem repl_eq : ∀ s : List UInt8, Lib.replaceK [39] [39, 39] (Lib.count s [39]) s = escL s
 | [] => by rw [Lib.count_one]; rfl
 | b :: l => by
  have ih := repl_eq l
  by_cases hb : b = 39
  ·subst hb
   rw [Lib.count_cons_eq, Nat.add_comm, Lib.replaceK_hit _ _ _ _ 0 (by simp [Lib.index, List.isPrefixOf])]
   simp [ih, escL, escC]
  ·rw [Lib.count_cons_ne _ _ _ hb]
   have e : escL (b :: l) = b :: escL l := by simp [escL, escC, hb]
   rw [e, ← ih]
   cases hn : Lib.count l [39] with
   | zero => rfl
   | succ k =>
    obtain ⟨i, hi⟩ := Lib.index_of_count (s := l) (old := [39]) (by omega)
    have hne : ¬ (39 : UInt8) = b := fun h => hb h.symm
    have hi2 : Lib.index (b :: l) [39] = ((i + 1 : Nat) : Int) := by
     simp only [Lib.index, List.isPrefixOf, hi]
     rw [if_neg (by simp [hne]), if_neg (by simp)]
     omega
    rw [Lib.replaceK_hit _ _ _ _ _ hi2, Lib.replaceK_hit _ _ _ _ _ hi]
    simp
theorem replaceAll_ok (s : List UInt8) (h : s.length ≤ 1000000) : SpG g 107 [.c (.d (.s (S s))), .c (.d (.s (S [39]))), .c (.d (.s (S [39, 39])))] [] (.c (.d (.s (S (escL s))))) [] := by
 refine spec_of (args := [.string (S s), .string (S [39]), .string (S [39, 39])]) rfl rfl rfl fun w hG => ?_
 obtain ⟨ty, fz, h0⟩ := hG 0 [.int .i64 g.maxLen] (by simp [Gl])
 have hc := Lib.countB_le (S [39]) (by decide) s.length (S s) (by rw [S_size]; omega)
 rw [S_size] at hc
 have := Tryz.strings_ReplaceAll (S s) (S [39]) (S [39, 39]) g.maxLen w (by rw [S_size]; omega) (by rw [Lib.cell_of_heap h0]; rfl) (by decide) (by
  have e : (S [39, 39]).size = 2 := rfl
  rw [S_size, e]; omega)
 have e1 : (S s).data.toList = s := by simp [S]
 have e2 : (S [39]).data.toList = [39] := by simp [S]
 have e3 : (S [39, 39]).data.toList = [39, 39] := by simp [S]
 rw [e1, e2, e3, Lib.replaceAll, Lib.replace, if_neg (by decide), Lib.replaceNum, if_pos (by omega), repl_eq] at this
 exact this
theorem join_es {es : List (List D)} {l : List (List UInt8)} (e : es = strs l) (sep : List UInt8) (h : sumL sep.length l ≤ 1000000000) (hl : l.length ≤ 1000000) : SpG g 57 [.c (.d (.sl 1 es)), .c (.d (.s (S sep)))] [] (.c (.d (.s (S (joinL sep l))))) [] := by
 subst e; exact join_ok l sep h hl
theorem below_grow (w : World) (q : Nat) (os : Array Obj) : Below w.heap.size w (grow (w.drewN q) os) :=
 ⟨rfl, rfl, rfl, by simp [grow, World.drewN], fun i hi => by
  show ((w.drewN q).heap ++ os)[i]? = _
  rw [Array.getElem?_append_left (by show i < w.heap.size; omega)]
  rfl⟩
theorem tab_of {w : World} (hG : ∀ b cs, (b, cs) ∈ Gl g → ∃ ty fz, w.heap[b]? = some (.cells cs.toArray ty fz)) : Lib.TabIs Tryz.prog w "internal/strconv.uint64pow10" .u64 Lib.pow10Tab := by
 obtain ⟨ty, fz, h⟩ := hG 3 (powL.map (Value.int .u64)) (by simp [Gl])
 have hn : Tryz.prog.globalNamed "internal/strconv.uint64pow10" = some 3 := by kernel_rfl
 unfold Lib.TabIs World.var?
 rw [hn]
 simp only [Option.bind_some, h]
 rfl
theorem itoa_ok (n : Int) (h0 : -9223372036854775808 ≤ n) (h1 : n ≤ 9223372036854775807) : SpG g 55 [.c (.d (.i n))] [] (.c (.d (.s (S (Lib.itoa n))))) [] := by
 refine spec_of (args := [.int .i64 n]) rfl rfl rfl fun w hG => ?_
 have h := Tryz.strconv_Itoa n h0 h1 w (tab_of hG)
 refine h.mono ?_
 rintro e w' ⟨rfl, k, os, rfl⟩
 exact ⟨rfl, below_grow _ _ _⟩
def nOk (n : Int) : Prop := -1000000000000 ≤ n ∧ n ≤ 1000000000000
def isDg (c : UInt8) : Bool := decide (48 ≤ c.toNat) && decide (c.toNat ≤ 57)
theorem dg_digit {i : Nat} (h : i < 10) : isDg (UInt8.ofNat (48 + i)) = true ∧ Lib.digitVal (UInt8.ofNat (48 + i)) = some i := by
 have : ∀ j : Fin 10, isDg (UInt8.ofNat (48 + j.val)) = true ∧ Lib.digitVal (UInt8.ofNat (48 + j.val)) = some j.val := by decide
 exact this ⟨i, h⟩
theorem dec_all (u : Nat) : (Lib.decDigits u).all isDg = true ∧ Lib.decDigits u ≠ [] := by
 induction u using Nat.strongRecOn with
 | ind u ih =>
  rw [Lib.decDigits]
  by_cases h : u < 10
  ·rw [dif_pos h, List.all_cons, (dg_digit h).1]; simp
  ·rw [dif_neg h, List.all_append, (ih (u / 10) (by omega)).1]
   rw [List.all_cons, (dg_digit (show u % 10 < 10 by omega)).1]; simp
theorem decFrom_app : ∀ (a : List UInt8) (acc m : Nat) (b : List UInt8), Lib.decFrom acc a = some m → Lib.decFrom acc (a ++ b) = Lib.decFrom m b
 | [], acc, m, b, h => by simp only [Lib.decFrom, Option.some.injEq] at h; subst h; rfl
 | c :: a, acc, m, b, h => by
  simp only [List.cons_append, Lib.decFrom] at h ⊢
  cases hd : Lib.digitVal c with
  | none => rw [hd] at h; cases h
  | some d => rw [hd] at h; exact decFrom_app a _ m b h
theorem decFrom_dec (u : Nat) : Lib.decFrom 0 (Lib.decDigits u) = some u := by
 induction u using Nat.strongRecOn with
 | ind u ih =>
  rw [Lib.decDigits]
  by_cases h : u < 10
  ·rw [dif_pos h]
   simp only [Lib.decFrom, (dg_digit h).2]; simp
  ·rw [dif_neg h, decFrom_app _ 0 _ _ (ih (u / 10) (by omega))]
   simp only [Lib.decFrom, (dg_digit (show u % 10 < 10 by omega)).2]
   congr 1; omega
theorem decNat_dec (u : Nat) : Lib.decNat (Lib.decDigits u) = some u := by
 have h := (dec_all u).2
 have h2 := decFrom_dec u
 unfold Lib.decNat
 split
 ·rename_i e; exact absurd (List.isEmpty_iff.1 e) h
 ·exact h2
def zq1 := And.intro @List.length_append.{0} (And.intro @List.length_cons.{0} (@List.length_nil.{0}))
theorem dec_len {u : Nat} {k : Nat} (h : u < 10 ^ k) (hk : 1 ≤ k) : (Lib.decDigits u).length ≤ k := by
 induction k generalizing u with
 | zero => omega
 | succ k ih =>
  rw [Lib.decDigits]
  by_cases h1 : u < 10
  ·rw [dif_pos h1]; simp
  ·rw [dif_neg h1]
   have hk1 : 1 ≤ k := by
    rcases Nat.eq_zero_or_pos k with rfl | hp
    ·simp at h; omega
    ·exact hp
   have := ih (u := u / 10) (by rw [Nat.pow_succ] at h; omega) hk1
   simp only [zq1]; omega
theorem isDg_ne {c : UInt8} (h : isDg c = true) : ¬ c = 45 ∧ ¬ c = 43 ∧ ¬ c = 32 ∧ ¬ c = 58 ∧ ¬ c = 44 := by
 refine ⟨?_, ?_, ?_, ?_, ?_⟩ <;> rintro rfl <;> simp [isDg] at h
theorem itoa_len {n : Int} (h : nOk n) : (Lib.itoa n).length ≤ 14 := by
 unfold Lib.itoa
 obtain ⟨h0, h1⟩ := h
 split
 ·have := dec_len (u := n.natAbs) (k := 13) (by omega) (by decide)
  simp only [List.length_cons]; omega
 ·have := dec_len (u := n.toNat) (k := 13) (by omega) (by decide)
  omega
theorem itoa_not {n : Int} {c : UInt8} (hc : c = 32 ∨ c = 58 ∨ c = 44) : ∀ x, x ∈ Lib.itoa n → ¬ x = c := by
 have go : ∀ u, ∀ x, x ∈ Lib.decDigits u → ¬ x = c := by
  intro u x hx
  have := isDg_ne (List.all_eq_true.1 (dec_all u).1 x hx)
  rcases hc with rfl | rfl | rfl
  ·exact this.2.2.1
  ·exact this.2.2.2.1
  ·exact this.2.2.2.2
 intro x hx
 unfold Lib.itoa at hx
 split at hx
 ·rcases List.mem_cons.1 hx with rfl | hx
  ·rcases hc with rfl | rfl | rfl <;> decide
  ·exact go _ x hx
 ·exact go _ x hx
theorem itoa_ne (n : Int) : Lib.itoa n ≠ [] := by
 unfold Lib.itoa
 split
 ·simp
 ·exact (dec_all _).2
theorem atoi_itoa {n : Int} (h : nOk n) : Lib.atoiAll (Lib.itoa n) = .ok n := by
 rw [Lib.atoiAll_short _ (by have := itoa_len h; omega)]
 have e : Lib.atoi (Lib.itoa n) = some n := by
  unfold Lib.itoa
  split
  ·rename_i hn
   simp only [Lib.atoi, decNat_dec]
   simp; omega
  ·rename_i hn
   have hd := dec_all n.toNat
   have h3 := decNat_dec n.toNat
   generalize Lib.decDigits n.toNat = l at *
   cases l with
   | nil => exact absurd rfl hd.2
   | cons c r =>
    have hc := isDg_ne (List.all_eq_true.1 hd.1 c (by simp))
    simp only [Lib.atoi]
    have h45 : (c == 45) = false := by simpa using hc.1
    have h43 : (c == 43) = false := by simpa using hc.2.1
    rw [h45, h43]
    simp [h3]; omega
 rw [e]; rfl
theorem atoi_num (n : Int) (h : nOk n) : SpG g 68 [.c (.d (.s (S (Lib.itoa n))))] [] (.tup [(false, [.d (.i n)]), (false, [.d (.v .nilIface)])]) [] := by
 refine spec_of (args := [.string (S (Lib.itoa n))]) rfl rfl rfl fun w hG => ?_
 refine (Tryz.strconv_Atoi_ok (S (Lib.itoa n)) (by rw [S_size]; have := itoa_len h; omega) n (by rw [S_data]; exact atoi_itoa h) w).mono ?_
 rintro e w' ⟨rfl, hb⟩
 refine ⟨rfl, ?_⟩
 rcases hb with rfl | ⟨t, rfl⟩
 ·exact Below.refl _ _
 ·exact ⟨rfl, rfl, rfl, by rw [Lib.bytesWorld_size]; omega, fun j hj => Lib.bytesWorld_at_old w 5 t j hj⟩
theorem S_dat (l : List UInt8) : (S l).data.toList = l := by simp [S]
theorem drewN_bel (w : World) (n : Nat) : Below w.heap.size w (w.drewN n) := ⟨rfl, rfl, rfl, Nat.le_refl _, fun _ _ => rfl⟩
theorem cutPrefix_ok (s p : List UInt8) : SpG g 65 [.c (.d (.s (S s))), .c (.d (.s (S p)))] [] (.tup [(false, [.d (.s (S (Lib.trimPrefix s p)))]), (false, [.d (.b (Lib.hasPrefix s p))])]) [] := by
 refine of_exact (args := [.string (S s), .string (S p)]) rfl rfl rfl fun w => ?_
 have := Tryz.strings_CutPrefix (S s) (S p) w
 rw [S_dat, S_dat] at this
 exact this.mono fun _ _ ⟨a, b⟩ => ⟨a, b.symm⟩
theorem cut_ok' (s p : List UInt8) (hs : s.length < 4294967281) : SpG g 67 [.c (.d (.s (S s))), .c (.d (.s (S p)))] [] (.tup [(false, [.d (.s (S (Lib.cut s p).1))]), (false, [.d (.s (S (Lib.cut s p).2.1))]), (false, [.d (.b (Lib.cut s p).2.2)])]) [] := by
 refine spec_of (args := [.string (S s), .string (S p)]) rfl rfl rfl fun w hG => ?_
 obtain ⟨ty, fz, h0⟩ := hG 0 [.int .i64 g.maxLen] (by simp [Gl])
 have := Tryz.strings_Cut (S s) (S p) g.maxLen w (by rw [S_size]; omega) (by rw [Lib.cell_of_heap h0]; rfl)
 rw [S_dat, S_dat] at this
 exact this.mono fun _ _ ⟨x, n, y⟩ => ⟨x, by rw [y]; exact drewN_bel _ _⟩
theorem index_skip {l r : List UInt8} {c : UInt8} (h : ∀ x, x ∈ l → ¬ x = c) : Lib.index (l ++ c :: r) [c] = (l.length : Int) := by
 induction l with
 | nil => simp [Lib.index, List.isPrefixOf]
 | cons x l ih =>
  have h1 := ih (fun y hy => h y (by simp [hy]))
  have h2 : ¬ c = x := fun e => h x (by simp) e.symm
  have h3 : (c == x) = false := by simpa using h2
  simp only [List.cons_append, Lib.index, List.isPrefixOf, h3, Bool.false_and, h1]
  have h4 : ((l.length : Int) == -1) = false := by rw [beq_eq_false_iff_ne]; omega
  simp [h4]
theorem indexByte_ok (l : List UInt8) (c : Int) : SpG g 320 [.c (.d (.s (S l))), .c (.d (.y c))] [] (.c (.d (.i (Lib.indexByte l c.toNat.toUInt8)))) [] := by
 refine of_exact (args := [.string (S l), .int .u8 c]) rfl rfl rfl fun w => ?_
 have := Tryz.strings_IndexByte (S l) c w
 rw [S_dat] at this
 exact this.mono fun _ _ ⟨a, b⟩ => ⟨a, b.symm⟩
def seps : List UInt8 := [44, 59, 93, 124]
def nsep (c : UInt8) : Bool := !(c == 44 || c == 59 || c == 93 || c == 124)
def EndsW (r : List UInt8) : Prop := r = [] ∨ ∃ x t, r = x :: t ∧ nsep x = false
theorem takeWhile_all {α : Type} {p : α → Bool} {l r : List α} (h : l.all p = true) (hr : r = [] ∨ ∃ x t, r = x :: t ∧ p x = false) : (l ++ r).takeWhile p = l ∧ (l ++ r).dropWhile p = r := by
 induction l with
 | nil =>
  rcases hr with rfl | ⟨x, t, rfl, hx⟩
  ·simp
  ·simp [List.takeWhile_cons, List.dropWhile_cons, hx]
 | cons y l ih =>
  simp only [List.all_cons, Bool.and_eq_true] at h
  obtain ⟨h1, h2⟩ := ih h.2
  simp [List.takeWhile_cons, List.dropWhile_cons, h.1, h1, h2]
theorem word_take {w r : List UInt8} (h : w.all nsep = true) (hr : EndsW r) : (w ++ r).takeWhile nsep = w ∧ (w ++ r).dropWhile nsep = r := takeWhile_all h hr
def skipK (c : UInt8) : List UInt8 → Bool
 | x :: _ => decide (x = c)
 | [] => false
def skipR (c : UInt8) : List UInt8 → List UInt8
 | x :: r => if x = c then r else x :: r
 | [] => []
theorem skip_no {l : List UInt8} {c : UInt8} (h : l = [] ∨ ¬ byteAt (S l) 0 = (c.toNat : Int)) : skipK c l = false ∧ skipR c l = l := by
 cases l with
 | nil => exact ⟨rfl, rfl⟩
 | cons x r =>
  rcases h with h | h
  ·cases h
  ·have hx : ¬ x = c := by
    rintro rfl
    exact h (byteAt_S (x :: r) 0)
   exact ⟨by simp [skipK, hx], by simp [skipR, hx]⟩
theorem skip_yes {l : List UInt8} {c : UInt8} (h1 : ¬ l = []) (h : byteAt (S l) 0 = (c.toNat : Int)) : skipK c l = true ∧ skipR c l = l.drop 1 := by
 cases l with
 | nil => exact absurd rfl h1
 | cons x r =>
  have hx : x = c := by
   have e : byteAt (S (x :: r)) 0 = (x.toNat : Int) := byteAt_S (x :: r) 0
   rw [e] at h
   exact UInt8.toNat_inj.1 (by omega)
  exact ⟨by simp [skipK, hx], by simp [skipR, hx]⟩
theorem seps_nsep (c : UInt8) : seps.contains c = !(nsep c) := by
 simp only [seps, nsep, List.contains_cons, List.contains_nil, Bool.or_false]
 rw [Bool.eq_iff_iff]
 simp [or_assoc]
theorem indexAny_tw : ∀ (l : List UInt8), (Lib.indexAny l seps < 0 ∧ l.takeWhile nsep = l ∧ l.dropWhile nsep = []) ∨ (0 ≤ Lib.indexAny l seps ∧ Lib.indexAny l seps ≤ l.length ∧ l.takeWhile nsep = l.take (Lib.indexAny l seps).toNat ∧ l.dropWhile nsep = l.drop (Lib.indexAny l seps).toNat)
 | [] => .inl ⟨by decide, rfl, rfl⟩
 | c :: l => by
  have ih := indexAny_tw l
  have hc := seps_nsep c
  have hge := Lib.indexAny_ge seps l
  cases hn : nsep c with
  | false =>
   rw [hn] at hc
   have e : Lib.indexAny (c :: l) seps = 0 := by rw [Lib.indexAny, hc]; rfl
   right
   rw [e]
   refine ⟨Int.le_refl _, by omega, ?_, ?_⟩
   ·rw [List.takeWhile_cons, hn]; rfl
   ·rw [List.dropWhile_cons, hn]; rfl
  | true =>
   rw [hn] at hc
   rcases ih with ⟨h1, h2, h3⟩ | ⟨h1, h2, h3, h4⟩
   ·have h0 : Lib.indexAny l seps = -1 := by omega
    have e : Lib.indexAny (c :: l) seps = -1 := by rw [Lib.indexAny, hc, h0]; rfl
    left
    rw [e]
    exact ⟨by decide, by rw [List.takeWhile_cons, hn, if_pos rfl, h2], by rw [List.dropWhile_cons, hn, if_pos rfl, h3]⟩
   ·have h0 : (Lib.indexAny l seps == -1) = false := by rw [beq_eq_false_iff_ne]; omega
    have e : Lib.indexAny (c :: l) seps = Lib.indexAny l seps + 1 := by
     rw [Lib.indexAny, hc, h0]; rfl
    right
    rw [e, show (Lib.indexAny l seps + 1).toNat = (Lib.indexAny l seps).toNat + 1 by omega]
    refine ⟨by omega, by rw [List.length_cons]; omega, ?_, ?_⟩
    ·rw [List.takeWhile_cons, hn, if_pos rfl, h3]; rfl
    ·rw [List.dropWhile_cons, hn, if_pos rfl, h4]; rfl
def tqM : Nat → List UInt8 → List UInt8 → Bool × List UInt8 × List UInt8
 | 0, acc, r => (false, acc, r)
 | n + 1, acc, r =>
  if Lib.indexByte r 39 < 0 then (false, [], r)
  else if skipK 39 (r.drop ((Lib.indexByte r 39).toNat + 1)) then tqM n (acc ++ r.take (Lib.indexByte r 39).toNat ++ [39]) (skipR 39 (r.drop ((Lib.indexByte r 39).toNat + 1)))
  else (true, acc ++ r.take (Lib.indexByte r 39).toNat, r.drop ((Lib.indexByte r 39).toNat + 1))
theorem skipR_len (c : UInt8) (l : List UInt8) : (skipR c l).length ≤ l.length := by
 cases l with
 | nil => exact Nat.le_refl _
 | cons x r =>
  by_cases h : x = c
  ·simp [skipR, h]
  ·simp [skipR, h]
theorem skipR_no {c : UInt8} {l : List UInt8} (h : skipK c l = false) : skipR c l = l := by
 cases l with
 | nil => rfl
 | cons x r =>
  have hx : ¬ x = c := by simpa [skipK] using h
  simp [skipR, hx]
theorem indexByte_lt : ∀ (l : List UInt8) (c : UInt8), -1 ≤ Lib.indexByte l c ∧ Lib.indexByte l c < l.length
 | [], c => ⟨Int.le_refl _, by show (-1 : Int) < 0; decide⟩
 | b :: l, c => by
  have ih := indexByte_lt l c
  unfold Lib.indexByte
  split
  ·simp only [List.length_cons]; omega
  ·split
   ·simp only [List.length_cons]; omega
   ·simp only [List.length_cons]; omega
theorem after_quote {r : List UInt8} {i : Int} (h : 0 ≤ i) : (S r).extract (i + 1).toNat (S r).size = S (r.drop (i.toNat + 1)) := by
 rw [S_drop, show (i + 1).toNat = i.toNat + 1 by omega]
theorem es_app {es : List (List D)} {acc r : List UInt8} {k : Nat} (h : es = bytesD (S acc).data.toList) : es ++ bytesD ((S r).extract 0 k).data.toList = bytesD (S (acc ++ r.take k)).data.toList := by
 rw [h, S_cut, S_data, S_data, S_data, ← bytesD_app]; rfl
theorem es_one {acc r : List UInt8} {k : Nat} (h : acc = []) : bytesD ((S r).extract 0 k).data.toList = bytesD (S (acc ++ r.take k)).data.toList := by
 subst h; rw [S_cut]; rfl
theorem tq_step {n : Nat} {acc r : List UInt8} (h : r.length < n) : tqM n acc r = (if Lib.indexByte r 39 < 0 then (false, [], r)
  else if skipK 39 (r.drop ((Lib.indexByte r 39).toNat + 1)) then tqM (n - 1) (acc ++ r.take (Lib.indexByte r 39).toNat ++ [39]) (skipR 39 (r.drop ((Lib.indexByte r 39).toNat + 1)))
  else (true, acc ++ r.take (Lib.indexByte r 39).toNat, r.drop ((Lib.indexByte r 39).toNat + 1))) := by
 cases n with
 | zero => omega
 | succ n => rfl
theorem es_39 {es : List (List D)} {a : List UInt8} (h : es = bytesD (S a).data.toList) : es ++ [[D.y 39]] = bytesD (S (a ++ [39])).data.toList := by
 rw [h, bytesD_S, bytesD_S, bytesD_app]; rfl
theorem no39 : ∀ {a : List UInt8}, (39 : UInt8) ∉ a → escL a = a
 | [], _ => rfl
 | c :: a, h => by
  have hc : ¬ c = 39 := fun e => h (by rw [e]; exact List.mem_cons_self)
  have ih := no39 (a := a) fun e => h (List.mem_cons_of_mem _ e)
  rw [show escL (c :: a) = escC c ++ escL a by simp [escL], ih, escC, if_neg hc]; rfl
theorem escL_app (a b : List UInt8) : escL (a ++ b) = escL a ++ escL b := by simp [escL]
theorem index39 : ∀ {a : List UInt8} (t : List UInt8), (39 : UInt8) ∉ a → Lib.indexByte (a ++ 39 :: t) 39 = a.length
 | [], t, _ => by show Lib.indexByte (39 :: t) 39 = 0; rw [Lib.indexByte]; rfl
 | c :: a, t, h => by
  have hc : ¬ c = 39 := fun e => h (by rw [e]; exact List.mem_cons_self)
  have ih := index39 (a := a) t fun e => h (List.mem_cons_of_mem _ e)
  rw [List.cons_append, Lib.indexByte, ih]
  simp [hc]
theorem tq_of : ∀ (n : Nat) (s acc r : List UInt8), (escL s ++ 39 :: r).length < n → EndsW r → tqM n acc (escL s ++ 39 :: r) = (true, acc ++ s, r)
 | 0, s, acc, r, h, _ => absurd h (Nat.not_lt_zero _)
 | n + 1, s, acc, r, h, hr => by
  by_cases hm : (39 : UInt8) ∈ s
  ·obtain ⟨a, s', rfl, ha⟩ := List.eq_append_cons_of_mem hm
   have e : escL (a ++ 39 :: s') ++ 39 :: r = a ++ 39 :: (39 :: (escL s' ++ 39 :: r)) := by
    rw [escL_app, no39 ha, show escL (39 :: s') = [39, 39] ++ escL s' by simp [escL, escC]]; simp
   have hi := index39 (39 :: (escL s' ++ 39 :: r)) ha
   rw [e] at h ⊢
   rw [tqM, hi, if_neg (by omega), Int.toNat_natCast]
   have hd : (a ++ 39 :: (39 :: (escL s' ++ 39 :: r))).drop (a.length + 1) = 39 :: (escL s' ++ 39 :: r) := by
    rw [← List.drop_drop, List.drop_left]; rfl
   have ht : (a ++ 39 :: (39 :: (escL s' ++ 39 :: r))).take a.length = a := List.take_left
   rw [hd, ht, if_pos (by simp [skipK]), show skipR 39 (39 :: (escL s' ++ 39 :: r)) = escL s' ++ 39 :: r by simp [skipR]]
   rw [tq_of n s' _ r (by simp only [zq0] at h ⊢; omega) hr]
   simp
  ·have hi := index39 r hm
   rw [no39 hm] at h ⊢
   rw [tqM, hi, if_neg (by omega), Int.toNat_natCast]
   have hd : (s ++ 39 :: r).drop (s.length + 1) = r := by
    rw [← List.drop_drop, List.drop_left]; rfl
   have ht : (s ++ 39 :: r).take s.length = s := List.take_left
   have hk : skipK 39 r = false := by
    rcases hr with rfl | ⟨x, t, rfl, hx⟩
    ·rfl
    ·have : ¬ x = 39 := by rintro rfl; simp [nsep] at hx
     simp [skipK, this]
   rw [hd, ht, if_neg (by rw [hk]; decide)]
theorem S_tail (x : UInt8) (t : List UInt8) : (S (x :: t)).extract 1 (S (x :: t)).size = S t := by rw [S_drop]; rfl
theorem byte0 (x : UInt8) (t : List UInt8) : byteAt (S (x :: t)) 0 = (x.toNat : Int) := byteAt_S (x :: t) 0
def ascii (l : List UInt8) : Bool := l.all (fun b => decide (b.toNat < 128))
theorem indexAny_ok (l : List UInt8) (hl : l.length < 4294967281) (ha : ascii l = true) : SpG g 319 [.c (.d (.s (S l))), .c (.d (.s (S [44, 59, 93, 124])))] [] (.c (.d (.i (Lib.indexAny l seps)))) [] := by
 refine spec_of (args := [.string (S l), .string (S [44, 59, 93, 124])]) rfl rfl rfl fun w _ => ?_
 have := Tryz.strings_IndexAny_laid (S l) (S [44, 59, 93, 124]) w (by rw [S_size]; omega) (by decide) (fun j b hb => by
   rw [S_data] at hb
   have := List.all_eq_true.1 ha b (List.mem_of_getElem? hb)
   simpa using this) (fun j b hb => by
   rw [S_data] at hb
   have h4 : ([44, 59, 93, 124] : List UInt8).all (fun b => decide (b.toNat < 128)) = true := by decide
   have := List.all_eq_true.1 h4 b (List.mem_of_getElem? hb)
   simpa using this)
 rw [S_data, S_data] at this
 exact this
end Go.Proofs.YtclaplngjmgnoaaGreatDoor
namespace Go.Proofs.YtclaplngjmgnoaaGreatDoor
open Go.RowKit Go.V
open Go.Eng (inR byteAt u8 bytesV)
variable {g : Gv}
abbrev Tv := Option (List UInt8)
def tvK : Tv → Int
 | none => 0
 | some _ => 1
def tvS : Tv → List UInt8
 | none => []
 | some s => s
def TvD (v : Tv) : List D := [.i (tvK v), .s (S (tvS v)), .i 0, .i 0, .i 0, .sl 1 [], .sl 1 []]
def tvsD (l : List Tv) : List (List D) := l.map TvD
def tvOk (v : Tv) : Prop := isTextB (S (tvS v)) = true
def tvT : Tv → List UInt8
 | none => [33, 48]
 | some s => 39 :: (escL s ++ [39])
theorem tvOk_len {v : Tv} (h : tvOk v) : (tvS v).length ≤ 200 := by
 unfold tvOk isTextB at h
 simp only [Bool.and_eq_true, decide_eq_true_eq, S_size] at h
 omega
theorem tvK_01 (v : Tv) : tvK v = 0 ∧ v = none ∨ tvK v = 1 ∧ ∃ s, v = some s := by
 cases v with
 | none => exact .inl ⟨rfl, rfl⟩
 | some s => exact .inr ⟨rfl, s, rfl⟩
theorem tvT_len {v : Tv} (h : tvOk v) : (tvT v).length ≤ 402 := by
 have := tvOk_len h
 cases v with
 | none => simp [tvT]
 | some s =>
  have h2 := escL_len s
  simp only [zq1, tvT, tvS] at *
  omega
theorem tvT_ne (v : Tv) : tvT v ≠ [] := by cases v <;> simp [tvT]
def rwT (l : List Tv) : List UInt8 := joinL [124] (l.map tvT)
theorem sumL_tv : ∀ (l : List Tv), (∀ v, v ∈ l → tvOk v) → sumL 1 (l.map tvT) ≤ 403 * l.length
 | [], _ => by simp [sumL]
 | v :: l, h => by
  have h1 := tvT_len (h v (by simp))
  have h2 := sumL_tv l fun x hx => h x (by simp [hx])
  unfold sumL at *
  simp only [List.map_cons, List.sum_cons, List.length_cons] at *
  omega
theorem rwT_len {l : List Tv} (h : ∀ v, v ∈ l → tvOk v) : (rwT l).length ≤ 403 * l.length := Nat.le_trans (joinL_len [124] _) (sumL_tv l h)
theorem itoa0 : Lib.itoa 0 = [48] := by
 rw [Lib.itoa, if_neg (by decide), Int.toNat_zero, Lib.decDigits_one (by decide)]; rfl
theorem itoa0_ok : SpG g 55 [.c (.d (.i 0))] [] (.c (.d (.s (S [48])))) [] := by
 have := itoa_ok (g := g) 0 (by decide) (by decide)
 rw [itoa0] at this
 exact this
theorem isText_any (s : ByteArray) (hs : s.size ≤ maxLen) :
  SpG g 103 [.c (.d (.s s))] [] (.c (.d (.b (isTextB s)))) [] := by
 unfold maxLen at hs
 refine enterB 23 Tryz.func103 (by kernel_rfl) fun fr hG => ?_
 refine zL hG [] [0, 1, 0, 1] (fun (zz : Nat) => match zz with | k => (s.size - k, ⟨[(0, [], .c (.d (.s s))), (2, [], .c (.d (.b false))), (5, [], .c (.d (.i ((s).size : Int)))), (6, [], .c (.d (.i (k : Int))))], []⟩, k ≤ s.size ∧ (bs s).all okByte = ((bs s).drop k).all okByte)) 0 (by kernel_rfl) conj0 (by kernel_rfl) ?_ ?_
 ·exact ⟨Nat.zero_le _, rfl⟩
 rintro k ⟨hk, hall⟩
 refine zc hG [] [0, 1] (decide (((k : Int) : Int) < ((s).size : Int))) (by kernel_rfl) conj0 (fun hc2 => ?_) (fun hc2 => ?_)
 ·(try simp only [blS] at hc2)
  refine zc hG [] [1, 1, 0, 0, 1, 1] ((decide ((byteAt (s) (k : Int) : Int) < 32)) || (decide ((byteAt (s) (k : Int) : Int) > 126))) (by kernel_rfl) (conjC (show (0 : Int) ≤ (k : Int) ∧ (k : Int) < ((s).size : Int) from (by intros; first | omega | decide | (simp only [inR, blS] at *; omega))) (conj1 (show (decide ((byteAt (s) (k : Int) : Int) < 32)) = false → (0 : Int) ≤ (k : Int) ∧ (k : Int) < ((s).size : Int) from (by intros; first | omega | decide | (simp only [inR, blS] at *; omega))))) (fun hc3 => ?_) (fun hc3 => ?_)
  ·(try simp only [blS] at hc3)
   refine zE hG [] .ret (⟨[(0, [], .c (.d (.s s))), (2, [], .c (.d (.b false)))], []⟩) (by kernel_rfl) conj0 rfl ?_
   refine zR hG [] [] (.c (.d (.b false))) [] (by kernel_rfl) conj0 ?_ ?_
   ·refine sv_bool ?_
    rw [isTextB, hall, bs_drop s k (by omega)]; simp only [byteAt_nat] at hc3; simp [okByte]; omega
   ·rfl
  ·(try simp only [blS] at hc3)
   refine zD hG [] (k + 1) (by kernel_rfl) (conj1 (show inR ((k : Int) + 1) from (by intros; first | omega | decide | (simp only [inR, blS] at *; omega)))) ?_ ?_
   ·(try dsimp only); omega
   ·exact ⟨by omega, by rw [hall, bs_drop s k (by omega)]; simp only [byteAt_nat] at hc3; simp [okByte]; omega⟩
 ·(try simp only [blS] at hc2)
  refine zE hG [] (.exit 0) (⟨[(0, [], .c (.d (.s s))), (2, [], .c (.d (.b false)))], []⟩) (by kernel_rfl) conj0 rfl ?_
  refine zR hG [] [] (.c (.d (.b (decide ((((s).size : Int) : Int) ≤ 200))))) [] (by kernel_rfl) conj0 ?_ ?_
  ·refine sv_bool ?_
   rw [isTextB, hall, bs_nil s k (by omega)]; simp
  ·rfl
theorem bareT (k : Int) :
  SpG g 102 [.agg [.d (.i k), .d (.s (S [])), .d (.i 0), .d (.i 0), .d (.i 0), .d (.sl 1 (([] : List (List D)))), .d (.sl 1 (([] : List (List D))))]] [] (.c (.d (.b true))) [] := by
 refine enterB 29 Tryz.func102 (by kernel_rfl) fun fr hG => ?_
 exact zr hG [] [] (by kernel_rfl) conj0
theorem bareS (k : Int) (s : List UInt8) :
  SpG g 102 [.agg [.d (.i k), .d (.s (S s)), .d (.i 0), .d (.i 0), .d (.i 0), .d (.sl 1 (([] : List (List D)))), .d (.sl 1 (([] : List (List D))))]] [] (.c (.d (.b (decide (s = []))))) [] := by
 refine enterB 29 Tryz.func102 (by kernel_rfl) fun fr hG => ?_
 refine zR hG [] [] (.c (.d (.b ((((((S s).toList == (S []).toList) && (((0 : Int) == 0) && ((0 : Int) == 0))) && true) && (decide ((((([] : List (List D))).length : Int) : Int) = 0))) && (decide ((((([] : List (List D))).length : Int) : Int) = 0)))))) [] (by kernel_rfl) conj0 ?_ ?_
 ·refine sv_bool ?_
  rw [S_beq]; simp
 ·rfl
theorem right_tv (v : Tv) (h : tvOk v) :
  SpG g 54 [.agg [.d (.i (tvK v)), .d (.s (S (tvS v))), .d (.i 0), .d (.i 0), .d (.i 0), .d (.sl 1 (([] : List (List D)))), .d (.sl 1 (([] : List (List D))))]] [] (.c (.d (.b true))) [] := by
 have hl := tvOk_len h
 have h01 := tvK_01 v
 refine enterB 86 Tryz.func54 (by kernel_rfl) fun fr hG => ?_
 refine zC hG [] [1, 0, 1, 0, 1, 1] (decide ((tvK v : Int) = 0)) (⟨[(1, [], .c (.bx 100 0)), (2, [], .c (.d (.b false))), (3, [], .c (.bx 201 0)), (6, [], .c (.d (.i (tvK v))))], [(100, .box 61 [.d (.i (tvK v)), .d (.s (S (tvS v))), .d (.i 0), .d (.i 0), .d (.i 0), .d (.sl 1 (([] : List (List D)))), .d (.sl 1 (([] : List (List D))))]), (201, .box 61 [.d (.i (tvK v)), .d (.s (S (tvS v))), .d (.i 0), .d (.i 0), .d (.i 0), .d (.sl 1 (([] : List (List D)))), .d (.sl 1 (([] : List (List D))))])]⟩) (by kernel_rfl) conj0 (fun hc1 => ?_) (fun hc1 => ?_)
 ·(try simp only [blS] at hc1)
  refine zR hG [(5, 10, .call (.c (.d (.b (decide ((tvS v) = []))))) [] [])] [] (.c (.d (.b (decide ((tvS v) = []))))) [] (by kernel_rfl) (conj1 (fun (hg1 : true = true) => ((bareS (tvK v) (tvS v) : SpG g _ _ _ _ _)))) ?_ ?_
  ·rcases h01 with ⟨h0, rfl⟩ | ⟨h0, _⟩
   ·rfl
   ·exfalso; omega
  ·rfl
 ·(try simp only [blS] at hc1)
  refine zc hG [] [1, 1, 1, 0, 1, 0, 1, 1] (decide ((tvK v : Int) = 1)) (by kernel_rfl) conj0 (fun hc2 => ?_) (fun hc2 => ?_)
  ·(try simp only [blS] at hc2)
   refine zR hG [(8, 2, .call (.c (.d (.b (isTextB (S (tvS v)))))) [] []), (8, 5, .call (.c (.d (.b true))) [] [])] [] (.c (.d (.b ((isTextB (S (tvS v))) && true)))) [] (by kernel_rfl) (conjC ((isText_any (S (tvS v)) (by rw [S_size]; unfold maxLen; omega) : SpG g _ _ _ _ _)) (conj1 (fun (hg1 : (isTextB (S (tvS v))) = true) => ((bareT (tvK v) : SpG g _ _ _ _ _))))) ?_ ?_
   ·have h2 : isTextB (S (tvS v)) = true := h
    rw [h2]; rfl
   ·rfl
  ·(try simp only [blS] at hc2)
   exfalso; rcases h01 with ⟨h0, _⟩ | ⟨h0, _⟩ <;> omega
theorem text_tv (v : Tv) (h : tvOk v) :
  SpG g 56 [.agg [.d (.i (tvK v)), .d (.s (S (tvS v))), .d (.i 0), .d (.i 0), .d (.i 0), .d (.sl 1 (([] : List (List D)))), .d (.sl 1 (([] : List (List D))))]] [] (.c (.d (.s (S (tvT v))))) [] := by
 have hl := tvOk_len h
 have h01 := tvK_01 v
 have he := escL_len (tvS v)
 refine enterB 61 Tryz.func56 (by kernel_rfl) fun fr hG => ?_
 refine zC hG [(1, 1, .call (.c (.d (.b true))) [] [])] [1, 0, 1] (false) (⟨[(1, [], .c (.bx 100 0)), (2, [], .c (.d (.s (S []))))], [(100, .box 61 [.d (.i (tvK v)), .d (.s (S (tvS v))), .d (.i 0), .d (.i 0), .d (.i 0), .d (.sl 1 (([] : List (List D)))), .d (.sl 1 (([] : List (List D))))])]⟩) (by kernel_rfl) (conj1 ((right_tv v (by assumption) : SpG g _ _ _ _ _))) (fun hc1 => absurd hc1 (by decide)) (fun _ => ?_)
 refine zC hG [] [1, 0, 1, 0, 1, 1] (decide ((tvK v : Int) = 0)) (⟨[(1, [], .c (.bx 100 0)), (2, [], .c (.d (.s (S [])))), (10, [], .c (.d (.i (tvK v))))], [(100, .box 61 [.d (.i (tvK v)), .d (.s (S (tvS v))), .d (.i 0), .d (.i 0), .d (.i 0), .d (.sl 1 (([] : List (List D)))), .d (.sl 1 (([] : List (List D))))])]⟩) (by kernel_rfl) conj0 (fun hc2 => ?_) (fun hc2 => ?_)
 ·(try simp only [blS] at hc2)
  refine zR hG [(5, 2, .call (.c (.d (.s (S [48])))) [] [])] [] (.c (.d (.s (S [33, 48])))) [] (by kernel_rfl) (conjC ((itoa0_ok : SpG g _ _ _ _ _)) (conj1 (show (S [33]).size + (S [48]).size ≤ maxLen from (by decide)))) ?_ ?_
  ·rcases h01 with ⟨h0, rfl⟩ | ⟨h0, _⟩
   ·rfl
   ·exfalso; omega
  ·rfl
 ·(try simp only [blS] at hc2)
  refine zc hG [] [1, 1, 1, 0, 1, 0, 1, 1] (decide ((tvK v : Int) = 1)) (by kernel_rfl) conj0 (fun hc3 => ?_) (fun hc3 => ?_)
  ·(try simp only [blS] at hc3)
   refine zR hG [(7, 2, .call (.c (.d (.s (S (escL (tvS v)))))) [] [])] [] (.c (.d (.s (((S [39]) ++ (S (escL (tvS v)))) ++ (S [39]))))) [] (by kernel_rfl) (conjC ((replaceAll_ok (tvS v) (by omega) : SpG g _ _ _ _ _)) (conjC (show (S [39]).size + (S (escL (tvS v))).size ≤ maxLen from (by intros; (try rw [S_app]); (try simp only [S_size, List.length_append, List.length_cons, List.length_nil, maxLen]); first | omega | decide)) (conj1 (show ((S [39]) ++ (S (escL (tvS v)))).size + (S [39]).size ≤ maxLen from (by intros; (try rw [S_app]); (try simp only [S_size, List.length_append, List.length_cons, List.length_nil, maxLen]); first | omega | decide))))) ?_ ?_
   ·rcases h01 with ⟨h0, _⟩ | ⟨h0, s, rfl⟩
    ·exfalso; omega
    ·rw [S_app, S_app]; rfl
   ·rfl
  ·(try simp only [blS] at hc3)
   exfalso; rcases h01 with ⟨h0, _⟩ | ⟨h0, _⟩ <;> omega
def zq2 := And.intro @List.length_append.{0} (And.intro @List.length_cons.{0} (And.intro @List.length_map.{0, 0} (And.intro @List.length_nil.{0} (And.intro @Go.Eng.inR.eq_1 (And.intro @maxLen.eq_1 (@strs.eq_1))))))
def zq3 := And.intro @List.length_map.{0, 0} (And.intro @S_eqf (And.intro @S_eqv (And.intro @blS (@strs.eq_1))))
def zq4 := And.intro @List.length_map.{0, 0} (@strs.eq_1)
theorem join_tv (l : List Tv) (sep : List UInt8) (hl : l.length ≤ 1000) (hs : sumL sep.length (l.map tvT) ≤ 1000000000) (hT : ∀ v, v ∈ l → tvOk v) :
  SpG g 101 [.c (.d (.sl 7 (tvsD l))), .c (.d (.s (S sep)))] [] (.c (.d (.s (S (joinL sep (l.map tvT)))))) [] := by
 refine enterB 26 Tryz.func101 (by kernel_rfl) fun fr hG => ?_
 refine stepLen 0 rfl fun hl0 => ?_
 refine zL hG [] [0, 1, 0, 1, 1] (fun (zz : Nat × List (List D)) => match zz with | (k, es) => (l.length - k, ⟨[(1, [], .c (.d (.s (S sep)))), (4, [], .c (.d (.s (S [])))), (5, [], .c (.ar 202 0)), (11, [], .c (.d (.sl 7 (tvsD l)))), (12, [], .c (.d (.i ((tvsD l).length : Int)))), (13, [], .c (.d (.i (k : Int))))], [(202, .arr 0 9 1 (es))]⟩, k ≤ l.length ∧ es = strs ((l.take k).map tvT))) (0, []) (by kernel_rfl) (conj1 (show (0 : Int) ≤ ((tvsD l).length : Int) ∧ ((16 : Nat) : Int) * ((tvsD l).length : Int) ≤ 281474976710656 ∧ ((tvsD l).length : Int) ≤ 9223372036854775807 from (by intros; (try simp only [zq2, tvsD] at *); omega))) (by kernel_rfl) ?_ ?_
 ·exact ⟨Nat.zero_le _, rfl⟩
 rintro ⟨k, es⟩ ⟨hk, hes⟩
 have hlen : es.length = k := by rw [hes, strs, List.length_map, List.length_map, List.length_take]; omega
 refine zc hG [] [0, 1] (decide (((k : Int) : Int) < ((tvsD l).length : Int))) (by kernel_rfl) conj0 (fun hc2 => ?_) (fun hc2 => ?_)
 ·(try simp only [zq3, tvsD] at hc2)
  refine zD hG [(4, 0, .elem (TvD ((l).getD k none))), (5, 2, .call (.c (.d (.s (S (tvT ((l).getD k none)))))) [] [])] (k + 1, es ++ [[D.s (S (tvT (l.getD k none)))]]) (by kernel_rfl) (conjC (show (0 : Int) ≤ (k : Int) ∧ (tvsD l)[k]? = some (TvD ((l).getD k none)) from (by intros; exact map_at _ (by omega) (by (try simp only [zq4, tvsD] at *); omega))) (conjC ((text_tv ((l).getD k none) (by exact hT _ (getD_mem (by omega))) : SpG g _ _ _ _ _)) (conjC (show ((es).length + (([[.s (S (tvT ((l).getD k none)))]] : List (List D))).length) * (16 + 1) ≤ 140737488355328 from (by intros; (try simp only [zq2, tvsD] at *); omega)) (conj1 (show inR ((k : Int) + 1) from (by intros; (try simp only [zq2, tvsD] at *); omega)))))) ?_ ?_
  ·(try dsimp only); omega
  ·refine ⟨by omega, ?_⟩
   rw [hes, textsStep none (by omega)]
 ·(try simp only [zq3, tvsD] at hc2)
  refine zE hG [] (.exit 0) (⟨[(1, [], .c (.d (.s (S sep)))), (4, [], .c (.d (.s (S [])))), (5, [], .c (.ar 202 0))], [(202, .arr 0 9 1 (es))]⟩) (by kernel_rfl) conj0 rfl ?_
  exact zr hG [(7, 2, .call (.c (.d (.s (S (joinL sep (l.map tvT)))))) [] [])] [] (by kernel_rfl) (conj1 ((join_es (es := es) (l := l.map tvT) (by rw [hes, List.take_of_length_le (by omega)]) sep hs (by rw [List.length_map]; omega) : SpG g _ _ _ _ _)))
theorem rowText_tv (l : List Tv) (hl : l.length ≤ 8) (hT : ∀ v, v ∈ l → tvOk v) :
  SpG g 53 [.c (.d (.sl 7 (tvsD l)))] [] (.c (.d (.s (S (rwT l))))) [] := by
 refine enterB 20 Tryz.func53 (by kernel_rfl) fun fr hG => ?_
 refine stepLen 0 rfl fun hl0 => ?_
 refine zC hG [] [1, 0, 1] (decide ((((tvsD l).length : Int) : Int) > 8)) (⟨[(0, [], .c (.d (.sl 7 (tvsD l)))), (2, [], .c (.d (.s (S []))))], []⟩) (by kernel_rfl) conj0 (fun hc1 => ?_) (fun hc1 => ?_)
 ·(try simp only [zq3, tvsD] at hc1)
  exfalso; omega
 ·(try simp only [zq3, tvsD] at hc1)
  refine zL hG [] [0, 1, 0, 1, 1] (fun (zz : Nat) => match zz with | k => (l.length - k, ⟨[(0, [], .c (.d (.sl 7 (tvsD l)))), (2, [], .c (.d (.s (S [])))), (8, [], .c (.d (.sl 7 (tvsD l)))), (9, [], .c (.d (.i ((tvsD l).length : Int)))), (10, [], .c (.d (.i (k : Int))))], []⟩, k ≤ l.length)) 0 (by kernel_rfl) conj0 (by kernel_rfl) ?_ ?_
  ·exact Nat.zero_le _
  rintro k hk
  refine zc hG [] [0, 1] (decide (((k : Int) : Int) < ((tvsD l).length : Int))) (by kernel_rfl) conj0 (fun hc3 => ?_) (fun hc3 => ?_)
  ·(try simp only [zq3, tvsD] at hc3)
   refine zc hG [(5, 0, .elem (TvD ((l).getD k none))), (6, 1, .call (.c (.d (.b true))) [] [])] [1, 1, 0, 0, 1, 1] (false) (by kernel_rfl) (conjC (show (0 : Int) ≤ (k : Int) ∧ (tvsD l)[k]? = some (TvD ((l).getD k none)) from (by intros; exact map_at _ (by omega) (by (try simp only [zq4, tvsD] at *); omega))) (conj1 ((right_tv ((l).getD k none) (by exact hT _ (getD_mem (by omega))) : SpG g _ _ _ _ _)))) (fun hc4 => absurd hc4 (by decide)) (fun _ => ?_)
   refine zD hG [] (k + 1) (by kernel_rfl) (conj1 (show inR ((k : Int) + 1) from (by intros; (try simp only [inR, maxLen, tvsD, List.length_map] at *); omega))) ?_ ?_
   ·(try dsimp only); omega
   ·show k + 1 ≤ l.length; omega
  ·(try simp only [zq3, tvsD] at hc3)
   refine zE hG [] (.exit 0) (⟨[(0, [], .c (.d (.sl 7 (tvsD l)))), (2, [], .c (.d (.s (S []))))], []⟩) (by kernel_rfl) conj0 rfl ?_
   exact zr hG [(9, 1, .call (.c (.d (.s (S (rwT l))))) [] [])] [] (by kernel_rfl) (conj1 ((join_tv l [124] (by omega) (Nat.le_trans (sumL_tv _ hT) (by omega)) hT : SpG g _ _ _ _ _)))
end Go.Proofs.YtclaplngjmgnoaaGreatDoor
namespace Go.Proofs.YtclaplngjmgnoaaGreatDoor
open Go.RowKit Go.V
open Go.Eng (inR byteAt u8 bytesV)
variable {g : Gv}
def maskT : List (List (Option Nat)) → List (Bool × List C) → List (Bool × List C)
 | m :: ms, p :: ps => (p.1, maskL m p.2) :: maskT ms ps
 | _, ps => ps
theorem maskL_one {m : List (Option Nat)} {c : C} : maskL m [c] = [c] ∨ ∃ q, maskL m [c] = [maskC q c] := by
 cases m with
 | nil => exact .inl rfl
 | cons q m =>
  right
  refine ⟨q, ?_⟩
  cases m <;> rfl
theorem maskT_ok {own : Own} {w : World} {pl : Pl} : ∀ {ms : List (List (Option Nat))} {ps : List (Bool × List C)} {vs : List Value}, All2 (PartOk w pl own) ps vs → All2 (PartOk w pl own) (maskT ms ps) vs
 | [], ps, vs, h => by cases ps <;> exact h
 | m :: ms, [], vs, h => h
 | m :: ms, p :: ps, vs, h => by
  obtain ⟨y, r, rfl, h1, h2⟩ := h.uncons
  refine All2.cons ?_ (maskT_ok h2)
  obtain ⟨b, cs⟩ := p
  cases b with
  | true =>
   obtain ⟨us, rfl, h3⟩ := h1
   exact ⟨us, rfl, maskL_ok h3⟩
  | false =>
   cases cs with
   | nil => exact h1.elim
   | cons c cs =>
    cases cs with
    | cons _ _ => exact h1.elim
    | nil =>
     rcases maskL_one (m := m) (c := c) with e | ⟨q, e⟩
     ·show PartOk w pl own (false, maskL m [c]) y
      rw [e]; exact h1
     ·show PartOk w pl own (false, maskL m [c]) y
      rw [e]; exact maskC_ok h1
theorem spec_outT {f : FuncId} {ins : List SV} {refs : OwnL} {ps : List (Bool × List C)} {post : OwnL} (ms : List (List (Option Nat))) (h : SpG g f ins refs (.tup ps) post) : SpG g f ins refs (.tup (maskT ms ps)) post := by
 intro fr w pl args hw hG m ha
 refine (h fr w pl args hw hG m ha).mono ?_
 rintro e w' ⟨v, pl', rfl, m', hv⟩
 obtain ⟨vs, rfl, h2⟩ := hv
 exact ⟨_, pl', rfl, m', vs, rfl, maskT_ok h2⟩
theorem ascii_app {a b : List UInt8} : ascii (a ++ b) = (ascii a && ascii b) := by simp [ascii]
theorem sp_ref {f : FuncId} {ins : List SV} {out : SV} {post : OwnL} {s s' : ByteArray} (e : s = s') (h : SpG g f ins [(0, .box 206 [.d (.s s')])] out post) : SpG g f ins [(0, .box 206 [.d (.s s)])] out post := by subst e; exact h
theorem okByte_ascii {l : List UInt8} (h : l.all okByte = true) : ascii l = true := by
 rw [ascii, List.all_eq_true]
 intro x hx
 have := List.all_eq_true.1 h x hx
 simp only [okByte, Bool.and_eq_true, decide_eq_true_eq] at this
 simp only [decide_eq_true_eq]; omega
theorem escL_ascii : ∀ {l : List UInt8}, ascii l = true → ascii (escL l) = true
 | [], _ => rfl
 | x :: l, h => by
  simp only [ascii, List.all_cons, Bool.and_eq_true] at h
  have ih := escL_ascii (l := l) h.2
  have hx := h.1
  simp only [escL, List.flatMap_cons] at ih ⊢
  rw [ascii_app, ih, Bool.and_true]
  unfold escC
  split
  ·decide
  ·simp [ascii, hx]
theorem tvT_ascii {v : Tv} (h : tvOk v) : ascii (tvT v) = true := by
 cases v with
 | none => decide
 | some s =>
  have h2 : s.all okByte = true := by
   unfold tvOk isTextB at h
   simp only [Bool.and_eq_true] at h
   have := h.1
   simpa [bs, tvS, S] using this
  simp only [tvT]
  rw [show ((39 : UInt8) :: (escL s ++ [39])) = [39] ++ (escL s ++ [39]) from rfl, ascii_app, ascii_app, escL_ascii (okByte_ascii h2)]
  decide
def tlR (l : List Tv) (k : Nat) : List UInt8 := if k + 1 < l.length then 124 :: rwT (l.drop (k + 1)) else []
theorem tlR_end (l : List Tv) (k : Nat) : EndsW (tlR l k) := by
 unfold tlR
 split
 ·exact .inr ⟨124, _, rfl, rfl⟩
 ·exact .inl rfl
theorem rwT_at {l : List Tv} {k : Nat} (h : k < l.length) : rwT (l.drop k) = tvT (l.getD k none) ++ tlR l k := by
 have e : l.drop k = l.getD k none :: l.drop (k + 1) := by
  rw [List.getD_eq_getElem?_getD, List.getElem?_eq_getElem h]; exact List.drop_eq_getElem_cons h
 unfold tlR rwT
 rw [e]
 by_cases h1 : k + 1 < l.length
 ·rw [if_pos h1]
  obtain ⟨x, r, hx⟩ : ∃ x r, l.drop (k + 1) = x :: r := by
   cases hd : l.drop (k + 1) with
   | nil => have := congrArg List.length hd; simp at this; omega
   | cons x r => exact ⟨x, r, rfl⟩
  rw [hx]; simp [joinL]
 ·rw [if_neg h1]
  have : l.drop (k + 1) = [] := List.drop_eq_nil_of_le (by omega)
  rw [this]; simp [joinL]
theorem skip_tl (l : List Tv) (k : Nat) : skipK 124 (tlR l k) = decide (k + 1 < l.length) ∧ skipR 124 (tlR l k) = rwT (l.drop (k + 1)) := by
 unfold tlR
 by_cases h : k + 1 < l.length
 ·rw [if_pos h]; simp [skipK, skipR, h]
 ·rw [if_neg h]
  have : l.drop (k + 1) = [] := List.drop_eq_nil_of_le (by omega)
  rw [this]; simp [skipK, skipR, h, rwT, joinL]
theorem rwT_ascii {l : List Tv} (h : ∀ v, v ∈ l → tvOk v) : ascii (rwT l) = true := by
 induction l with
 | nil => rfl
 | cons v r ih =>
  have h1 := tvT_ascii (h v (by simp))
  have h2 := ih fun x hx => h x (by simp [hx])
  have e := rwT_at (l := v :: r) (k := 0) (by simp)
  simp only [List.drop_zero, List.getD_cons_zero] at e
  rw [e, ascii_app, h1, Bool.true_and]
  unfold tlR
  split
  ·rw [show ((124 : UInt8) :: rwT (List.drop (0 + 1) (v :: r))) = [124] ++ rwT r from rfl, ascii_app, h2]; rfl
  ·rfl
theorem rwT_ne {l : List Tv} (h : l ≠ []) : rwT l ≠ [] := by
 cases l with
 | nil => exact absurd rfl h
 | cons v r =>
  have e := rwT_at (l := v :: r) (k := 0) (by simp)
  simp only [List.drop_zero, List.getD_cons_zero] at e
  rw [e]
  intro hh
  exact tvT_ne v (List.append_eq_nil_iff.1 hh).1
theorem word0 {r : List UInt8} (hr : EndsW r) : (48 :: r).takeWhile nsep = [48] ∧ (48 :: r).dropWhile nsep = r := word_take (w := [48]) (by decide) hr
theorem atoi0 {r : List UInt8} (hr : EndsW r) : SpG g 68 [.c (.d (.s (S ((48 :: r).takeWhile nsep))))] [] (.tup [(false, [.d (.i 0)]), (false, [.d (.v .nilIface)])]) [] := by
 rw [(word0 hr).1, ← itoa0]
 exact atoi_num 0 ⟨by decide, by decide⟩
theorem tq_tv (s : List UInt8) {r : List UInt8} (hr : EndsW r) : tqM ((escL s ++ 39 :: r).length + 1) [] (escL s ++ 39 :: r) = (true, s, r) := by
 have := tq_of ((escL s ++ 39 :: r).length + 1) s [] r (by omega) hr
 simpa using this
theorem copyCheck1 (es : List (List D)) :
  SpG g 61 [.c (.bx 0 0)] [(0, .box 89 [.bx 0 0, .ar 1 0]), (1, .arr 0 5 1 (es))] (.tup []) [(0, .box 89 [.bx 0 0, .ar 1 0]), (1, .arr 0 5 1 (es))] := by
 refine enterB 20 Tryz.func61 (by kernel_rfl) fun fr hG => ?_
 refine zc hG [] [1] (false) (by kernel_rfl) conj0 (fun hc1 => absurd hc1 (by decide)) (fun _ => ?_)
 refine zC hG [] [1, 1, 1] (false) (⟨[], [(0, .box 89 [.bx 0 0, .ar 1 0]), (1, .arr 0 5 1 (es))]⟩) (by kernel_rfl) conj0 (fun hc2 => absurd hc2 (by decide)) (fun _ => ?_)
 exact zr hG [] [] (by kernel_rfl) conj0
theorem copyCheckN  :
  SpG g 61 [.c (.bx 0 0)] [(0, .box 89 [.d (.v (.pointer none)), .d (.nil)])] (.tup []) [(0, .box 89 [.bx 0 0, .d (.nil)])] := by
 refine enterB 20 Tryz.func61 (by kernel_rfl) fun fr hG => ?_
 refine zc hG [] [1] (true) (by kernel_rfl) conj0 (fun _ => ?_) (fun hc1 => absurd hc1 (by decide))
 exact zr hG [] [] (by kernel_rfl) (conj1 (show NoEsc Tryz.prog 114 from noEsc_114))
theorem writeStringN (s : ByteArray) (h : s.size ≤ 1000000000000) :
  SpG g 34 [.c (.bx 0 0), .c (.d (.s s))] [(0, .box 89 [.d (.v (.pointer none)), .d (.nil)])] (.tup [(false, [.d (.i (s.size : Int))]), (false, [.d (.v (.nilIface))])]) [(0, .box 89 [.bx 0 0, .ar 100 0]), (100, .arr 0 5 1 (bytesD s.data.toList))] := by
 refine enterB 19 Tryz.func34 (by kernel_rfl) fun fr hG => ?_
 exact zr hG [(1, 1, .callG (.tup []) [0] [(0, .box 89 [.bx 0 0, .d (.nil)])])] [306] (by kernel_rfl) (conjC ((copyCheckN : SpG g _ _ _ _ _)) (conj1 (show (s).size ≤ 1000000000000 from (by intros; first | assumption | omega))))
theorem writeString1 (es : List (List D)) (s : ByteArray) (h : es.length + s.size ≤ 1000000000000) :
  SpG g 34 [.c (.bx 0 0), .c (.d (.s s))] [(0, .box 89 [.bx 0 0, .ar 1 0]), (1, .arr 0 5 1 (es))] (.tup [(false, [.d (.i (s.size : Int))]), (false, [.d (.v (.nilIface))])]) [(0, .box 89 [.bx 0 0, .ar 1 0]), (1, .arr 0 5 1 (es ++ bytesD s.data.toList))] := by
 refine enterB 19 Tryz.func34 (by kernel_rfl) fun fr hG => ?_
 exact zr hG [(1, 1, .callG (.tup []) [0, 1] [(0, .box 89 [.bx 0 0, .ar 1 0]), (1, .arr 0 5 1 (es))])] [] (by kernel_rfl) (conjC ((copyCheck1 (es) : SpG g _ _ _ _ _)) (conj1 (show (es).length + (s).size ≤ 1000000000000 from (by intros; first | assumption | omega))))
theorem builderString_ (es : List (List D)) (r : ByteArray) (h : es = bytesD r.data.toList) :
  SpG g 36 [.c (.bx 0 0)] [(0, .box 89 [.bx 0 0, .ar 1 0]), (1, .arr 0 5 1 (es))] (.c (.d (.s r))) [(1, .arr 0 5 1 []), (0, .box 89 [.bx 0 0, .any])] := by
 refine enterB 14 Tryz.func36 (by kernel_rfl) fun fr hG => ?_
 exact zr hG [(1, 10, .call (.c (.d (.s (r)))) [] [])] [] (by kernel_rfl) (conjC (show es = bytesD (r).data.toList from h) (conj1 (show (((es).length : Int) : Int) = ((r).size : Int) from (by intros; first | assumption | (rw [h, bytesD_len]; rfl)))))
theorem builderString (es : List (List D)) (r : ByteArray) (h : es = bytesD r.data.toList) :
  SpG g 36 [.c (.bx 0 0)] [(0, .box 89 [.bx 0 0, .ar 1 0]), (1, .arr 0 5 1 es)] (.c (.d (.s r))) [(0, .box 89 [.bx 0 0, .any]), (1, .arr 0 5 1 [])] :=
 spec_look (builderString_ es r h) (by funext i; match i with | 0 => rfl | 1 => rfl | i + 2 => rfl)
def zq5 := And.intro @List.length_cons.{0} (@List.length_nil.{0})
theorem writeByte1 (es : List (List D)) (c : Int) (h : es.length ≤ 1000000000000) :
  SpG g 321 [.c (.bx 0 0), .c (.d (.y c))] [(0, .box 89 [.bx 0 0, .ar 1 0]), (1, .arr 0 5 1 (es))] (.c (.d (.v (.nilIface)))) [(0, .box 89 [.bx 0 0, .ar 1 0]), (1, .arr 0 5 1 (es ++ [[D.y c]]))] := by
 refine enterB 17 Tryz.func321 (by kernel_rfl) fun fr hG => ?_
 exact zr hG [(1, 1, .callG (.tup []) [0, 1] [(0, .box 89 [.bx 0 0, .ar 1 0]), (1, .arr 0 5 1 (es))])] [] (by kernel_rfl) (conjC ((copyCheck1 (es) : SpG g _ _ _ _ _)) (conj1 (show ((es).length + (([[.y c]] : List (List D))).length) * (1 + 1) ≤ 140737488355328 from (by intros; (try simp only [zq5]); omega))))
def zq6 := And.intro @S_eqf (And.intro @S_eqv (And.intro @S_size (@blS)))
theorem skip_ok (l : List UInt8) (c : UInt8) :
  SpG g 122 [.c (.bx 0 0), .c (.d (.y c.toNat))] [(0, .box 206 [.d (.s (S l))])] (.c (.d (.b (skipK c l)))) [(0, .box 206 [.d (.s (S (skipR c l)))])] := by
 refine enterB 27 Tryz.func122 (by kernel_rfl) fun fr hG => ?_
 refine zC hG [] [1, 0, 1] (((S l).toList == (S []).toList) || (!decide ((byteAt (S l) 0 : Int) = c.toNat))) (⟨[(0, [], .c (.bx 0 0)), (4, [], .c (.d (.b false)))], [(0, .box 206 [.d (.s (S l))])]⟩) (by kernel_rfl) (conj1 (show ((S l).toList == (S []).toList) = false → (0 : Int) ≤ 0 ∧ 0 < ((S l).size : Int) from (by first | (intro h; rw [S_eqf] at h; have := List.length_pos_iff.2 h; rw [S_size]; omega) | (have := List.length_pos_iff.2 hc1.1; rw [S_size]; omega)))) (fun hc1 => ?_) (fun hc1 => ?_)
 ·(try simp only [zq6] at hc1)
  refine zR hG [] [] (.c (.d (.b false))) [(0, .box 206 [.d (.s (S l))])] (by kernel_rfl) conj0 ?_ ?_
  ·rw [(skip_no hc1).1]
  ·rw [(skip_no hc1).2]
 ·(try simp only [zq6] at hc1)
  refine zR hG [] [] (.c (.d (.b true))) [(0, .box 206 [.d (.s ((S l).extract 1 (S l).size))])] (by kernel_rfl) (conj1 (show (0 : Int) ≤ 1 ∧ (1 : Int) ≤ ((S l).size : Int) ∧ ((S l).size : Int) ≤ ((S l).size : Int) from (by first | (intro h; rw [S_eqf] at h; have := List.length_pos_iff.2 h; rw [S_size]; omega) | (have := List.length_pos_iff.2 hc1.1; rw [S_size]; omega)))) ?_ ?_
  ·rw [(skip_yes hc1.1 hc1.2).1]
  ·rw [(skip_yes hc1.1 hc1.2).2, S_drop]
theorem word_ok (l : List UInt8) (hl : l.length < 4294967281) (ha : ascii l = true) :
  SpG g 258 [.c (.bx 0 0)] [(0, .box 206 [.d (.s (S l))])] (.c (.d (.s (S (l.takeWhile nsep))))) [(0, .box 206 [.d (.s (S (l.dropWhile nsep)))])] := by
 have hw := indexAny_tw l
 refine enterB 33 Tryz.func258 (by kernel_rfl) fun fr hG => ?_
 refine zC hG [(1, 4, .call (.c (.d (.i (Lib.indexAny (l) seps)))) [] [])] [1, 0, 1, 1] (decide ((Lib.indexAny (l) seps : Int) < 0)) (⟨[(0, [], .c (.bx 0 0)), (2, [], .c (.d (.s (S [])))), (3, [], .c (.d (.i (Lib.indexAny (l) seps))))], [(0, .box 206 [.d (.s (S l))])]⟩) (by kernel_rfl) (conj1 ((indexAny_ok (l) hl ha : SpG g _ _ _ _ _))) (fun hc1 => ?_) (fun hc1 => ?_)
 ·(try simp only [blS, S_size] at hc1)
  refine zR hG [] [] (.c (.d (.s ((S l).extract 0 ((S l).size))))) [(0, .box 206 [.d (.s ((S l).extract ((S l).size) (S l).size))])] (by kernel_rfl) (conjC (show (0 : Int) ≤ 0 ∧ (0 : Int) ≤ ((S l).size : Int) ∧ ((S l).size : Int) ≤ ((S l).size : Int) from (by intros; (try simp only [S_size] at *); first | omega | decide)) (conj1 (show (0 : Int) ≤ ((S l).size : Int) ∧ (((S l).size : Int) : Int) ≤ ((S l).size : Int) ∧ ((S l).size : Int) ≤ ((S l).size : Int) from (by intros; (try simp only [S_size] at *); first | omega | decide)))) ?_ ?_
  ·obtain ⟨h1, h2, h3⟩ : Lib.indexAny l seps < 0 ∧ l.takeWhile nsep = l ∧ l.dropWhile nsep = [] := by rcases hw with h | h <;> first | exact h | (exfalso; omega)
   rw [h2, S_sub, S_size]; simp
  ·obtain ⟨h1, h2, h3⟩ : Lib.indexAny l seps < 0 ∧ l.takeWhile nsep = l ∧ l.dropWhile nsep = [] := by rcases hw with h | h <;> first | exact h | (exfalso; omega)
   rw [h3, S_sub, S_size]; simp
 ·(try simp only [blS, S_size] at hc1)
  refine zR hG [] [] (.c (.d (.s ((S l).extract 0 (Lib.indexAny (l) seps : Int).toNat)))) [(0, .box 206 [.d (.s ((S l).extract (Lib.indexAny (l) seps : Int).toNat (S l).size))])] (by kernel_rfl) (conjC (show (0 : Int) ≤ 0 ∧ (0 : Int) ≤ (Lib.indexAny (l) seps) ∧ (Lib.indexAny (l) seps) ≤ ((S l).size : Int) from (by intros; (try simp only [S_size] at *); first | omega | decide)) (conj1 (show (0 : Int) ≤ (Lib.indexAny (l) seps) ∧ (Lib.indexAny (l) seps : Int) ≤ ((S l).size : Int) ∧ ((S l).size : Int) ≤ ((S l).size : Int) from (by intros; (try simp only [S_size] at *); first | omega | decide)))) ?_ ?_
  ·obtain ⟨h1, h2, h3, h4⟩ : 0 ≤ Lib.indexAny l seps ∧ Lib.indexAny l seps ≤ l.length ∧ l.takeWhile nsep = l.take (Lib.indexAny l seps).toNat ∧ l.dropWhile nsep = l.drop (Lib.indexAny l seps).toNat := by rcases hw with h | h <;> first | exact h | (exfalso; omega)
   rw [h3, S_sub]; simp
  ·obtain ⟨h1, h2, h3, h4⟩ : 0 ≤ Lib.indexAny l seps ∧ Lib.indexAny l seps ≤ l.length ∧ l.takeWhile nsep = l.take (Lib.indexAny l seps).toNat ∧ l.dropWhile nsep = l.drop (Lib.indexAny l seps).toNat := by rcases hw with h | h <;> first | exact h | (exfalso; omega)
   rw [h4, S_drop]
theorem failure0 (r : List UInt8) (hl : r.length < 1000000000) (hr : EndsW r) (ha : ascii (48 :: r) = true) :
  SpG g 260 [.c (.bx 0 0)] [(0, .box 206 [.d (.s (S (48 :: r)))])] (.tup [(true, [.d (.i 0), .d (.s (S [])), .d (.i 0), .d (.i 0), .d (.i 0), .d (.nil), .d (.nil)]), (false, [.d (.b true)])]) [(0, .box 206 [.d (.s (S r))])] := by
 refine enterB 16 Tryz.func260 (by kernel_rfl) fun fr hG => ?_
 refine zR hG [(1, 1, .callG (.c (.d (.s (S ((48 :: r).takeWhile nsep))))) [0] [(0, .box 206 [.d (.s (S ((48 :: r).dropWhile nsep)))])]), (1, 2, .call (.tup [(false, [.d (.i 0)]), (false, [.d (.v (.nilIface))])]) [] [])] [] (.tup [(true, [.d (.i 0), .d (.s (S [])), .d (.i 0), .d (.i 0), .d (.i 0), .d (.nil), .d (.nil)]), (false, [.d (.b true)])]) [(0, .box 206 [.d (.s (S ((48 :: r).dropWhile nsep)))])] (by kernel_rfl) (conjC ((word_ok (48 :: r) (by rw [List.length_cons]; omega) ha : SpG g _ _ _ _ _)) (conj1 ((atoi0 hr : SpG g _ _ _ _ _)))) ?_ ?_
 ·rfl
 ·rw [(word0 hr).2]
noncomputable def txO (es : List (List D)) (r : List UInt8) : Nat → OwnL
 | 0 => [(0, .box 206 [.d (.s (S r))]), (100, .box 61 [.d (.i 0), .d (.s (S [])), .d (.i 0), .d (.i 0), .d (.i 0), .d (.nil), .d (.nil)]), (200, .box 89 [.d (.v (.pointer none)), .d (.nil)])]
 | _ => [(0, .box 206 [.d (.s (S r))]), (100, .box 61 [.d (.i 0), .d (.s (S [])), .d (.i 0), .d (.i 0), .d (.i 0), .d (.nil), .d (.nil)]), (200, .box 89 [.bx 200 0, .ar 606 0]), (606, .arr 0 5 1 (es))]
def zq7 := And.intro @List.length_append.{0} (And.intro @List.length_cons.{0} (And.intro @List.length_nil.{0} (@List.length_take.{0})))
theorem textR_ok (l : List UInt8) (hl : l.length < 1000000000) :
  SpG g 261 [.c (.bx 0 0)] [(0, .box 206 [.d (.s (S l))])] (.tup [(true, [.d (.i (if (tqM (l.length + 1) [] l).1 then 1 else 0)), .d (.s (S (tqM (l.length + 1) [] l).2.1)), .d (.i 0), .d (.i 0), .d (.i 0), .d (.nil), .d (.nil)]), (false, [.d (.b ((tqM (l.length + 1) [] l).1))])]) [(0, .box 206 [.d (.s (S (tqM (l.length + 1) [] l).2.2))])] := by
 refine enterB 37 Tryz.func261 (by kernel_rfl) fun fr hG => ?_
 refine zL hG [] [0, 1, 1] (fun (zz : Nat × Nat × List UInt8 × List UInt8 × List (List D)) => match zz with | (k, n, acc, r, es) => (r.length, ⟨[(0, [], .c (.bx 0 0)), (2, [], .c (.bx 100 0)), (3, [], .c (.d (.b false))), (4, [], .c (.bx 200 0))], txO es r k⟩, k ≤ 1 ∧ (k = 0 → acc = []) ∧ r.length < n ∧ acc.length + r.length ≤ l.length + 1 ∧ tqM (l.length + 1) [] l = tqM n acc r ∧ (k = 1 → es = bytesD (S acc).data.toList))) (0, l.length + 1, [], l, []) (by kernel_rfl) conj0 (by kernel_rfl) ?_ ?_
 ·exact ⟨by omega, fun _ => rfl, by omega, by simp, rfl, by omega⟩
 rintro ⟨k, n, acc, r, es⟩ ⟨hk, hz, hrn, hal, hm, hes⟩
 have hib := indexByte_lt r 39
 have hsl := skipR_len 39 (r.drop ((Lib.indexByte r 39).toNat + 1))
 rw [List.length_drop] at hsl
 have htl : (r.take (Lib.indexByte r 39).toNat).length ≤ (Lib.indexByte r 39).toNat := by rw [List.length_take]; omega
 have hst := tq_step (acc := acc) hrn
 rcases (by omega : k = 0 ∨ k = 1) with rfl | rfl
 ·skip
  refine zC hG [(2, 4, .call (.c (.d (.i (Lib.indexByte r 39)))) [] [])] [1, 0, 1, 0] (decide ((Lib.indexByte r 39 : Int) < 0)) (⟨[(0, [], .c (.bx 0 0)), (2, [], .c (.bx 100 0)), (3, [], .c (.d (.b false))), (4, [], .c (.bx 200 0)), (5, [], .c (.d (.i (Lib.indexByte r 39))))], [(0, .box 206 [.d (.s (S r))]), (100, .box 61 [.d (.i 0), .d (.s (S [])), .d (.i 0), .d (.i 0), .d (.i 0), .d (.nil), .d (.nil)]), (200, .box 89 [.d (.v (.pointer none)), .d (.nil)])]⟩) (by kernel_rfl) (conj1 ((indexByte_ok r 39 : SpG g _ _ _ _ _))) (fun hc2 => ?_) (fun hc2 => ?_)
  ·(try simp only [blS] at hc2)
   refine zE hG [] .ret (⟨[(2, [], .c (.bx 100 0)), (3, [], .c (.d (.b false)))], [(0, .box 206 [.d (.s (S r))]), (100, .box 61 [.d (.i 0), .d (.s (S [])), .d (.i 0), .d (.i 0), .d (.i 0), .d (.nil), .d (.nil)])]⟩) (by kernel_rfl) conj0 rfl ?_
   refine zR hG [] [] (.tup [(true, [.d (.i 0), .d (.s (S [])), .d (.i 0), .d (.i 0), .d (.i 0), .d (.nil), .d (.nil)]), (false, [.d (.b false)])]) [(0, .box 206 [.d (.s (S r))])] (by kernel_rfl) conj0 ?_ ?_
   ·rw [hm, hst, if_pos hc2]; rfl
   ·rw [hm, hst, if_pos hc2]
  ·(try simp only [blS] at hc2)
   refine zC hG [(5, 6, .callG (.tup [(false, [.d (.i (((S r).extract 0 (Lib.indexByte r 39 : Int).toNat).size : Int))]), (false, [.d (.v (.nilIface))])]) [200] [(0, .box 89 [.bx 0 0, .ar 100 0]), (100, .arr 0 5 1 (bytesD ((S r).extract 0 (Lib.indexByte r 39 : Int).toNat).data.toList))]), (7, 1, .callG (.c (.d (.b (skipK 39 (r.drop ((Lib.indexByte r 39).toNat + 1)))))) [0] [(0, .box 206 [.d (.s (S (skipR 39 (r.drop ((Lib.indexByte r 39).toNat + 1)))))])])] [1, 0, 1, 1, 1, 1, 0] (!(skipK 39 (r.drop ((Lib.indexByte r 39).toNat + 1)))) (⟨[(0, [], .c (.bx 0 0)), (2, [], .c (.bx 100 0)), (3, [], .c (.d (.b false))), (4, [], .c (.bx 200 0))], [(0, .box 206 [.d (.s (S (skipR 39 (r.drop ((Lib.indexByte r 39).toNat + 1)))))]), (100, .box 61 [.d (.i 0), .d (.s (S [])), .d (.i 0), .d (.i 0), .d (.i 0), .d (.nil), .d (.nil)]), (200, .box 89 [.bx 200 0, .ar 606 0]), (606, .arr 0 5 1 (bytesD ((S r).extract 0 (Lib.indexByte r 39 : Int).toNat).data.toList))]⟩) (by kernel_rfl) (conjC (show (0 : Int) ≤ 0 ∧ (0 : Int) ≤ (Lib.indexByte r 39) ∧ (Lib.indexByte r 39) ≤ ((S r).size : Int) from (by intros; (try simp only [S_size] at *); first | omega | (refine ⟨?_, ?_⟩ <;> omega))) (conjC ((writeStringN ((S r).extract 0 (Lib.indexByte r 39 : Int).toNat) (by first | (rw [S_cut, S_size]; simp only [zq7, List.drop_zero]; omega) | (rw [hes rfl, bytesD_len, S_data, S_cut, S_size]; simp only [zq7, List.drop_zero]; omega)) : SpG g _ _ _ _ _)) (conjC (show inR ((Lib.indexByte r 39) + 1) from (by intros; (try simp only [S_size] at *); first | omega | (refine ⟨?_, ?_⟩ <;> omega))) (conjC (show (0 : Int) ≤ ((Lib.indexByte r 39) + 1) ∧ ((Lib.indexByte r 39) + 1 : Int) ≤ ((S r).size : Int) ∧ ((S r).size : Int) ≤ ((S r).size : Int) from (by intros; (try simp only [S_size] at *); first | omega | (refine ⟨?_, ?_⟩ <;> omega))) (conj1 ((sp_ref (after_quote (by omega)) (skip_ok (r.drop ((Lib.indexByte r 39).toNat + 1)) 39) : SpG g _ _ _ _ _))))))) (fun hc3 => ?_) (fun hc3 => ?_)
   ·(try simp only [blS] at hc3)
    refine zE hG [(8, 0, .callG (.c (.d (.s (S (acc ++ r.take (Lib.indexByte r 39).toNat))))) [200, 606] [(0, .box 89 [.bx 0 0, .any]), (1, .arr 0 5 1 (([] : List (List D))))])] .ret (⟨[(2, [], .c (.bx 100 0)), (3, [], .c (.d (.b true)))], [(0, .box 206 [.d (.s (S (skipR 39 (r.drop ((Lib.indexByte r 39).toNat + 1)))))]), (100, .box 61 [.d (.i 1), .d (.s (S (acc ++ r.take (Lib.indexByte r 39).toNat))), .d (.i 0), .d (.i 0), .d (.i 0), .d (.nil), .d (.nil)])]⟩) (by kernel_rfl) (conj1 ((builderString (bytesD ((S r).extract 0 (Lib.indexByte r 39 : Int).toNat).data.toList) (S (acc ++ r.take (Lib.indexByte r 39).toNat)) (by first | exact es_one (hz rfl) | exact es_app (hes rfl)) : SpG g _ _ _ _ _))) rfl ?_
    refine zR hG [] [] (.tup [(true, [.d (.i 1), .d (.s (S (acc ++ r.take (Lib.indexByte r 39).toNat))), .d (.i 0), .d (.i 0), .d (.i 0), .d (.nil), .d (.nil)]), (false, [.d (.b true)])]) [(0, .box 206 [.d (.s (S (skipR 39 (r.drop ((Lib.indexByte r 39).toNat + 1)))))])] (by kernel_rfl) conj0 ?_ ?_
    ·have e : tqM n acc r = (true, acc ++ r.take (Lib.indexByte r 39).toNat, r.drop ((Lib.indexByte r 39).toNat + 1)) := by rw [hst, if_neg hc2, hc3]; rfl
     rw [hm, e]; rfl
    ·have e : tqM n acc r = (true, acc ++ r.take (Lib.indexByte r 39).toNat, r.drop ((Lib.indexByte r 39).toNat + 1)) := by rw [hst, if_neg hc2, hc3]; rfl
     rw [hm, e, skipR_no hc3]
   ·(try simp only [blS] at hc3)
    refine zD hG [(9, 0, .callG (.c (.d (.v (.nilIface)))) [200, 606] [(0, .box 89 [.bx 0 0, .ar 1 0]), (1, .arr 0 5 1 ((bytesD ((S r).extract 0 (Lib.indexByte r 39 : Int).toNat).data.toList) ++ [[D.y 39]]))])] (1, n - 1, acc ++ (r.take (Lib.indexByte r 39).toNat) ++ [39], skipR 39 (r.drop ((Lib.indexByte r 39).toNat + 1)), (bytesD ((S r).extract 0 (Lib.indexByte r 39 : Int).toNat).data.toList) ++ [[D.y 39]]) (by kernel_rfl) (conj1 ((writeByte1 (bytesD ((S r).extract 0 (Lib.indexByte r 39 : Int).toNat).data.toList) 39 (by first | (rw [bytesD_len, S_cut, S_data]; simp only [zq7, List.drop_zero]; omega) | (rw [List.length_append, hes rfl, bytesD_len, bytesD_len, S_cut, S_data, S_data]; simp only [zq7, List.drop_zero]; omega)) : SpG g _ _ _ _ _))) ?_ ?_
    ·(try dsimp only); omega
    ·refine ⟨by omega, by omega, by omega, by simp only [zq1]; omega, ?_, fun _ => ?_⟩
     ·rw [hm, hst, if_neg hc2, if_pos hc3]
     ·exact es_39 (by first | exact es_one (hz rfl) | exact es_app (hes rfl))
 ·skip
  refine zC hG [(2, 4, .call (.c (.d (.i (Lib.indexByte r 39)))) [] [])] [1, 0, 1, 0] (decide ((Lib.indexByte r 39 : Int) < 0)) (⟨[(0, [], .c (.bx 0 0)), (2, [], .c (.bx 100 0)), (3, [], .c (.d (.b false))), (4, [], .c (.bx 200 0)), (5, [], .c (.d (.i (Lib.indexByte r 39))))], [(0, .box 206 [.d (.s (S r))]), (100, .box 61 [.d (.i 0), .d (.s (S [])), .d (.i 0), .d (.i 0), .d (.i 0), .d (.nil), .d (.nil)]), (200, .box 89 [.bx 200 0, .ar 606 0]), (606, .arr 0 5 1 (es))]⟩) (by kernel_rfl) (conj1 ((indexByte_ok r 39 : SpG g _ _ _ _ _))) (fun hc4 => ?_) (fun hc4 => ?_)
  ·(try simp only [blS] at hc4)
   refine zE hG [] .ret (⟨[(2, [], .c (.bx 100 0)), (3, [], .c (.d (.b false)))], [(0, .box 206 [.d (.s (S r))]), (100, .box 61 [.d (.i 0), .d (.s (S [])), .d (.i 0), .d (.i 0), .d (.i 0), .d (.nil), .d (.nil)])]⟩) (by kernel_rfl) conj0 rfl ?_
   refine zR hG [] [] (.tup [(true, [.d (.i 0), .d (.s (S [])), .d (.i 0), .d (.i 0), .d (.i 0), .d (.nil), .d (.nil)]), (false, [.d (.b false)])]) [(0, .box 206 [.d (.s (S r))])] (by kernel_rfl) conj0 ?_ ?_
   ·rw [hm, hst, if_pos hc4]; rfl
   ·rw [hm, hst, if_pos hc4]
  ·(try simp only [blS] at hc4)
   refine zC hG [(5, 6, .callG (.tup [(false, [.d (.i (((S r).extract 0 (Lib.indexByte r 39 : Int).toNat).size : Int))]), (false, [.d (.v (.nilIface))])]) [200, 606] [(0, .box 89 [.bx 0 0, .ar 1 0]), (1, .arr 0 5 1 ((es) ++ bytesD ((S r).extract 0 (Lib.indexByte r 39 : Int).toNat).data.toList))]), (7, 1, .callG (.c (.d (.b (skipK 39 (r.drop ((Lib.indexByte r 39).toNat + 1)))))) [0] [(0, .box 206 [.d (.s (S (skipR 39 (r.drop ((Lib.indexByte r 39).toNat + 1)))))])])] [1, 0, 1, 1, 1, 1, 0] (!(skipK 39 (r.drop ((Lib.indexByte r 39).toNat + 1)))) (⟨[(0, [], .c (.bx 0 0)), (2, [], .c (.bx 100 0)), (3, [], .c (.d (.b false))), (4, [], .c (.bx 200 0))], [(0, .box 206 [.d (.s (S (skipR 39 (r.drop ((Lib.indexByte r 39).toNat + 1)))))]), (100, .box 61 [.d (.i 0), .d (.s (S [])), .d (.i 0), .d (.i 0), .d (.i 0), .d (.nil), .d (.nil)]), (200, .box 89 [.bx 200 0, .ar 606 0]), (606, .arr 0 5 1 ((es) ++ bytesD ((S r).extract 0 (Lib.indexByte r 39 : Int).toNat).data.toList))]⟩) (by kernel_rfl) (conjC (show (0 : Int) ≤ 0 ∧ (0 : Int) ≤ (Lib.indexByte r 39) ∧ (Lib.indexByte r 39) ≤ ((S r).size : Int) from (by intros; (try simp only [S_size] at *); first | omega | (refine ⟨?_, ?_⟩ <;> omega))) (conjC ((writeString1 (es) ((S r).extract 0 (Lib.indexByte r 39 : Int).toNat) (by first | (rw [S_cut, S_size]; simp only [zq7, List.drop_zero]; omega) | (rw [hes rfl, bytesD_len, S_data, S_cut, S_size]; simp only [zq7, List.drop_zero]; omega)) : SpG g _ _ _ _ _)) (conjC (show inR ((Lib.indexByte r 39) + 1) from (by intros; (try simp only [S_size] at *); first | omega | (refine ⟨?_, ?_⟩ <;> omega))) (conjC (show (0 : Int) ≤ ((Lib.indexByte r 39) + 1) ∧ ((Lib.indexByte r 39) + 1 : Int) ≤ ((S r).size : Int) ∧ ((S r).size : Int) ≤ ((S r).size : Int) from (by intros; (try simp only [S_size] at *); first | omega | (refine ⟨?_, ?_⟩ <;> omega))) (conj1 ((sp_ref (after_quote (by omega)) (skip_ok (r.drop ((Lib.indexByte r 39).toNat + 1)) 39) : SpG g _ _ _ _ _))))))) (fun hc5 => ?_) (fun hc5 => ?_)
   ·(try simp only [blS] at hc5)
    refine zE hG [(8, 0, .callG (.c (.d (.s (S (acc ++ r.take (Lib.indexByte r 39).toNat))))) [200, 606] [(0, .box 89 [.bx 0 0, .any]), (1, .arr 0 5 1 (([] : List (List D))))])] .ret (⟨[(2, [], .c (.bx 100 0)), (3, [], .c (.d (.b true)))], [(0, .box 206 [.d (.s (S (skipR 39 (r.drop ((Lib.indexByte r 39).toNat + 1)))))]), (100, .box 61 [.d (.i 1), .d (.s (S (acc ++ r.take (Lib.indexByte r 39).toNat))), .d (.i 0), .d (.i 0), .d (.i 0), .d (.nil), .d (.nil)])]⟩) (by kernel_rfl) (conj1 ((builderString ((es) ++ bytesD ((S r).extract 0 (Lib.indexByte r 39 : Int).toNat).data.toList) (S (acc ++ r.take (Lib.indexByte r 39).toNat)) (by first | exact es_one (hz rfl) | exact es_app (hes rfl)) : SpG g _ _ _ _ _))) rfl ?_
    refine zR hG [] [] (.tup [(true, [.d (.i 1), .d (.s (S (acc ++ r.take (Lib.indexByte r 39).toNat))), .d (.i 0), .d (.i 0), .d (.i 0), .d (.nil), .d (.nil)]), (false, [.d (.b true)])]) [(0, .box 206 [.d (.s (S (skipR 39 (r.drop ((Lib.indexByte r 39).toNat + 1)))))])] (by kernel_rfl) conj0 ?_ ?_
    ·have e : tqM n acc r = (true, acc ++ r.take (Lib.indexByte r 39).toNat, r.drop ((Lib.indexByte r 39).toNat + 1)) := by rw [hst, if_neg hc4, hc5]; rfl
     rw [hm, e]; rfl
    ·have e : tqM n acc r = (true, acc ++ r.take (Lib.indexByte r 39).toNat, r.drop ((Lib.indexByte r 39).toNat + 1)) := by rw [hst, if_neg hc4, hc5]; rfl
     rw [hm, e, skipR_no hc5]
   ·(try simp only [blS] at hc5)
    refine zD hG [(9, 0, .callG (.c (.d (.v (.nilIface)))) [200, 606] [(0, .box 89 [.bx 0 0, .ar 1 0]), (1, .arr 0 5 1 (((es) ++ bytesD ((S r).extract 0 (Lib.indexByte r 39 : Int).toNat).data.toList) ++ [[D.y 39]]))])] (1, n - 1, acc ++ (r.take (Lib.indexByte r 39).toNat) ++ [39], skipR 39 (r.drop ((Lib.indexByte r 39).toNat + 1)), ((es) ++ bytesD ((S r).extract 0 (Lib.indexByte r 39 : Int).toNat).data.toList) ++ [[D.y 39]]) (by kernel_rfl) (conj1 ((writeByte1 ((es) ++ bytesD ((S r).extract 0 (Lib.indexByte r 39 : Int).toNat).data.toList) 39 (by first | (rw [bytesD_len, S_cut, S_data]; simp only [zq7, List.drop_zero]; omega) | (rw [List.length_append, hes rfl, bytesD_len, bytesD_len, S_cut, S_data, S_data]; simp only [zq7, List.drop_zero]; omega)) : SpG g _ _ _ _ _))) ?_ ?_
    ·(try dsimp only); omega
    ·refine ⟨by omega, by omega, by omega, by simp only [zq1]; omega, ?_, fun _ => ?_⟩
     ·rw [hm, hst, if_neg hc4, if_pos hc5]
     ·exact es_39 (by first | exact es_one (hz rfl) | exact es_app (hes rfl))
def zq8 := And.intro @S_eqf (And.intro @S_eqv (@blS))
theorem cell_0 (r : List UInt8) (hl : r.length < 999999990) (hr : EndsW r) (ha : ascii (48 :: r) = true) :
  SpG g 184 [.c (.bx 0 0)] [(0, .box 206 [.d (.s (S (33 :: 48 :: r)))])] (.tup [(true, [.d (.i 0), .d (.s (S [])), .d (.i 0), .d (.i 0), .d (.i 0), .d (.nil), .d (.nil)]), (false, [.d (.b true)])]) [(0, .box 206 [.d (.s (S r))])] := by
 refine enterB 50 Tryz.func184 (by kernel_rfl) fun fr hG => ?_
 refine zC hG [] [1, 0, 1] ((S (33 :: 48 :: r)).toList == (S []).toList) (⟨[(0, [], .c (.bx 0 0)), (2, [], .c (.bx 100 0)), (3, [], .c (.d (.b false)))], [(0, .box 206 [.d (.s (S (33 :: 48 :: r)))]), (100, .box 61 [.d (.i 0), .d (.s (S [])), .d (.i 0), .d (.i 0), .d (.i 0), .d (.nil), .d (.nil)])]⟩) (by kernel_rfl) conj0 (fun hc1 => ?_) (fun hc1 => ?_)
 ·(try simp only [zq8] at hc1)
  exact absurd hc1 (by simp)
 ·(try simp only [zq8] at hc1)
  refine zC hG [(4, 6, .elem [.i 0])] [1, 0, 1, 1, 1, 1] (false) (⟨[(0, [], .c (.bx 0 0)), (2, [], .c (.bx 100 0)), (3, [], .c (.d (.b false))), (5, [], .c (.fn 260 [(0, 0)] []))], [(0, .box 206 [.d (.s (S (33 :: 48 :: r)))]), (100, .box 61 [.d (.i 0), .d (.s (S [])), .d (.i 0), .d (.i 0), .d (.i 0), .d (.nil), .d (.nil)])]⟩) (by kernel_rfl) (conjC (show (0 : Int) ≤ 0 ∧ 0 < ((S (33 :: 48 :: r)).size : Int) from (by first | (intro h; rw [S_eqf] at h; have := List.length_pos_iff.2 h; rw [S_size]; omega) | (intros; rw [S_size]; simp only [List.length_cons]; omega) | omega)) (conj1 (show (byteAt (S (33 :: 48 :: r)) 0 : Int) = 33 from (byte0 33 (48 :: r))))) (fun hc2 => absurd hc2 (by decide)) (fun _ => ?_)
  exact zr hG [(8, 1, .callG (.tup [(true, [.d (.i 0), .d (.s (S [])), .d (.i 0), .d (.i 0), .d (.i 0), .d (.nil), .d (.nil)]), (false, [.d (.b true)])]) [0] [(0, .box 206 [.d (.s (S r))])])] [] (by kernel_rfl) (conjC (show (0 : Int) ≤ 1 ∧ (1 : Int) ≤ ((S (33 :: 48 :: r)).size : Int) ∧ ((S (33 :: 48 :: r)).size : Int) ≤ ((S (33 :: 48 :: r)).size : Int) from (by first | (intro h; rw [S_eqf] at h; have := List.length_pos_iff.2 h; rw [S_size]; omega) | (intros; rw [S_size]; simp only [List.length_cons]; omega) | omega)) (conj1 ((sp_ref (S_tail 33 (48 :: r)) (failure0 r (by omega) hr ha) : SpG g _ _ _ _ _))))
theorem cell_1 (t : List UInt8) (hl : t.length < 999999999) :
  SpG g 184 [.c (.bx 0 0)] [(0, .box 206 [.d (.s (S (39 :: t)))])] (.tup [(true, [.d (.i (if (tqM (t.length + 1) [] t).1 then 1 else 0)), .d (.s (S (tqM (t.length + 1) [] t).2.1)), .d (.i 0), .d (.i 0), .d (.i 0), .d (.nil), .d (.nil)]), (false, [.d (.b ((tqM (t.length + 1) [] t).1))])]) [(0, .box 206 [.d (.s (S (tqM (t.length + 1) [] t).2.2))])] := by
 refine enterB 50 Tryz.func184 (by kernel_rfl) fun fr hG => ?_
 refine zC hG [] [1, 0, 1] ((S (39 :: t)).toList == (S []).toList) (⟨[(0, [], .c (.bx 0 0)), (2, [], .c (.bx 100 0)), (3, [], .c (.d (.b false)))], [(0, .box 206 [.d (.s (S (39 :: t)))]), (100, .box 61 [.d (.i 0), .d (.s (S [])), .d (.i 0), .d (.i 0), .d (.i 0), .d (.nil), .d (.nil)])]⟩) (by kernel_rfl) conj0 (fun hc1 => ?_) (fun hc1 => ?_)
 ·(try simp only [zq8] at hc1)
  exact absurd hc1 (by simp)
 ·(try simp only [zq8] at hc1)
  refine zC hG [(4, 6, .elem [.i 1])] [1, 0, 1, 1, 1, 1] (false) (⟨[(0, [], .c (.bx 0 0)), (2, [], .c (.bx 100 0)), (3, [], .c (.d (.b false))), (5, [], .c (.fn 261 [(0, 0)] []))], [(0, .box 206 [.d (.s (S (39 :: t)))]), (100, .box 61 [.d (.i 0), .d (.s (S [])), .d (.i 0), .d (.i 0), .d (.i 0), .d (.nil), .d (.nil)])]⟩) (by kernel_rfl) (conjC (show (0 : Int) ≤ 0 ∧ 0 < ((S (39 :: t)).size : Int) from (by first | (intro h; rw [S_eqf] at h; have := List.length_pos_iff.2 h; rw [S_size]; omega) | (intros; rw [S_size]; simp only [List.length_cons]; omega) | omega)) (conj1 (show (byteAt (S (39 :: t)) 0 : Int) = 39 from (byte0 39 t)))) (fun hc2 => absurd hc2 (by decide)) (fun _ => ?_)
  exact zr hG [(8, 1, .callG (.tup [(true, [.d (.i (if (tqM (t.length + 1) [] t).1 then 1 else 0)), .d (.s (S (tqM (t.length + 1) [] t).2.1)), .d (.i 0), .d (.i 0), .d (.i 0), .d (.nil), .d (.nil)]), (false, [.d (.b ((tqM (t.length + 1) [] t).1))])]) [0] [(0, .box 206 [.d (.s (S (tqM (t.length + 1) [] t).2.2))])])] [] (by kernel_rfl) (conjC (show (0 : Int) ≤ 1 ∧ (1 : Int) ≤ ((S (39 :: t)).size : Int) ∧ ((S (39 :: t)).size : Int) ≤ ((S (39 :: t)).size : Int) from (by first | (intro h; rw [S_eqf] at h; have := List.length_pos_iff.2 h; rw [S_size]; omega) | (intros; rw [S_size]; simp only [List.length_cons]; omega) | omega)) (conj1 ((sp_ref (S_tail 39 t) (textR_ok t (by omega)) : SpG g _ _ _ _ _))))
theorem cell_tv (v : Tv) (hv : tvOk v) (r : List UInt8) (hl : r.length < 900000000) (hr : EndsW r) (ha : ascii r = true) : SpG g 184 [.c (.bx 0 0)] [(0, .box 206 [.d (.s (S (tvT v ++ r)))])] (.tup [(true, [.d (.i (tvK v)), .d (.s (S (tvS v))), .d (.i 0), .d (.i 0), .d (.i 0), .d (.sl 1 (([] : List (List D)))), .d (.sl 1 (([] : List (List D))))]), (false, [.d (.b true)])]) [(0, .box 206 [.d (.s (S (r)))])] := by
 have h : SpG g 184 [.c (.bx 0 0)] [(0, .box 206 [.d (.s (S (tvT v ++ r)))])] (.tup [(true, [.d (.i (tvK v)), .d (.s (S (tvS v))), .d (.i 0), .d (.i 0), .d (.i 0), .d .nil, .d .nil]), (false, [.d (.b true)])]) [(0, .box 206 [.d (.s (S (r)))])] := by
  cases v with
  | none => exact cell_0 r (by omega) hr (by simp only [ascii, List.all_cons] at ha ⊢; rw [ha]; rfl)
  | some s =>
   have hs := tvOk_len hv
   have h2 := escL_len s
   have e : tvT (some s) ++ r = 39 :: (escL s ++ 39 :: r) := by simp [tvT]
   have hc := cell_1 (g := g) (escL s ++ 39 :: r) (by simp only [zq0, tvS] at *; omega)
   rw [tq_tv s hr] at hc
   rw [e]
   exact hc
 exact spec_outT [[none, none, none, none, none, some 1, some 1], []] h
theorem skip91 (v : Tv) (r : List UInt8) : SpG g 122 [.c (.bx 0 0), .c (.d (.y 91))] [(0, .box 206 [.d (.s (S (tvT v ++ r)))])] (.c (.d (.b false))) [(0, .box 206 [.d (.s (S (tvT v ++ r)))])] := by
 have h := skip_ok (g := g) (tvT v ++ r) 91
 have e : skipK 91 (tvT v ++ r) = false := by cases v <;> rfl
 rw [e, skipR_no e] at h
 exact h
theorem value_tv (v : Tv) (hv : tvOk v) (r : List UInt8) (hl : r.length < 900000000) (hr : EndsW r) (ha : ascii r = true) :
  SpG g 121 [.c (.bx 0 0)] [(0, .box 206 [.d (.s (S (tvT v ++ r)))])] (.tup [(true, [.d (.i (tvK v)), .d (.s (S (tvS v))), .d (.i 0), .d (.i 0), .d (.i 0), .d (.sl 1 (([] : List (List D)))), .d (.sl 1 (([] : List (List D))))]), (false, [.d (.b true)])]) [(0, .box 206 [.d (.s (S r))])] := by
 refine enterB 14 Tryz.func121 (by kernel_rfl) fun fr hG => ?_
 refine zC hG [(1, 1, .callG (.c (.d (.b false))) [0] [(0, .box 206 [.d (.s (S (tvT v ++ r)))])])] [1, 0, 1] (false) (⟨[(0, [], .c (.bx 0 0)), (2, [], .c (.bx 100 0)), (3, [], .c (.d (.b false)))], [(0, .box 206 [.d (.s (S (tvT v ++ r)))]), (100, .box 61 [.d (.i 0), .d (.s (S [])), .d (.i 0), .d (.i 0), .d (.i 0), .d (.nil), .d (.nil)])]⟩) (by kernel_rfl) (conj1 ((skip91 v r : SpG g _ _ _ _ _))) (fun hc1 => absurd hc1 (by decide)) (fun _ => ?_)
 exact zr hG [(3, 1, .callG (.tup [(true, [.d (.i (tvK v)), .d (.s (S (tvS v))), .d (.i 0), .d (.i 0), .d (.i 0), .d (.sl 1 (([] : List (List D)))), .d (.sl 1 (([] : List (List D))))]), (false, [.d (.b true)])]) [0] [(0, .box 206 [.d (.s (S r))])])] [] (by kernel_rfl) (conj1 ((cell_tv v hv r hl hr ha : SpG g _ _ _ _ _)))
theorem value_end (v : Tv) (hv : tvOk v) : SpG g 121 [.c (.bx 0 0)] [(0, .box 206 [.d (.s (S (tvT v)))])] (.tup [(true, [.d (.i (tvK v)), .d (.s (S (tvS v))), .d (.i 0), .d (.i 0), .d (.i 0), .d (.sl 1 (([] : List (List D)))), .d (.sl 1 (([] : List (List D))))]), (false, [.d (.b true)])]) [(0, .box 206 [.d (.s (S ([])))])] := by
 have h := value_tv (g := g) v hv [] (by simp) (.inl rfl) rfl
 rw [List.append_nil] at h
 exact h
theorem read_tv (v : Tv) (hv : tvOk v) :
  SpG g 71 [.c (.d (.s (S (tvT v))))] [] (.tup [(true, [.d (.i (tvK v)), .d (.s (S (tvS v))), .d (.i 0), .d (.i 0), .d (.i 0), .d (.sl 1 (([] : List (List D)))), .d (.sl 1 (([] : List (List D))))]), (false, [.d (.b true)])]) [] := by
 refine enterB 37 Tryz.func71 (by kernel_rfl) fun fr hG => ?_
 refine zC hG [(2, 1, .callG (.tup [(true, [.d (.i (tvK v)), .d (.s (S (tvS v))), .d (.i 0), .d (.i 0), .d (.i 0), .d (.sl 1 (([] : List (List D)))), .d (.sl 1 (([] : List (List D))))]), (false, [.d (.b true)])]) [202] [(0, .box 206 [.d (.s (S []))])]), (3, 11, .call (.c (.d (.b true))) [] []), (3, 16, .call (.c (.d (.s (S (tvT v))))) [] [])] [1, 0, 1, 1, 1] (!((S (tvT v)).toList == (S (tvT v)).toList)) (⟨[(2, [], .c (.bx 100 0)), (3, [], .c (.d (.b false))), (5, [], .c (.bx 305 0))], [(100, .box 61 [.d (.i 0), .d (.s (S [])), .d (.i 0), .d (.i 0), .d (.i 0), .d (.nil), .d (.nil)]), (305, .box 61 [.d (.i (tvK v)), .d (.s (S (tvS v))), .d (.i 0), .d (.i 0), .d (.i 0), .d (.sl 1 (([] : List (List D)))), .d (.sl 1 (([] : List (List D))))])]⟩) (by kernel_rfl) (conjC ((value_end v hv : SpG g _ _ _ _ _)) (conjC (fun (hg1 : false = false) => ((right_tv v (by assumption) : SpG g _ _ _ _ _))) (conj1 (fun (hg1 : false = false) => ((text_tv v (by assumption) : SpG g _ _ _ _ _)))))) (fun hc1 => ?_) (fun hc1 => ?_)
 ·(try simp only [zq8] at hc1)
  simp at hc1
 ·(try simp only [zq8] at hc1)
  exact zr hG [] [] (by kernel_rfl) conj0
theorem readRow_nil  :
  SpG g 70 [.c (.d (.s (S [])))] [] (.tup [(false, [.d (.nil)]), (false, [.d (.b true)])]) [] := by
 refine enterB 35 Tryz.func70 (by kernel_rfl) fun fr hG => ?_
 refine zC hG [] [1, 0, 1] (true) (⟨[(0, [], .c (.d (.s (S [])))), (2, [], .c (.d (.nil))), (3, [], .c (.d (.b false)))], []⟩) (by kernel_rfl) conj0 (fun _ => ?_) (fun hc1 => absurd hc1 (by decide))
 exact zr hG [] [] (by kernel_rfl) conj0
theorem value_at (l : List Tv) (hl : l.length ≤ 8) (hT : ∀ v, v ∈ l → tvOk v) (k : Nat) (h : k < l.length) : SpG g 121 [.c (.bx 0 0)] [(0, .box 206 [.d (.s (S (rwT (l.drop k))))])] (.tup [(true, [.d (.i (tvK (l.getD k none))), .d (.s (S (tvS (l.getD k none)))), .d (.i 0), .d (.i 0), .d (.i 0), .d (.sl 1 (([] : List (List D)))), .d (.sl 1 (([] : List (List D))))]), (false, [.d (.b true)])]) [(0, .box 206 [.d (.s (S (tlR l k)))])] := by
 have ha := rwT_ascii (l := l.drop (k + 1)) fun v hv => hT v (List.mem_of_mem_drop hv)
 have h2 := rwT_len (l := l.drop (k + 1)) fun v hv => hT v (List.mem_of_mem_drop hv)
 have h3 : (tlR l k).length < 900000000 ∧ ascii (tlR l k) = true := by
  unfold tlR
  rw [List.length_drop] at h2
  split
  ·refine ⟨by simp only [List.length_cons]; omega, ?_⟩
   simp only [ascii, List.all_cons] at ha ⊢; rw [ha]; rfl
  ·exact ⟨by simp, rfl⟩
 have := value_tv (g := g) (l.getD k none) (hT _ (getD_mem h)) (tlR l k) h3.1 (tlR_end l k) h3.2
 rw [← rwT_at h] at this
 exact this
theorem skip_at (l : List Tv) (k : Nat) : SpG g 122 [.c (.bx 0 0), .c (.d (.y 124))] [(0, .box 206 [.d (.s (S (tlR l k)))])] (.c (.d (.b (decide (k + 1 < l.length))))) [(0, .box 206 [.d (.s (S (rwT (l.drop (k + 1)))))])] := by
 have h := skip_ok (g := g) (tlR l k) 124
 rw [(skip_tl l k).1, (skip_tl l k).2] at h
 exact h
theorem rowText_es {es : List (List D)} {l : List Tv} (h : es = tvsD l) (hl : l.length ≤ 8) (hT : ∀ v, v ∈ l → tvOk v) : SpG g 53 [.c (.d (.sl 7 es))] [] (.c (.d (.s (S (rwT l))))) [] := by subst h; exact rowText_tv l hl hT
theorem tvs_snoc {l : List Tv} {k : Nat} (h : k < l.length) : tvsD (l.take k) ++ [TvD (l.getD k none)] = tvsD (l.take (k + 1)) := by rw [take_snoc none h]; simp [tvsD]
def zq9 := And.intro @List.length_append.{0} (And.intro @List.length_cons.{0} (And.intro @List.length_map.{0, 0} (And.intro @List.length_nil.{0} (@Go.Eng.inR.eq_1))))
theorem readRow_tv (l : List Tv) (hl : l.length ≤ 8) (hne : l ≠ []) (hT : ∀ v, v ∈ l → tvOk v) :
  SpG g 70 [.c (.d (.s (S (rwT l))))] [] (.tup [(false, [.d (.sl 7 (tvsD l))]), (false, [.d (.b true)])]) [] := by
 refine enterB 35 Tryz.func70 (by kernel_rfl) fun fr hG => ?_
 refine zC hG [] [1, 0, 1] ((S (rwT l)).toList == (S []).toList) (⟨[(0, [], .c (.d (.s (S (rwT l))))), (2, [], .c (.d (.nil))), (3, [], .c (.d (.b false)))], []⟩) (by kernel_rfl) conj0 (fun hc1 => ?_) (fun hc1 => ?_)
 ·(try simp only [zq8] at hc1)
  exact absurd hc1 (rwT_ne hne)
 ·(try simp only [zq8] at hc1)
  refine zA hG [] [0, 0, 1, 1, 1, 1] (⟨[(0, [], .c (.d (.s (S (rwT l))))), (2, [], .c (.d (.nil))), (3, [], .c (.d (.b false))), (4, [], .c (.bx 402 0)), (5, [], .c (.d (.nil)))], [(402, .box 206 [.d (.s (S (rwT l)))])]⟩) [(5, 9003, 61, 7)] [] (fun (zz : Nat × List (List D)) => match zz with | (k, es) => (l.length - k, ⟨[(0, [], .c (.d (.s (S (rwT l))))), (2, [], .c (.d (.nil))), (3, [], .c (.d (.b false))), (4, [], .c (.bx 402 0)), (5, [], .c (.ar 9003 0))], [(402, .box 206 [.d (.s (S (rwT (l.drop k))))]), (9003, .arr 0 61 7 (es))]⟩, k < l.length ∧ es = tvsD (l.take k))) (0, []) (by kernel_rfl) conj0 (by kernel_rfl) (by kernel_rfl) ?_ ?_
  ·exact ⟨List.length_pos_iff.2 hne, rfl⟩
  rintro ⟨k, es⟩ ⟨hk, hes⟩
  have hel : es.length = k := by rw [hes, tvsD, List.length_map, List.length_take]; omega
  refine zc hG [] [1, 0] (decide ((((es).length : Int) : Int) < 8)) (by kernel_rfl) conj0 (fun hc3 => ?_) (fun hc3 => ?_)
  ·(try simp only [zq8] at hc3)
   refine zC hG [(6, 1, .callG (.tup [(true, [.d (.i (tvK (l.getD k none))), .d (.s (S (tvS (l.getD k none)))), .d (.i 0), .d (.i 0), .d (.i 0), .d (.sl 1 (([] : List (List D)))), .d (.sl 1 (([] : List (List D))))]), (false, [.d (.b true)])]) [402] [(0, .box 206 [.d (.s (S (tlR l k)))])])] [1, 0, 1, 0, 1] (false) (⟨[(0, [], .c (.d (.s (S (rwT l))))), (2, [], .c (.d (.nil))), (3, [], .c (.d (.b false))), (4, [], .c (.bx 402 0)), (5, [], .c (.ar 9003 0)), (6, [], .c (.bx 705 0))], [(402, .box 206 [.d (.s (S (tlR l k)))]), (705, .box 61 [.d (.i (tvK (l.getD k none))), .d (.s (S (tvS (l.getD k none)))), .d (.i 0), .d (.i 0), .d (.i 0), .d (.sl 1 (([] : List (List D)))), .d (.sl 1 (([] : List (List D))))]), (9003, .arr 0 61 7 (es))]⟩) (by kernel_rfl) (conj1 ((value_at l hl hT k hk : SpG g _ _ _ _ _))) (fun hc4 => absurd hc4 (by decide)) (fun _ => ?_)
   refine zC hG [(10, 1, .callG (.c (.d (.b (decide (k + 1 < l.length))))) [402] [(0, .box 206 [.d (.s (S (rwT (l.drop (k + 1)))))])])] [1, 1, 1, 1, 0, 1] (!(decide (k + 1 < l.length))) (⟨[(0, [], .c (.d (.s (S (rwT l))))), (2, [], .c (.d (.nil))), (3, [], .c (.d (.b false))), (4, [], .c (.bx 402 0)), (5, [], .c (.ar 9003 0))], [(402, .box 206 [.d (.s (S (rwT (l.drop (k + 1)))))]), (9003, .arr 0 61 7 (es ++ ([[.i (tvK (l.getD k none)), .s (S (tvS (l.getD k none))), .i 0, .i 0, .i 0, .sl 1 (([] : List (List D))), .sl 1 (([] : List (List D)))]] : List (List D))))]⟩) (by kernel_rfl) (conjC (show ((es).length + (([[.i (tvK (l.getD k none)), .s (S (tvS (l.getD k none))), .i 0, .i 0, .i 0, .sl 1 (([] : List (List D))), .sl 1 (([] : List (List D)))]] : List (List D))).length) * (96 + 1) ≤ 140737488355328 from (by intros; (try simp only [zq9, tvsD] at *); omega)) (conj1 ((skip_at l k : SpG g _ _ _ _ _)))) (fun hc5 => ?_) (fun hc5 => ?_)
   ·(try simp only [zq8] at hc5)
    refine zE hG [] (.exit 0) (⟨[(0, [], .c (.d (.s (S (rwT l))))), (2, [], .c (.d (.nil))), (3, [], .c (.d (.b false))), (5, [], .c (.ar 9003 0))], [(9003, .arr 0 61 7 (es ++ ([[.i (tvK (l.getD k none)), .s (S (tvS (l.getD k none))), .i 0, .i 0, .i 0, .sl 1 (([] : List (List D))), .sl 1 (([] : List (List D)))]] : List (List D))))]⟩) (by kernel_rfl) conj0 rfl ?_
    refine zC hG [(11, 1, .call (.c (.d (.s (S (rwT l))))) [] [])] [1, 0, 1, 1, 1, 1, 1] (!((S (rwT l)).toList == (S (rwT l)).toList)) (⟨[(2, [], .c (.d (.nil))), (3, [], .c (.d (.b false))), (5, [], .c (.ar 9003 0))], [(9003, .arr 0 61 7 (es ++ ([[.i (tvK (l.getD k none)), .s (S (tvS (l.getD k none))), .i 0, .i 0, .i 0, .sl 1 (([] : List (List D))), .sl 1 (([] : List (List D)))]] : List (List D))))]⟩) (by kernel_rfl) (conj1 ((rowText_es (es := es ++ ([[.i (tvK (l.getD k none)), .s (S (tvS (l.getD k none))), .i 0, .i 0, .i 0, .sl 1 (([] : List (List D))), .sl 1 (([] : List (List D)))]] : List (List D))) (l := l) (by have e := tvs_snoc hk; rw [List.take_of_length_le (l := l) (i := k + 1) (by simp at hc5; omega)] at e; rw [hes]; exact e) hl hT : SpG g _ _ _ _ _))) (fun hc6 => ?_) (fun hc6 => ?_)
    ·(try simp only [zq8] at hc6)
     simp at hc6
    ·(try simp only [zq8] at hc6)
     refine zR hG [] [] (.tup [(false, [.d (.sl 7 (es ++ ([[.i (tvK (l.getD k none)), .s (S (tvS (l.getD k none))), .i 0, .i 0, .i 0, .sl 1 (([] : List (List D))), .sl 1 (([] : List (List D)))]] : List (List D))))]), (false, [.d (.b true)])]) [] (by kernel_rfl) conj0 ?_ ?_
     ·have e : es ++ [TvD (l.getD k none)] = tvsD l := by rw [hes, tvs_snoc hk, List.take_of_length_le (by simp at hc5; omega)]
      exact congrArg (fun x => SV.tup [(false, [C.d (D.sl 7 x)]), (false, [C.d (D.b true)])]) e
     ·rfl
   ·(try simp only [zq8] at hc5)
    refine zD hG [] (k + 1, es ++ ([[.i (tvK (l.getD k none)), .s (S (tvS (l.getD k none))), .i 0, .i 0, .i 0, .sl 1 (([] : List (List D))), .sl 1 (([] : List (List D)))]] : List (List D))) (by kernel_rfl) conj0 ?_ ?_
    ·(try dsimp only); omega
    ·exact ⟨by simpa using hc5, by rw [hes]; exact tvs_snoc hk⟩
  ·(try simp only [zq8] at hc3)
   exfalso; omega
end Go.Proofs.YtclaplngjmgnoaaGreatDoor
namespace Go.Proofs.YtclaplngjmgnoaaGreatDoor
open Go.RowKit Go.V
open Go.Eng (inR byteAt u8 bytesV)
variable {g : Gv}
structure It where
 id : Int
 author : Int
 rank : Int
 time : Int
 kind : Int
 input : List Tv
 output : Tv
 prop : List UInt8
 param : List UInt8
 program : List Int
 deriving DecidableEq
def It.z : It := ⟨0, 0, 0, 0, 0, [], none, [], [], []⟩
def ItD (i : It) : List D := [.i i.id, .i i.author, .i i.rank, .i i.time, .i i.kind, .sl 7 (tvsD i.input), .i (tvK i.output), .s (S (tvS i.output)), .i 0, .i 0, .i 0, .sl 1 [], .sl 1 [], .s (S i.prop), .s (S i.param), .sl 1 (intsD i.program)]
def itsD (l : List It) : List (List D) := l.map ItD
structure ItOk (i : It) : Prop where
 id : nOk i.id
 author : nOk i.author
 rank : nOk i.rank
 time : nOk i.time
 kind : nOk i.kind
 len : i.input.length ≤ 8
 cells : ∀ v, v ∈ i.input → tvOk v
 output : tvOk i.output
 prop : i.prop.length ≤ 500
 param : i.param.length ≤ 500
 plen : i.program.length ≤ 1000
 prog : ∀ n, n ∈ i.program → nOk n
def wdT (s : List UInt8) : List UInt8 := Lib.itoa (s.length : Int) ++ 58 :: s
def idsL (i : It) : List Int := [i.id, i.author, i.rank, i.time, i.kind]
def wsL (i : It) : List (List UInt8) := [rwT i.input, tvT i.output, i.prop, i.param]
def prT (i : It) : List UInt8 := joinL [44] (i.program.map Lib.itoa)
def itP (i : It) : List (List UInt8) := [[105, 116, 101, 109]] ++ (idsL i).map Lib.itoa ++ (wsL i).map wdT ++ [prT i]
def itT (i : It) : List UInt8 := joinL [32] (itP i)
def rsT (i : It) (k : Nat) : List UInt8 := joinL [32] ((itP i).drop k)
theorem itP_len (i : It) : (itP i).length = 11 := rfl
theorem nOk_len {n : Nat} (h : n ≤ 1000000) : nOk (n : Int) := ⟨by omega, by omega⟩
theorem sum_le {c : Nat} : ∀ {l : List (List UInt8)} {k : Nat}, (∀ x, x ∈ l → x.length ≤ c) → sumL k l ≤ (c + k) * l.length
 | [], _, _ => by simp [sumL]
 | x :: l, k, h => by
  have h1 := h x (by simp)
  have h2 := sum_le (k := k) fun y hy => h y (List.mem_cons_of_mem x hy)
  unfold sumL at *
  simp only [List.map_cons, List.sum_cons, List.length_cons, Nat.mul_add, Nat.mul_one]
  omega
theorem prT_sum {i : It} (h : ItOk i) : sumL 1 (i.program.map Lib.itoa) ≤ 15000 := by
 have := sum_le (c := 14) (l := i.program.map Lib.itoa) (k := 1) fun x hx => by
  obtain ⟨n, hn, rfl⟩ := List.mem_map.1 hx
  exact itoa_len (h.prog n hn)
 have h2 := h.plen
 rw [List.length_map] at this
 omega
theorem prT_len {i : It} (h : ItOk i) : (prT i).length ≤ 15000 := Nat.le_trans (joinL_len [44] _) (prT_sum h)
theorem ws_len {i : It} (h : ItOk i) : ∀ x, x ∈ wsL i → x.length ≤ 3300 := by
 intro x hx
 simp only [wsL, List.mem_cons, List.not_mem_nil, or_false] at hx
 have h1 := rwT_len h.cells
 have h2 := h.len
 have h3 := tvT_len h.output
 have h4 := h.prop
 have h5 := h.param
 rcases hx with rfl | rfl | rfl | rfl <;> omega
theorem wd_len {i : It} (h : ItOk i) : ∀ x, x ∈ wsL i → (wdT x).length ≤ 3320 := by
 intro x hx
 have h1 := ws_len h x hx
 have h2 := itoa_len (nOk_len (n := x.length) (by omega))
 simp only [zq0, wdT]; omega
theorem ids_ok {i : It} (h : ItOk i) : ∀ x, x ∈ idsL i → nOk x := by
 intro x hx
 simp only [idsL, List.mem_cons, List.not_mem_nil, or_false] at hx
 rcases hx with rfl | rfl | rfl | rfl | rfl
 ·exact h.id
 ·exact h.author
 ·exact h.rank
 ·exact h.time
 ·exact h.kind
theorem itP_sum {i : It} (h : ItOk i) : sumL 1 (itP i) ≤ 200000 := by
 have := sum_le (c := 15000) (l := itP i) (k := 1) fun x hx => by
  simp only [itP, List.mem_append, List.mem_map, List.mem_cons, List.not_mem_nil, or_false] at hx
  rcases hx with ((rfl | ⟨n, hn, rfl⟩) | ⟨y, hy, rfl⟩) | rfl
  ·decide
  ·have := itoa_len (ids_ok h n hn); omega
  ·have := wd_len h y hy; omega
  ·exact prT_len h
 rw [itP_len] at this
 omega
theorem itT_len {i : It} (h : ItOk i) : (itT i).length ≤ 200000 := Nat.le_trans (joinL_len [32] _) (itP_sum h)
theorem rsT_step (i : It) {k : Nat} (h : k < 10) : rsT i k = (itP i).getD k [] ++ 32 :: rsT i (k + 1) := by
 unfold rsT
 have e : (itP i).drop k = (itP i).getD k [] :: (itP i).drop (k + 1) := by
  have hk : k < (itP i).length := by rw [itP_len]; omega
  rw [List.getD_eq_getElem?_getD, List.getElem?_eq_getElem hk]; exact List.drop_eq_getElem_cons hk
 obtain ⟨x, r, hx⟩ : ∃ x r, (itP i).drop (k + 1) = x :: r := by
  cases hd : (itP i).drop (k + 1) with
  | nil => have := congrArg List.length hd; rw [List.length_drop, itP_len, List.length_nil] at this; omega
  | cons x r => exact ⟨x, r, rfl⟩
 rw [e, hx]; simp [joinL]
theorem rsT_le (i : It) : ∀ k, k ≤ 10 → (rsT i k).length ≤ (itT i).length
 | 0, _ => Nat.le_refl _
 | k + 1, h => by
  have := rsT_le i k (by omega)
  rw [rsT_step i (by omega)] at this
  simp only [zq0] at this
  omega
theorem rsT_end (i : It) : rsT i 10 = prT i := rfl
theorem itT_head (i : It) : itT i = [105, 116, 101, 109, 32] ++ rsT i 1 := rsT_step i (k := 0) (by decide)
theorem itT_ne (i : It) : itT i ≠ [] := by rw [itT_head]; simp
theorem cut_at {a r : List UInt8} {c : UInt8} (h : ∀ x, x ∈ a → ¬ x = c) : Lib.cut (a ++ c :: r) [c] = (a, r, true) := by
 rw [Lib.cut, index_skip h, if_pos (by omega), Int.toNat_natCast]
 simp
theorem cutPrefix_it (i : It) : SpG g 65 [.c (.d (.s (S (itT i)))), .c (.d (.s (S [105, 116, 101, 109, 32])))] [] (.tup [(false, [.d (.s (S (rsT i 1)))]), (false, [.d (.b true)])]) [] := by
 have h := cutPrefix_ok (g := g) (itT i) [105, 116, 101, 109, 32]
 have e : Lib.hasPrefix (itT i) [105, 116, 101, 109, 32] = true := by
  rw [itT_head, Lib.hasPrefix, List.isPrefixOf_iff_prefix]; exact List.prefix_append _ _
 rw [Lib.trimPrefix, e, if_pos rfl] at h
 have e2 : (itT i).drop ([105, 116, 101, 109, 32] : List UInt8).length = rsT i 1 := by rw [itT_head]; exact List.drop_left
 rw [e2] at h
 exact h
theorem cut_num {i : It} (h : ItOk i) {k : Nat} (hk : k < 5) : SpG g 67 [.c (.d (.s (S (rsT i (k + 1))))), .c (.d (.s (S [32])))] [] (.tup [(false, [.d (.s (S (Lib.itoa ((idsL i).getD k 0))))]), (false, [.d (.s (S (rsT i (k + 2))))]), (false, [.d (.b true)])]) [] := by
 have hl := itT_len h
 have hr := rsT_le i (k + 1) (by omega)
 have hc := cut_ok' (g := g) (rsT i (k + 1)) [32] (by omega)
 have e : (itP i).getD (k + 1) [] = Lib.itoa ((idsL i).getD k 0) := by
  match k, hk with
  | 0, _ => rfl
  | 1, _ => rfl
  | 2, _ => rfl
  | 3, _ => rfl
  | 4, _ => rfl
 have := rsT_step i (k := k + 1) (by omega)
 rw [e] at this
 rw [this] at hc ⊢
 rw [cut_at (itoa_not (.inl rfl))] at hc
 exact hc
def wrT (i : It) (k : Nat) : List UInt8 := (wsL i).getD k [] ++ 32 :: rsT i (k + 7)
theorem cut_wd {i : It} (h : ItOk i) {k : Nat} (hk : k < 4) : SpG g 67 [.c (.d (.s (S (rsT i (k + 6))))), .c (.d (.s (S [58])))] [] (.tup [(false, [.d (.s (S (Lib.itoa (((wsL i).getD k []).length : Int))))]), (false, [.d (.s (S (wrT i k)))]), (false, [.d (.b true)])]) [] := by
 have hl := itT_len h
 have hr := rsT_le i (k + 6) (by omega)
 have hc := cut_ok' (g := g) (rsT i (k + 6)) [58] (by omega)
 have e : (itP i).getD (k + 6) [] = wdT ((wsL i).getD k []) := by
  match k, hk with
  | 0, _ => rfl
  | 1, _ => rfl
  | 2, _ => rfl
  | 3, _ => rfl
 have := rsT_step i (k := k + 6) (by omega)
 rw [e] at this
 have e2 : wdT ((wsL i).getD k []) ++ 32 :: rsT i (k + 6 + 1) = Lib.itoa (((wsL i).getD k []).length : Int) ++ 58 :: wrT i k := by simp [wdT, wrT]
 rw [e2] at this
 rw [this] at hc ⊢
 rw [cut_at (itoa_not (.inr (.inl rfl)))] at hc
 exact hc
theorem wr_take (i : It) (k : Nat) : (S (wrT i k)).extract 0 (((wsL i).getD k []).length : Int).toNat = S ((wsL i).getD k []) := by
 rw [S_cut, wrT, Int.toNat_natCast]; simp
theorem wr_drop (i : It) (k : Nat) : (S (wrT i k)).extract ((((wsL i).getD k []).length : Int) + 1).toNat (S (wrT i k)).size = S (rsT i (k + 7)) := by
 have e : ((((wsL i).getD k []).length : Int) + 1).toNat = ((wsL i).getD k []).length + 1 := by omega
 rw [e, S_drop, wrT, ← List.drop_drop, List.drop_left]; rfl
theorem ws_get {i : It} (h : ItOk i) {k : Nat} (hk : k < 4) : ((wsL i).getD k []).length ≤ 3300 := ws_len h _ (getD_mem (by simpa [wsL] using hk))
theorem wr_len {i : It} (h : ItOk i) {k : Nat} (hk : k < 4) : (wrT i k).length ≤ 210000 := by
 have h1 := ws_get h hk
 have h2 := itT_len h
 have h3 := rsT_le i (k + 7) (by omega)
 simp only [zq0, wrT]; omega
theorem spec_row {f : FuncId} {ins : List SV} {args : List Value} {xs : List Value} {e : TypeId} (hi : exAll ins = some args) (h1 : ∀ x ∈ xs, x.oneCell' = true) (hn : xs.length ≤ maxLen)
  (h : ∀ w : World, (∀ g' cs, (g', cs) ∈ Gl g → ∃ ty fz, w.heap[g']? = some (.cells cs.toArray ty fz)) → Calls Tryz.prog f args.toArray w fun e' w' => e' = .returned (.slice (some ⟨w.heap.size, 0, none⟩) xs.length xs.length) ∧ w' = w.alloc (.cells xs.toArray e)) :
  V.Spec Tryz.prog (Gl g) f ins [] (.c (.ar 100 0)) [(100, .arr 0 ⟨e, []⟩ 1 (xs.map fun x => [.v x]))] := by
 intro fr w pl as0 hw hG m ha
 obtain ⟨hGG, _, _, _⟩ := hG
 rw [exAll_eq hi ha]
 refine Calls.mono (h w fun g' cs hg => by rw [← hw]; exact (m.frOk.glob g' cs (by rw [hGG]; exact hg)).1) ?_
 rintro e' w' ⟨rfl, rfl⟩
 have hfl : ∀ xs : List Value, (xs.map fun x => [D.v x]).flatten = xs.map D.v := by
  intro xs
  induction xs with
  | nil => rfl
  | cons x r ih => simp only [List.map_cons, List.flatten_cons, ih]; rfl
 obtain ⟨pl', m', L, hA⟩ := m.newArr (i := 100) (e := ⟨e, []⟩) (sz := 1) (es := xs.map fun x => [.v x]) (xs := xs) (A := some ⟨w.heap.size, 0, none⟩) (cap := xs.length) rfl (w' := w.alloc (.cells xs.toArray e)) ⟨rfl, rfl, rfl, by simp, fun k hk _ => Below.heap_alloc _ _ _ hk⟩
  ⟨by simp, .inr ⟨w.heap.size, xs.length, xs.toArray, by simp, Nat.zero_le _, heap_alloc_new w _, by simp, hn, by simp, by simp⟩⟩
  (fun ad h => by injection h with h; rw [← h]; exact Nat.le_refl _) (by rw [hfl xs]; exact AllO.of ⟨by simp, fun j d x hd hx => by
   simp only [List.getElem?_map, Option.map_eq_some_iff] at hd
   obtain ⟨y, hy, rfl⟩ := hd
   rw [hy] at hx
   simp only [Option.some.injEq] at hx
   subst hx
   exact .v _ (h1 _ (List.mem_of_getElem? hy))⟩) (fun ds hd => by
   obtain ⟨x, _, rfl⟩ := List.mem_map.1 hd
   rfl)
 have hown : upd (lookO []) 100 (.arr 0 ⟨e, []⟩ 1 (xs.map fun x => [.v x])) = lookO [(100, .arr 0 ⟨e, []⟩ 1 (xs.map fun x => [.v x]))] := by rw [lookO_cons]
 rw [hown] at m'
 exact ⟨_, pl', rfl, m', 0, ⟨e, []⟩, 1, _, rfl, Nat.le_refl _, fun _ => by rw [hA]; simp, rfl⟩
theorem split_ok' (s p : ByteArray) (hs : s.size < 4294967281) (h1 : 1 ≤ p.size) :
  V.Spec Tryz.prog (Gl g) 72 [.c (.d (.v (.string s))), .c (.d (.v (.string p)))] [] (.c (.ar 100 0)) [(100, .arr 0 ⟨9, []⟩ 1 (((Lib.splitB p 0 (Lib.countB s p) s).map Value.string).map fun x => [.v x]))] := by
 have hl : (Lib.splitB p 0 (Lib.countB s p) s).length = Lib.countB s p + 1 := Lib.splitB_all p h1 0 _ s rfl
 have hc := Lib.countB_le p h1 s.size s (Nat.le_refl _)
 refine spec_row (args := [.string s, .string p]) rfl (fun x hx => by obtain ⟨y, _, rfl⟩ := List.mem_map.1 hx; rfl) (by rw [List.length_map, hl]; unfold maxLen; omega) fun w hG => ?_
 obtain ⟨ty, fz, h0⟩ := hG 0 [.int .i64 g.maxLen] (by simp [Gl])
 have := Tryz.strings_Split s p g.maxLen w hs (by rw [Lib.cell_of_heap h0]; rfl) h1
 rw [List.length_map, hl]
 exact this
theorem count_parts {c : UInt8} : ∀ (l : List (List UInt8)) (x : List UInt8), (∀ y, y ∈ x :: l → ∀ b, b ∈ y → ¬ b = c) → (joinL [c] (x :: l)).count c = l.length
 | [], x, h => by
  simp only [joinL, List.length_nil]
  exact List.count_eq_zero.2 fun hm => h x (by simp) c hm rfl
 | y :: r, x, h => by
  have ih := count_parts r y fun z hz => h z (by simp only [List.mem_cons] at hz ⊢; exact .inr hz)
  have h0 : x.count c = 0 := List.count_eq_zero.2 fun hm => h x (by simp) c hm rfl
  simp only [joinL, List.count_append, h0, ih, List.length_cons]
  simp; omega
theorem split_parts {c : UInt8} : ∀ (l : List (List UInt8)) (x : List UInt8), (∀ y, y ∈ x :: l → ∀ b, b ∈ y → ¬ b = c) → Lib.splitB (S [c]) 0 l.length (S (joinL [c] (x :: l))) = (x :: l).map S
 | [], x, h => by simp [Lib.splitB, joinL]
 | y :: r, x, h => by
  have ih := split_parts r y fun z hz => h z (by simp only [List.mem_cons] at hz ⊢; exact .inr hz)
  have e : joinL [c] (x :: y :: r) = x ++ c :: joinL [c] (y :: r) := by simp [joinL]
  have hi : Lib.indexB (S (x ++ c :: joinL [c] (y :: r))) (S [c]) = (x.length : Int) := by
   show Lib.index (S _).data.toList (S [c]).data.toList = _
   rw [S_data, S_data]
   exact index_skip (h x (by simp))
  rw [e, List.length_cons, Lib.splitB_hit _ _ _ _ _ hi, S_cut]
  have h1 : (S [c]).size = 1 := rfl
  rw [h1, S_drop, Nat.add_zero, ← List.drop_drop, List.drop_left]
  show _ :: Lib.splitB (S [c]) 0 r.length (S (joinL [c] (y :: r))) = _
  rw [ih]
  simp
theorem split_pr {i : It} (h : ItOk i) (hp : i.program ≠ []) : SpG g 72 [.c (.d (.s (S (prT i)))), .c (.d (.s (S [44])))] [] (.c (.ar 100 0)) [(100, .arr 0 9 1 (strs (i.program.map Lib.itoa)))] := by
 have hl := prT_len h
 have := split_ok' (g := g) (S (prT i)) (S [44]) (by rw [S_size]; omega) (by decide)
 obtain ⟨x, r, hx⟩ : ∃ x r, i.program.map Lib.itoa = x :: r := by
  cases he : i.program with
  | nil => exact absurd he hp
  | cons y s => exact ⟨_, _, rfl⟩
 have hno : ∀ y, y ∈ x :: r → ∀ b, b ∈ y → ¬ b = 44 := by
  intro y hy b hb
  rw [← hx] at hy
  obtain ⟨n, _, rfl⟩ := List.mem_map.1 hy
  exact itoa_not (.inr (.inr rfl)) b hb
 have hc : Lib.countB (S (prT i)) (S [44]) = r.length := by
  show Lib.count (S _).data.toList (S [44]).data.toList = _
  rw [S_data, S_data, Lib.count_one, prT, hx]
  exact count_parts r x hno
 have hs : Lib.splitB (S [44]) 0 r.length (S (prT i)) = (x :: r).map S := by
  rw [prT, hx]; exact split_parts r x hno
 rw [hc, hs, ← hx] at this
 have e : (((i.program.map Lib.itoa).map S).map Value.string).map (fun x => [D.v x]) = strs (i.program.map Lib.itoa) := by
  rw [List.map_map, List.map_map]; rfl
 rw [e] at this
 exact this
theorem noTxt {i : It} (hi : ItOk i) (h : (i.input.length : Int) > 8 ∨ ((i.input.length : Int) > 0 ∧ rwT i.input = [])) : False := by
 have := hi.len
 rcases h with h | ⟨h, h2⟩
 ·omega
 ·exact rwT_ne (l := i.input) (by intro e; rw [e] at h; simp at h) h2
theorem prT_ne {i : It} (h : prT i = []) (hp : i.program ≠ []) : False := by
 unfold prT at h
 cases he : i.program with
 | nil => exact hp he
 | cons n r =>
  rw [he] at h
  cases r with
  | nil => exact itoa_ne n (by simpa [joinL] using h)
  | cons m s => simp [joinL] at h
def zq10 := And.intro @List.length_map.{0, 0} (And.intro @S_eqf (And.intro @S_eqv (And.intro @blS (And.intro @intsD.eq_1 (@strs.eq_1)))))
def zq11 := And.intro @List.length_append.{0} (And.intro @List.length_cons.{0} (And.intro @List.length_map.{0, 0} (And.intro @List.length_nil.{0} (And.intro @S_size (And.intro @Go.Eng.inR.eq_1 (And.intro @intsD.eq_1 (And.intro @maxLen.eq_1 (@strs.eq_1))))))))
theorem itText_ok (i : It) (hi : ItOk i) :
  SpG g 31 [.agg [.d (.i ((i).id)), .d (.i ((i).author)), .d (.i ((i).rank)), .d (.i ((i).time)), .d (.i ((i).kind)), .d (.sl 7 (tvsD ((i).input))), .d (.i (tvK ((i).output))), .d (.s (S (tvS ((i).output)))), .d (.i 0), .d (.i 0), .d (.i 0), .d (.sl 1 (([] : List (List D)))), .d (.sl 1 (([] : List (List D)))), .d (.s (S (i).prop)), .d (.s (S (i).param)), .d (.sl 1 (intsD ((i).program)))]] [] (.c (.d (.s (S (itT i))))) [] := by
 have hlen := hi.len
 have hil := hi.cells
 have hid : (idsL i).length = 5 := rfl
 have hws : (wsL i).length = 4 := rfl
 refine enterB 101 Tryz.func31 (by kernel_rfl) fun fr hG => ?_
 refine zC hG [(1, 2, .call (.c (.d (.s (S (rwT i.input))))) [] []), (2, 17, .call (.c (.d (.b true))) [] [])] [1, 0, 1, 1] (((decide ((((tvsD ((i).input)).length : Int) : Int) > 8)) || ((decide ((((tvsD ((i).input)).length : Int) : Int) > 0)) && ((S (rwT i.input)).toList == (S []).toList))) && true) (⟨[(1, [], .c (.bx 100 0)), (2, [], .c (.d (.s (S [])))), (3, [], .c (.d (.s (S (rwT i.input)))))], [(100, .box 63 [.d (.i ((i).id)), .d (.i ((i).author)), .d (.i ((i).rank)), .d (.i ((i).time)), .d (.i ((i).kind)), .d (.sl 7 (tvsD ((i).input))), .d (.i (tvK ((i).output))), .d (.s (S (tvS ((i).output)))), .d (.i 0), .d (.i 0), .d (.i 0), .d (.sl 1 (([] : List (List D)))), .d (.sl 1 (([] : List (List D)))), .d (.s (S (i).prop)), .d (.s (S (i).param)), .d (.sl 1 (intsD ((i).program)))])]⟩) (by kernel_rfl) (conjC ((rowText_tv i.input hi.len hi.cells : SpG g _ _ _ _ _)) (conj1 (fun (hg1 : ((decide ((((tvsD ((i).input)).length : Int) : Int) > 8)) || ((decide ((((tvsD ((i).input)).length : Int) : Int) > 0)) && ((S (rwT i.input)).toList == (S []).toList))) = false) => ((right_tv ((i).output) (by exact hi.output) : SpG g _ _ _ _ _))))) (fun hc1 => ?_) (fun hc1 => ?_)
 ·(try simp only [zq10, tvsD] at hc1)
  exact (noTxt hi (by simpa using hc1)).elim
 ·(try simp only [zq10, tvsD] at hc1)
  refine zL hG [] [0, 1, 0, 1, 1, 1, 1] (fun (zz : Nat × List (List D)) => match zz with | (k, es) => (5 - k, ⟨[(1, [], .c (.bx 100 0)), (2, [], .c (.d (.s (S [])))), (3, [], .c (.d (.s (S (rwT i.input))))), (4, [], .c (.ar 500 0)), (46, [], .c (.ar 610 0)), (47, [], .c (.d (.i ((intsD (idsL i)).length : Int)))), (48, [], .c (.d (.i (k : Int))))], [(100, .box 63 [.d (.i ((i).id)), .d (.i ((i).author)), .d (.i ((i).rank)), .d (.i ((i).time)), .d (.i ((i).kind)), .d (.sl 7 (tvsD ((i).input))), .d (.i (tvK ((i).output))), .d (.s (S (tvS ((i).output)))), .d (.i 0), .d (.i 0), .d (.i 0), .d (.sl 1 (([] : List (List D)))), .d (.sl 1 (([] : List (List D)))), .d (.s (S (i).prop)), .d (.s (S (i).param)), .d (.sl 1 (intsD ((i).program)))]), (500, .arr 0 9 1 (es)), (610, .arr 0 3 1 (intsD (idsL i)))]⟩, k ≤ 5 ∧ es = strs ([[105, 116, 101, 109]] ++ ((idsL i).take k).map Lib.itoa))) (0, strs [[105, 116, 101, 109]]) (by kernel_rfl) conj0 (by kernel_rfl) ?_ ?_
  ·exact ⟨Nat.zero_le _, rfl⟩
  rintro ⟨k, es⟩ ⟨hk, hes⟩
  have hel : es.length = 1 + k := by rw [hes, strs, List.length_map, List.length_append, List.length_map, List.length_take, show (idsL i).length = 5 from rfl]; simp only [zq5]; omega
  have hn : k < 5 → nOk ((idsL i).getD k 0) := fun h => ids_ok hi _ (getD_mem h)
  refine zc hG [] [0, 1] (decide (((k : Int) : Int) < ((intsD (idsL i)).length : Int))) (by kernel_rfl) conj0 (fun hc3 => ?_) (fun hc3 => ?_)
  ·(try simp only [zq10, tvsD] at hc3)
   refine zD hG [(7, 1, .elem (intD ((idsL i).getD k 0))), (8, 2, .call (.c (.d (.s (S (Lib.itoa ((idsL i).getD k 0)))))) [] [])] (k + 1, es ++ [[D.s (S (Lib.itoa ((idsL i).getD k 0)))]]) (by kernel_rfl) (conjC (show (0 : Int) ≤ (k : Int) ∧ (k : Int) < ((intsD (idsL i)).length : Int) from (by intros; (try simp only [zq11, tvsD, ByteArray.size_append] at *); omega)) (conjC (show (intsD (idsL i))[k]? = some (intD ((idsL i).getD k 0)) from (by intros; exact map_nat (f := intD) (l := idsL i) 0 (by (try simp only [zq5, idsL]); omega))) (conjC ((itoa_ok ((idsL i).getD k 0) (by have := (hn (by omega)).1; omega) (by have := (hn (by omega)).2; omega) : SpG g _ _ _ _ _)) (conjC (show ((es).length + (([[.s (S (Lib.itoa ((idsL i).getD k 0)))]] : List (List D))).length) * (16 + 1) ≤ 140737488355328 from (by intros; (try simp only [zq11, tvsD, ByteArray.size_append] at *); omega)) (conj1 (show inR ((k : Int) + 1) from (by intros; (try simp only [zq11, tvsD, ByteArray.size_append] at *); omega))))))) ?_ ?_
   ·(try dsimp only); omega
   ·refine ⟨by omega, ?_⟩
    rw [hes, take_snoc 0 (show k < (idsL i).length by omega), List.map_append, ← List.append_assoc, List.map_singleton, strs_snoc]
  ·(try simp only [zq10, tvsD] at hc3)
   refine zE hG [] (.exit 0) (⟨[(1, [], .c (.bx 100 0)), (2, [], .c (.d (.s (S [])))), (3, [], .c (.d (.s (S (rwT i.input))))), (4, [], .c (.ar 500 0))], [(100, .box 63 [.d (.i ((i).id)), .d (.i ((i).author)), .d (.i ((i).rank)), .d (.i ((i).time)), .d (.i ((i).kind)), .d (.sl 7 (tvsD ((i).input))), .d (.i (tvK ((i).output))), .d (.s (S (tvS ((i).output)))), .d (.i 0), .d (.i 0), .d (.i 0), .d (.sl 1 (([] : List (List D)))), .d (.sl 1 (([] : List (List D)))), .d (.s (S (i).prop)), .d (.s (S (i).param)), .d (.sl 1 (intsD ((i).program)))]), (500, .arr 0 9 1 (es))]⟩) (by kernel_rfl) conj0 rfl ?_
   refine zL hG [(10, 3, .call (.c (.d (.s (S (tvT i.output))))) [] [])] [0, 1, 0, 1, 1, 1, 1, 1] (fun (zz : Nat × List (List D)) => match zz with | (m, et) => (4 - m, ⟨[(1, [], .c (.bx 100 0)), (2, [], .c (.d (.s (S [])))), (4, [], .c (.ar 500 0)), (66, [], .c (.ar 1108 0)), (67, [], .c (.d (.i ((strs (wsL i)).length : Int)))), (68, [], .c (.d (.i (m : Int))))], [(100, .box 63 [.d (.i ((i).id)), .d (.i ((i).author)), .d (.i ((i).rank)), .d (.i ((i).time)), .d (.i ((i).kind)), .d (.sl 7 (tvsD ((i).input))), .d (.i (tvK ((i).output))), .d (.s (S (tvS ((i).output)))), .d (.i 0), .d (.i 0), .d (.i 0), .d (.sl 1 (([] : List (List D)))), .d (.sl 1 (([] : List (List D)))), .d (.s (S (i).prop)), .d (.s (S (i).param)), .d (.sl 1 (intsD ((i).program)))]), (500, .arr 0 9 1 (et)), (1108, .arr 0 9 1 (strs (wsL i)))]⟩, m ≤ 4 ∧ et = strs ([[105, 116, 101, 109]] ++ (idsL i).map Lib.itoa ++ ((wsL i).take m).map wdT))) (0, es) (by kernel_rfl) (conj1 ((text_tv i.output hi.output : SpG g _ _ _ _ _))) (by kernel_rfl) ?_ ?_
   ·have h5 : k = 5 := by omega
    subst h5
    exact ⟨Nat.zero_le _, by rw [hes]; rfl⟩
   rintro ⟨m, et⟩ ⟨hm, het⟩
   have htl : et.length = 6 + m := by rw [het, strs, List.length_map, List.length_append, List.length_append, List.length_map, List.length_map, List.length_take, show (idsL i).length = 5 from rfl, show (wsL i).length = 4 from rfl]; simp only [zq5]; omega
   have hw : m < 4 → ((wsL i).getD m []).length ≤ 3300 := fun h => ws_get hi h
   have hw2 : m < 4 → (Lib.itoa (((wsL i).getD m []).length : Int)).length ≤ 14 := fun h => itoa_len (nOk_len (by have := hw h; omega))
   refine zc hG [] [0, 1] (decide (((m : Int) : Int) < ((strs (wsL i)).length : Int))) (by kernel_rfl) conj0 (fun hc5 => ?_) (fun hc5 => ?_)
   ·(try simp only [zq10, tvsD] at hc5)
    refine zD hG [(12, 1, .elem (strD ((wsL i).getD m []))), (13, 3, .call (.c (.d (.s (S (Lib.itoa ((S ((wsL i).getD m [])).size : Int)))))) [] [])] (m + 1, et ++ [[D.s ((S (Lib.itoa ((S ((wsL i).getD m [])).size : Int)) ++ S [58]) ++ S ((wsL i).getD m []))]]) (by kernel_rfl) (conjC (show (0 : Int) ≤ (m : Int) ∧ (m : Int) < ((strs (wsL i)).length : Int) from (by intros; (try simp only [zq11, tvsD, ByteArray.size_append] at *); omega)) (conjC (show (strs (wsL i))[m]? = some (strD ((wsL i).getD m [])) from (by intros; exact map_nat (f := strD) (l := wsL i) [] (by (try simp only [zq5, wsL]); omega))) (conjC ((itoa_ok ((S ((wsL i).getD m [])).size : Int) (by rw [S_size]; have := hw (by omega); omega) (by rw [S_size]; have := hw (by omega); omega) : SpG g _ _ _ _ _)) (conjC (show (S (Lib.itoa ((S ((wsL i).getD m [])).size : Int))).size + (S [58]).size ≤ maxLen from (by intros; (try simp only [zq11, tvsD, ByteArray.size_append] at *); omega)) (conjC (show ((S (Lib.itoa ((S ((wsL i).getD m [])).size : Int))) ++ (S [58])).size + (S ((wsL i).getD m [])).size ≤ maxLen from (by intros; (try simp only [zq11, tvsD, ByteArray.size_append] at *); omega)) (conjC (show ((et).length + (([[.s (((S (Lib.itoa ((S ((wsL i).getD m [])).size : Int))) ++ (S [58])) ++ (S ((wsL i).getD m [])))]] : List (List D))).length) * (16 + 1) ≤ 140737488355328 from (by intros; (try simp only [zq11, tvsD, ByteArray.size_append] at *); omega)) (conj1 (show inR ((m : Int) + 1) from (by intros; (try simp only [zq11, tvsD, ByteArray.size_append] at *); omega))))))))) ?_ ?_
    ·(try dsimp only); omega
    ·refine ⟨by omega, ?_⟩
     rw [het, take_snoc [] (show m < (wsL i).length by omega), List.map_append, ← List.append_assoc, List.map_singleton, strs_snoc, S_app, S_app, S_size]
     simp [wdT]
   ·(try simp only [zq10, tvsD] at hc5)
    refine zE hG [] (.exit 2) (⟨[(1, [], .c (.bx 100 0)), (2, [], .c (.d (.s (S [])))), (4, [], .c (.ar 500 0))], [(100, .box 63 [.d (.i ((i).id)), .d (.i ((i).author)), .d (.i ((i).rank)), .d (.i ((i).time)), .d (.i ((i).kind)), .d (.sl 7 (tvsD ((i).input))), .d (.i (tvK ((i).output))), .d (.s (S (tvS ((i).output)))), .d (.i 0), .d (.i 0), .d (.i 0), .d (.sl 1 (([] : List (List D)))), .d (.sl 1 (([] : List (List D)))), .d (.s (S (i).prop)), .d (.s (S (i).param)), .d (.sl 1 (intsD ((i).program)))]), (500, .arr 0 9 1 (et))]⟩) (by kernel_rfl) conj0 rfl ?_
    refine zA hG [] [0, 1, 0, 1, 1, 1, 1, 1, 1, 1] (⟨[(2, [], .c (.d (.s (S [])))), (4, [], .c (.ar 500 0)), (9, [], .c (.d (.nil))), (83, [], .c (.d (.sl 1 (intsD ((i).program))))), (84, [], .c (.d (.i ((intsD ((i).program)).length : Int)))), (85, [], .c (.d (.i 0)))], [(500, .arr 0 9 1 (et))]⟩) [(9, 9003, 9, 1)] [] (fun (zz : Nat × List (List D)) => match zz with | (q, eu) => (i.program.length - q, ⟨[(2, [], .c (.d (.s (S [])))), (4, [], .c (.ar 500 0)), (9, [], .c (.ar 9003 0)), (83, [], .c (.d (.sl 1 (intsD ((i).program))))), (84, [], .c (.d (.i ((intsD ((i).program)).length : Int)))), (85, [], .c (.d (.i (q : Int))))], [(500, .arr 0 9 1 (et)), (9003, .arr 0 9 1 (eu))]⟩, q ≤ i.program.length ∧ eu = strs ((i.program.take q).map Lib.itoa))) (0, []) (by kernel_rfl) conj0 (by kernel_rfl) (by kernel_rfl) ?_ ?_
    ·exact ⟨Nat.zero_le _, rfl⟩
    rintro ⟨q, eu⟩ ⟨hq, heu⟩
    have hul : eu.length = q := by rw [heu, strs, List.length_map, List.length_map, List.length_take]; omega
    have hpn : q < i.program.length → nOk (i.program.getD q 0) := fun h => hi.prog _ (getD_mem h)
    have hpl := hi.plen
    refine zc hG [] [0, 1] (decide (((q : Int) : Int) < ((intsD ((i).program)).length : Int))) (by kernel_rfl) conj0 (fun hc7 => ?_) (fun hc7 => ?_)
    ·(try simp only [zq10, tvsD] at hc7)
     refine zD hG [(18, 0, .elem (intD (((i).program).getD q 0))), (19, 2, .call (.c (.d (.s (S (Lib.itoa (((i).program).getD q 0)))))) [] [])] (q + 1, eu ++ [[D.s (S (Lib.itoa (i.program.getD q 0)))]]) (by kernel_rfl) (conjC (show (0 : Int) ≤ (q : Int) ∧ (intsD ((i).program))[q]? = some (intD (((i).program).getD q 0)) from (by intros; exact map_at _ (by omega) (by (try simp only [intsD, List.length_map] at *); omega))) (conjC ((itoa_ok (((i).program).getD q 0) (by have := (hpn (by omega)).1; omega) (by have := (hpn (by omega)).2; omega) : SpG g _ _ _ _ _)) (conjC (show ((eu).length + (([[.s (S (Lib.itoa (((i).program).getD q 0)))]] : List (List D))).length) * (16 + 1) ≤ 140737488355328 from (by intros; (try simp only [zq11, tvsD, ByteArray.size_append] at *); omega)) (conj1 (show inR ((q : Int) + 1) from (by intros; (try simp only [zq11, tvsD, ByteArray.size_append] at *); omega)))))) ?_ ?_
     ·(try dsimp only); omega
     ·refine ⟨by omega, ?_⟩
      rw [heu]; exact (textsStep (f := Lib.itoa) 0 (by omega)).symm
    ·(try simp only [zq10, tvsD] at hc7)
     refine zE hG [] (.exit 4) (⟨[(2, [], .c (.d (.s (S [])))), (4, [], .c (.ar 500 0)), (9, [], .c (.ar 9003 0))], [(500, .arr 0 9 1 (et)), (9003, .arr 0 9 1 (eu))]⟩) (by kernel_rfl) conj0 rfl ?_
     exact zr hG [(21, 2, .call (.c (.d (.s (S (prT i))))) [] []), (21, 5, .call (.c (.d (.s (S (itT i))))) [] [])] [] (by kernel_rfl) (conjC ((join_es (es := eu) (l := i.program.map Lib.itoa) (by rw [heu, List.take_of_length_le (by omega)]) [44] (Nat.le_trans (prT_sum hi) (by decide)) (by rw [List.length_map]; omega) : SpG g _ _ _ _ _)) (conjC (show ((et).length + (([[.s (S (prT i))]] : List (List D))).length) * (16 + 1) ≤ 140737488355328 from (by intros; (try simp only [zq11, tvsD, ByteArray.size_append] at *); omega)) (conj1 ((join_es (es := et ++ ([[.s (S (prT i))]] : List (List D))) (l := itP i) (by rw [het, List.take_of_length_le (by simp [wsL]; omega), itP, strs_snoc]) [32] (Nat.le_trans (itP_sum hi) (by decide)) (by rw [itP_len]; decide) : SpG g _ _ _ _ _)))))
theorem readNum_ (i : It) (hi : ItOk i) (k : Nat) (hk : k < 5) :
  SpG g 66 [.c (.bx 0 0), .c (.bx 1 0)] [(0, .box 9 [.d (.s (S (rsT i (k + 1))))]), (1, .box 4 [.d (.b true)])] (.c (.d (.i ((idsL i).getD k 0)))) [(1, .box 4 [.d (.b true)]), (0, .box 9 [.d (.s (S (rsT i (k + 2))))])] := by
 refine enterB 23 Tryz.func66 (by kernel_rfl) fun fr hG => ?_
 exact zr hG [(2, 1, .call (.tup [(false, [.d (.s (S (Lib.itoa ((idsL i).getD k 0))))]), (false, [.d (.s (S (rsT i (k + 2))))]), (false, [.d (.b true)])]) [] []), (3, 1, .call (.tup [(false, [.d (.i ((idsL i).getD k 0))]), (false, [.d (.v (.nilIface))])]) [] [])] [] (by kernel_rfl) (conjC ((cut_num hi hk : SpG g _ _ _ _ _)) (conj1 ((atoi_num ((idsL i).getD k 0) (ids_ok hi _ (getD_mem (by simpa [idsL] using hk))) : SpG g _ _ _ _ _))))
theorem readNum (i : It) (hi : ItOk i) (k : Nat) (hk : k < 5) :
  SpG g 66 [.c (.bx 0 0), .c (.bx 1 0)] [(0, .box 9 [.d (.s (S (rsT i (k + 1))))]), (1, .box 4 [.d (.b true)])] (.c (.d (.i ((idsL i).getD k 0)))) [(0, .box 9 [.d (.s (S (rsT i (k + 2))))]), (1, .box 4 [.d (.b true)])] := by
 refine spec_look (readNum_ i hi k hk) ?_
 first | rfl | (funext i; simp only [lookO_cons, upd]; ((repeat' split) <;> first | rfl | (exfalso; omega)))
def zq12 := And.intro @S_size (@Go.Eng.inR.eq_1)
theorem readWord_ (i : It) (hi : ItOk i) (k : Nat) (hk : k < 4) :
  SpG g 69 [.c (.bx 0 0), .c (.bx 1 0)] [(0, .box 9 [.d (.s (S (rsT i (k + 6))))]), (1, .box 4 [.d (.b true)])] (.c (.d (.s (S ((wsL i).getD k []))))) [(0, .box 9 [.d (.s (S (rsT i (k + 7))))]), (1, .box 4 [.d (.b true)])] := by
 have hw := ws_get hi hk
 have hr := wr_len hi hk
 have hwl : (wrT i k).length = ((wsL i).getD k []).length + 1 + (rsT i (k + 7)).length := by simp only [zq0, wrT]; omega
 refine enterB 38 Tryz.func69 (by kernel_rfl) fun fr hG => ?_
 refine zC hG [(2, 1, .call (.tup [(false, [.d (.s (S (Lib.itoa (((wsL i).getD k []).length : Int))))]), (false, [.d (.s (S (wrT i k)))]), (false, [.d (.b true)])]) [] []), (3, 1, .call (.tup [(false, [.d (.i (((wsL i).getD k []).length : Int))]), (false, [.d (.v (.nilIface))])]) [] [])] [1, 0, 1, 1, 1, 1] ((decide (((((wsL i).getD k []).length : Int) : Int) < 0)) || (decide (((((wsL i).getD k []).length : Int) : Int) ≥ ((S (wrT i k)).size : Int)))) (⟨[(0, [], .c (.bx 0 0)), (1, [], .c (.bx 1 0)), (2, [], .c (.d (.s (S [])))), (4, [], .c (.d (.i (((wsL i).getD k []).length : Int))))], [(0, .box 9 [.d (.s (S (wrT i k)))]), (1, .box 4 [.d (.b true)])]⟩) (by kernel_rfl) (conjC ((cut_wd hi hk : SpG g _ _ _ _ _)) (conj1 ((atoi_num (((wsL i).getD k []).length : Int) (nOk_len (by omega)) : SpG g _ _ _ _ _)))) (fun hc1 => ?_) (fun hc1 => ?_)
 ·(try simp only [blS, S_size] at hc1)
  exfalso; omega
 ·(try simp only [blS, S_size] at hc1)
  refine zR hG [] [] (.c (.d (.s ((S (wrT i k)).extract 0 (((wsL i).getD k []).length))))) [(0, .box 9 [.d (.s ((S (wrT i k)).extract ((((wsL i).getD k []).length : Int) + 1 : Int).toNat (S (wrT i k)).size))]), (1, .box 4 [.d (.b true)])] (by kernel_rfl) (conjC (show (0 : Int) ≤ 0 ∧ (0 : Int) ≤ (((wsL i).getD k []).length : Int) ∧ (((wsL i).getD k []).length : Int) ≤ ((S (wrT i k)).size : Int) from (by intros; (try simp only [zq12] at *); omega)) (conjC (show inR ((((wsL i).getD k []).length : Int) + 1) from (by intros; (try simp only [zq12] at *); omega)) (conj1 (show (0 : Int) ≤ ((((wsL i).getD k []).length : Int) + 1) ∧ ((((wsL i).getD k []).length : Int) + 1 : Int) ≤ ((S (wrT i k)).size : Int) ∧ ((S (wrT i k)).size : Int) ≤ ((S (wrT i k)).size : Int) from (by intros; (try simp only [zq12] at *); omega))))) ?_ ?_
  ·exact congrArg (fun x => SV.c (C.d (D.s x))) (wr_take i k)
  ·rw [← wr_drop i k]
theorem readWord (i : It) (hi : ItOk i) (k : Nat) (hk : k < 4) :
  SpG g 69 [.c (.bx 0 0), .c (.bx 1 0)] [(0, .box 9 [.d (.s (S (rsT i (k + 6))))]), (1, .box 4 [.d (.b true)])] (.c (.d (.s (S ((wsL i).getD k []))))) [(0, .box 9 [.d (.s (S (rsT i (k + 7))))]), (1, .box 4 [.d (.b true)])] := by
 refine spec_look (readWord_ i hi k hk) ?_
 first | rfl | (funext i; simp only [lookO_cons, upd]; ((repeat' split) <;> first | rfl | (exfalso; omega)))
theorem itText_es {i : It} (hi : ItOk i) {es : List (List D)} (h : es = intsD i.program) : SpG g 31 [.agg [.d (.i ((i).id)), .d (.i ((i).author)), .d (.i ((i).rank)), .d (.i ((i).time)), .d (.i ((i).kind)), .d (.sl 7 (tvsD ((i).input))), .d (.i (tvK ((i).output))), .d (.s (S (tvS ((i).output)))), .d (.i 0), .d (.i 0), .d (.i 0), .d (.sl 1 (([] : List (List D)))), .d (.sl 1 (([] : List (List D)))), .d (.s (S (i).prop)), .d (.s (S (i).param)), .d (.sl 1 (es))]] [] (.c (.d (.s (S (itT i))))) [] := by subst h; exact itText_ok i hi
theorem readRow_all (l : List Tv) (hl : l.length ≤ 8) (hT : ∀ v, v ∈ l → tvOk v) : SpG g 70 [.c (.d (.s (S (rwT l))))] [] (.tup [(false, [.d (.sl 7 (tvsD l))]), (false, [.d (.b true)])]) [] := by
 by_cases h : l = []
 ·subst h; exact spec_outT [[some 7], []] readRow_nil
 ·exact readRow_tv l hl h hT
theorem atoi_at {i : It} (hi : ItOk i) {q : Nat} (h : q < i.program.length) : SpG g 68 [.c (.d (.s (S ((i.program.map Lib.itoa).getD q []))))] [] (.tup [(false, [.d (.i (i.program.getD q 0))]), (false, [.d (.v .nilIface)])]) [] := by
 have e : (i.program.map Lib.itoa).getD q [] = Lib.itoa (i.program.getD q 0) := by simp [h]
 rw [e]; exact atoi_num (i.program.getD q 0) (hi.prog _ (getD_mem h))
theorem read_no (i : It) (hi : ItOk i) (hp : i.program = []) :
  SpG g 38 [.c (.d (.s (S (itT i))))] [] (.tup [(true, [.d (.i ((i).id)), .d (.i ((i).author)), .d (.i ((i).rank)), .d (.i ((i).time)), .d (.i ((i).kind)), .d (.sl 7 (tvsD ((i).input))), .d (.i (tvK ((i).output))), .d (.s (S (tvS ((i).output)))), .d (.i 0), .d (.i 0), .d (.i 0), .d (.sl 1 (([] : List (List D)))), .d (.sl 1 (([] : List (List D)))), .d (.s (S (i).prop)), .d (.s (S (i).param)), .d (.nil)]), (false, [.d (.b true)])]) [] := by
 refine enterB 98 Tryz.func38 (by kernel_rfl) fun fr hG => ?_
 refine zC hG [(1, 1, .call (.tup [(false, [.d (.s (S (rsT i 1)))]), (false, [.d (.b true)])]) [] []), (4, 1, .call (.c (.d (.i ((i).id)))) [] [[.s (S (rsT i 2))], [.b true]]), (4, 3, .call (.c (.d (.i ((i).author)))) [] [[.s (S (rsT i 3))], [.b true]]), (4, 5, .call (.c (.d (.i ((i).rank)))) [] [[.s (S (rsT i 4))], [.b true]]), (4, 7, .call (.c (.d (.i ((i).time)))) [] [[.s (S (rsT i 5))], [.b true]]), (4, 9, .call (.c (.d (.i ((i).kind)))) [] [[.s (S (rsT i 6))], [.b true]]), (5, 1, .call (.c (.d (.s (S (rwT (i).input))))) [] [[.s (S (rsT i 7))], [.b true]]), (5, 3, .call (.c (.d (.s (S (tvT (i).output))))) [] [[.s (S (rsT i 8))], [.b true]]), (6, 1, .call (.c (.d (.s (S (i).prop)))) [] [[.s (S (rsT i 9))], [.b true]]), (6, 3, .call (.c (.d (.s (S (i).param)))) [] [[.s (S (rsT i 10))], [.b true]])] [1, 0, 1, 1, 1, 1, 1, 1, 1] (false) (⟨[(0, [], .c (.d (.s (S (itT i))))), (2, [], .c (.bx 100 0)), (3, [], .c (.d (.b false))), (4, [], .c (.bx 205 0)), (8, [], .c (.bx 511 0)), (9, [], .c (.d (.s (S (rwT (i).input))))), (10, [], .c (.d (.s (S (tvT (i).output)))))], [(100, .box 63 [.d (.i 0), .d (.i 0), .d (.i 0), .d (.i 0), .d (.i 0), .d (.nil), .d (.i 0), .d (.s (S [])), .d (.i 0), .d (.i 0), .d (.i 0), .d (.nil), .d (.nil), .d (.s (S [])), .d (.s (S [])), .d (.nil)]), (205, .box 9 [.d (.s (S (rsT i 10)))]), (511, .box 63 [.d (.i ((i).id)), .d (.i ((i).author)), .d (.i ((i).rank)), .d (.i ((i).time)), .d (.i ((i).kind)), .d (.nil), .d (.i 0), .d (.s (S [])), .d (.i 0), .d (.i 0), .d (.i 0), .d (.nil), .d (.nil), .d (.s (S (i).prop)), .d (.s (S (i).param)), .d (.nil)])]⟩) (by kernel_rfl) (conjC ((cutPrefix_it i : SpG g _ _ _ _ _)) (conjC ((readNum i hi 0 (by decide) : SpG g _ _ _ _ _)) (conjC ((readNum i hi 1 (by decide) : SpG g _ _ _ _ _)) (conjC ((readNum i hi 2 (by decide) : SpG g _ _ _ _ _)) (conjC ((readNum i hi 3 (by decide) : SpG g _ _ _ _ _)) (conjC ((readNum i hi 4 (by decide) : SpG g _ _ _ _ _)) (conjC ((readWord i hi 0 (by decide) : SpG g _ _ _ _ _)) (conjC ((readWord i hi 1 (by decide) : SpG g _ _ _ _ _)) (conjC ((readWord i hi 2 (by decide) : SpG g _ _ _ _ _)) (conj1 ((readWord i hi 3 (by decide) : SpG g _ _ _ _ _)))))))))))) (fun hc1 => absurd hc1 (by decide)) (fun _ => ?_)
 refine zC hG [(10, 1, .call (.tup [(false, [.d (.sl 7 (tvsD ((i).input)))]), (false, [.d (.b true)])]) [] []), (11, 1, .call (.tup [(true, [.d (.i (tvK ((i).output))), .d (.s (S (tvS ((i).output)))), .d (.i 0), .d (.i 0), .d (.i 0), .d (.sl 1 (([] : List (List D)))), .d (.sl 1 (([] : List (List D))))]), (false, [.d (.b true)])]) [] [])] [1, 0, 1, 1, 1, 1, 1, 1, 1, 1, 1, 1, 1] (!((S (rsT i 10)).toList == (S []).toList)) (⟨[(0, [], .c (.d (.s (S (itT i))))), (2, [], .c (.bx 100 0)), (3, [], .c (.d (.b false))), (4, [], .c (.bx 205 0)), (8, [], .c (.bx 511 0)), (11, [], .c (.d (.b true))), (12, [], .c (.d (.b true)))], [(100, .box 63 [.d (.i 0), .d (.i 0), .d (.i 0), .d (.i 0), .d (.i 0), .d (.nil), .d (.i 0), .d (.s (S [])), .d (.i 0), .d (.i 0), .d (.i 0), .d (.nil), .d (.nil), .d (.s (S [])), .d (.s (S [])), .d (.nil)]), (205, .box 9 [.d (.s (S (rsT i 10)))]), (511, .box 63 [.d (.i ((i).id)), .d (.i ((i).author)), .d (.i ((i).rank)), .d (.i ((i).time)), .d (.i ((i).kind)), .d (.sl 7 (tvsD ((i).input))), .d (.i (tvK ((i).output))), .d (.s (S (tvS ((i).output)))), .d (.i 0), .d (.i 0), .d (.i 0), .d (.sl 1 (([] : List (List D)))), .d (.sl 1 (([] : List (List D)))), .d (.s (S (i).prop)), .d (.s (S (i).param)), .d (.nil)])]⟩) (by kernel_rfl) (conjC ((readRow_all i.input hi.len hi.cells : SpG g _ _ _ _ _)) (conj1 ((read_tv i.output hi.output : SpG g _ _ _ _ _)))) (fun hc2 => ?_) (fun hc2 => ?_)
 ·(try simp only [zq8] at hc2)
  simp [rsT_end, prT, hp, joinL] at hc2
 ·(try simp only [zq8] at hc2)
  refine zC hG [(21, 8, .call (.c (.d (.s (S (itT i))))) [] [])] [1, 0, 1, 1, 1, 1, 1, 1, 1, 1, 1, 1, 1, 1] (!((S (itT i)).toList == (S (itT i)).toList)) (⟨[(2, [], .c (.bx 100 0)), (3, [], .c (.d (.b false))), (8, [], .c (.bx 511 0))], [(100, .box 63 [.d (.i 0), .d (.i 0), .d (.i 0), .d (.i 0), .d (.i 0), .d (.nil), .d (.i 0), .d (.s (S [])), .d (.i 0), .d (.i 0), .d (.i 0), .d (.nil), .d (.nil), .d (.s (S [])), .d (.s (S [])), .d (.nil)]), (511, .box 63 [.d (.i ((i).id)), .d (.i ((i).author)), .d (.i ((i).rank)), .d (.i ((i).time)), .d (.i ((i).kind)), .d (.sl 7 (tvsD ((i).input))), .d (.i (tvK ((i).output))), .d (.s (S (tvS ((i).output)))), .d (.i 0), .d (.i 0), .d (.i 0), .d (.sl 1 (([] : List (List D)))), .d (.sl 1 (([] : List (List D)))), .d (.s (S (i).prop)), .d (.s (S (i).param)), .d (.nil)])]⟩) (by kernel_rfl) (conj1 (fun (hg1 : false = false) => ((spec_mask (ins := [.agg [.d (.i ((i).id)), .d (.i ((i).author)), .d (.i ((i).rank)), .d (.i ((i).time)), .d (.i ((i).kind)), .d (.sl 7 (tvsD ((i).input))), .d (.i (tvK ((i).output))), .d (.s (S (tvS ((i).output)))), .d (.i 0), .d (.i 0), .d (.i 0), .d (.sl 1 (([] : List (List D)))), .d (.sl 1 (([] : List (List D)))), .d (.s (S (i).prop)), .d (.s (S (i).param)), .d (.nil)]]) [[none, none, none, none, none, none, none, none, none, none, none, none, none, none, none, some 1]] (itText_es hi (es := []) (by rw [hp]; rfl)) : SpG g _ _ _ _ _)))) (fun hc3 => ?_) (fun hc3 => ?_)
  ·(try simp only [zq8] at hc3)
   simp at hc3
  ·(try simp only [zq8] at hc3)
   exact zr hG [] [] (by kernel_rfl) conj0
def zq13 := And.intro @List.length_append.{0} (And.intro @List.length_cons.{0} (And.intro @List.length_map.{0, 0} (And.intro @List.length_nil.{0} (And.intro @Go.Eng.inR.eq_1 (And.intro @intsD.eq_1 (@strs.eq_1))))))
theorem read_yes (i : It) (hi : ItOk i) (hp : i.program ≠ []) :
  SpG g 38 [.c (.d (.s (S (itT i))))] [] (.tup [(true, [.d (.i ((i).id)), .d (.i ((i).author)), .d (.i ((i).rank)), .d (.i ((i).time)), .d (.i ((i).kind)), .d (.sl 7 (tvsD ((i).input))), .d (.i (tvK ((i).output))), .d (.s (S (tvS ((i).output)))), .d (.i 0), .d (.i 0), .d (.i 0), .d (.sl 1 (([] : List (List D)))), .d (.sl 1 (([] : List (List D)))), .d (.s (S (i).prop)), .d (.s (S (i).param)), .d (.sl 1 (intsD ((i).program)))]), (false, [.d (.b true)])]) [] := by
 refine enterB 98 Tryz.func38 (by kernel_rfl) fun fr hG => ?_
 refine zC hG [(1, 1, .call (.tup [(false, [.d (.s (S (rsT i 1)))]), (false, [.d (.b true)])]) [] []), (4, 1, .call (.c (.d (.i ((i).id)))) [] [[.s (S (rsT i 2))], [.b true]]), (4, 3, .call (.c (.d (.i ((i).author)))) [] [[.s (S (rsT i 3))], [.b true]]), (4, 5, .call (.c (.d (.i ((i).rank)))) [] [[.s (S (rsT i 4))], [.b true]]), (4, 7, .call (.c (.d (.i ((i).time)))) [] [[.s (S (rsT i 5))], [.b true]]), (4, 9, .call (.c (.d (.i ((i).kind)))) [] [[.s (S (rsT i 6))], [.b true]]), (5, 1, .call (.c (.d (.s (S (rwT (i).input))))) [] [[.s (S (rsT i 7))], [.b true]]), (5, 3, .call (.c (.d (.s (S (tvT (i).output))))) [] [[.s (S (rsT i 8))], [.b true]]), (6, 1, .call (.c (.d (.s (S (i).prop)))) [] [[.s (S (rsT i 9))], [.b true]]), (6, 3, .call (.c (.d (.s (S (i).param)))) [] [[.s (S (rsT i 10))], [.b true]])] [1, 0, 1, 1, 1, 1, 1, 1, 1] (false) (⟨[(0, [], .c (.d (.s (S (itT i))))), (2, [], .c (.bx 100 0)), (3, [], .c (.d (.b false))), (4, [], .c (.bx 205 0)), (8, [], .c (.bx 511 0)), (9, [], .c (.d (.s (S (rwT (i).input))))), (10, [], .c (.d (.s (S (tvT (i).output)))))], [(100, .box 63 [.d (.i 0), .d (.i 0), .d (.i 0), .d (.i 0), .d (.i 0), .d (.nil), .d (.i 0), .d (.s (S [])), .d (.i 0), .d (.i 0), .d (.i 0), .d (.nil), .d (.nil), .d (.s (S [])), .d (.s (S [])), .d (.nil)]), (205, .box 9 [.d (.s (S (rsT i 10)))]), (511, .box 63 [.d (.i ((i).id)), .d (.i ((i).author)), .d (.i ((i).rank)), .d (.i ((i).time)), .d (.i ((i).kind)), .d (.nil), .d (.i 0), .d (.s (S [])), .d (.i 0), .d (.i 0), .d (.i 0), .d (.nil), .d (.nil), .d (.s (S (i).prop)), .d (.s (S (i).param)), .d (.nil)])]⟩) (by kernel_rfl) (conjC ((cutPrefix_it i : SpG g _ _ _ _ _)) (conjC ((readNum i hi 0 (by decide) : SpG g _ _ _ _ _)) (conjC ((readNum i hi 1 (by decide) : SpG g _ _ _ _ _)) (conjC ((readNum i hi 2 (by decide) : SpG g _ _ _ _ _)) (conjC ((readNum i hi 3 (by decide) : SpG g _ _ _ _ _)) (conjC ((readNum i hi 4 (by decide) : SpG g _ _ _ _ _)) (conjC ((readWord i hi 0 (by decide) : SpG g _ _ _ _ _)) (conjC ((readWord i hi 1 (by decide) : SpG g _ _ _ _ _)) (conjC ((readWord i hi 2 (by decide) : SpG g _ _ _ _ _)) (conj1 ((readWord i hi 3 (by decide) : SpG g _ _ _ _ _)))))))))))) (fun hc1 => absurd hc1 (by decide)) (fun _ => ?_)
 refine zC hG [(10, 1, .call (.tup [(false, [.d (.sl 7 (tvsD ((i).input)))]), (false, [.d (.b true)])]) [] []), (11, 1, .call (.tup [(true, [.d (.i (tvK ((i).output))), .d (.s (S (tvS ((i).output)))), .d (.i 0), .d (.i 0), .d (.i 0), .d (.sl 1 (([] : List (List D)))), .d (.sl 1 (([] : List (List D))))]), (false, [.d (.b true)])]) [] [])] [1, 0, 1, 1, 1, 1, 1, 1, 1, 1, 1, 1, 1] (!((S (rsT i 10)).toList == (S []).toList)) (⟨[(0, [], .c (.d (.s (S (itT i))))), (2, [], .c (.bx 100 0)), (3, [], .c (.d (.b false))), (4, [], .c (.bx 205 0)), (8, [], .c (.bx 511 0)), (11, [], .c (.d (.b true))), (12, [], .c (.d (.b true)))], [(100, .box 63 [.d (.i 0), .d (.i 0), .d (.i 0), .d (.i 0), .d (.i 0), .d (.nil), .d (.i 0), .d (.s (S [])), .d (.i 0), .d (.i 0), .d (.i 0), .d (.nil), .d (.nil), .d (.s (S [])), .d (.s (S [])), .d (.nil)]), (205, .box 9 [.d (.s (S (rsT i 10)))]), (511, .box 63 [.d (.i ((i).id)), .d (.i ((i).author)), .d (.i ((i).rank)), .d (.i ((i).time)), .d (.i ((i).kind)), .d (.sl 7 (tvsD ((i).input))), .d (.i (tvK ((i).output))), .d (.s (S (tvS ((i).output)))), .d (.i 0), .d (.i 0), .d (.i 0), .d (.sl 1 (([] : List (List D)))), .d (.sl 1 (([] : List (List D)))), .d (.s (S (i).prop)), .d (.s (S (i).param)), .d (.nil)])]⟩) (by kernel_rfl) (conjC ((readRow_all i.input hi.len hi.cells : SpG g _ _ _ _ _)) (conj1 ((read_tv i.output hi.output : SpG g _ _ _ _ _)))) (fun hc2 => ?_) (fun hc2 => ?_)
 ·(try simp only [zq8] at hc2)
  refine zA hG [(13, 1, .call (.c (.ar 100 0)) [(100, .arr 0 9 1 (strs (i.program.map Lib.itoa)))] [])] [0, 1, 0, 1, 0, 1, 1, 1, 1, 1, 1, 1, 1, 1, 1, 1] (⟨[(0, [], .c (.d (.s (S (itT i))))), (2, [], .c (.bx 100 0)), (3, [], .c (.d (.b false))), (8, [], .c (.bx 511 0)), (11, [], .c (.d (.b true))), (12, [], .c (.d (.b true))), (63, [], .c (.ar 1401 0)), (64, [], .c (.d (.i ((strs (i.program.map Lib.itoa)).length : Int)))), (65, [], .c (.d (.i 0)))], [(100, .box 63 [.d (.i 0), .d (.i 0), .d (.i 0), .d (.i 0), .d (.i 0), .d (.nil), .d (.i 0), .d (.s (S [])), .d (.i 0), .d (.i 0), .d (.i 0), .d (.nil), .d (.nil), .d (.s (S [])), .d (.s (S [])), .d (.nil)]), (511, .box 63 [.d (.i ((i).id)), .d (.i ((i).author)), .d (.i ((i).rank)), .d (.i ((i).time)), .d (.i ((i).kind)), .d (.sl 7 (tvsD ((i).input))), .d (.i (tvK ((i).output))), .d (.s (S (tvS ((i).output)))), .d (.i 0), .d (.i 0), .d (.i 0), .d (.sl 1 (([] : List (List D)))), .d (.sl 1 (([] : List (List D)))), .d (.s (S (i).prop)), .d (.s (S (i).param)), .d (.nil)]), (1401, .arr 0 9 1 (strs (i.program.map Lib.itoa)))]⟩) [] [(511, 15, 9003, 3, 1)] (fun (zz : Nat × List (List D)) => match zz with | (q, es) => (i.program.length - q, ⟨[(0, [], .c (.d (.s (S (itT i))))), (2, [], .c (.bx 100 0)), (3, [], .c (.d (.b false))), (8, [], .c (.bx 511 0)), (11, [], .c (.d (.b true))), (12, [], .c (.d (.b true))), (63, [], .c (.ar 1401 0)), (64, [], .c (.d (.i ((strs (i.program.map Lib.itoa)).length : Int)))), (65, [], .c (.d (.i (q : Int))))], [(100, .box 63 [.d (.i 0), .d (.i 0), .d (.i 0), .d (.i 0), .d (.i 0), .d (.nil), .d (.i 0), .d (.s (S [])), .d (.i 0), .d (.i 0), .d (.i 0), .d (.nil), .d (.nil), .d (.s (S [])), .d (.s (S [])), .d (.nil)]), (511, .box 63 [.d (.i ((i).id)), .d (.i ((i).author)), .d (.i ((i).rank)), .d (.i ((i).time)), .d (.i ((i).kind)), .d (.sl 7 (tvsD ((i).input))), .d (.i (tvK ((i).output))), .d (.s (S (tvS ((i).output)))), .d (.i 0), .d (.i 0), .d (.i 0), .d (.sl 1 (([] : List (List D)))), .d (.sl 1 (([] : List (List D)))), .d (.s (S (i).prop)), .d (.s (S (i).param)), .ar 9003 0]), (1401, .arr 0 9 1 (strs (i.program.map Lib.itoa))), (9003, .arr 0 3 1 (es))]⟩, q ≤ i.program.length ∧ es = intsD (i.program.take q))) (0, []) (by kernel_rfl) (conj1 ((split_pr hi hp : SpG g _ _ _ _ _))) (by kernel_rfl) (by kernel_rfl) ?_ ?_
  ·exact ⟨Nat.zero_le _, rfl⟩
  rintro ⟨q, es⟩ ⟨hq, hes⟩
  have hel : es.length = q := by rw [hes, intsD, List.length_map, List.length_take]; omega
  have hpl := hi.plen
  have hsl : (strs (i.program.map Lib.itoa)).length = i.program.length := by rw [strs, List.length_map, List.length_map]
  refine zc hG [] [0, 1] (decide (((q : Int) : Int) < ((strs (i.program.map Lib.itoa)).length : Int))) (by kernel_rfl) conj0 (fun hc4 => ?_) (fun hc4 => ?_)
  ·(try simp only [zq8] at hc4)
   refine zC hG [(15, 1, .elem (strD (((i.program.map Lib.itoa)).getD q []))), (16, 1, .call (.tup [(false, [.d (.i (i.program.getD q 0))]), (false, [.d (.v (.nilIface))])]) [] [])] [1, 0, 1, 1, 0, 0, 1, 1] (false) (⟨[(0, [], .c (.d (.s (S (itT i))))), (2, [], .c (.bx 100 0)), (3, [], .c (.d (.b false))), (8, [], .c (.bx 511 0)), (11, [], .c (.d (.b true))), (12, [], .c (.d (.b true))), (15, [], .c (.d (.i (i.program.getD q 0)))), (63, [], .c (.ar 1401 0)), (64, [], .c (.d (.i ((strs (i.program.map Lib.itoa)).length : Int)))), (65, [], .c (.d (.i (q : Int))))], [(100, .box 63 [.d (.i 0), .d (.i 0), .d (.i 0), .d (.i 0), .d (.i 0), .d (.nil), .d (.i 0), .d (.s (S [])), .d (.i 0), .d (.i 0), .d (.i 0), .d (.nil), .d (.nil), .d (.s (S [])), .d (.s (S [])), .d (.nil)]), (511, .box 63 [.d (.i ((i).id)), .d (.i ((i).author)), .d (.i ((i).rank)), .d (.i ((i).time)), .d (.i ((i).kind)), .d (.sl 7 (tvsD ((i).input))), .d (.i (tvK ((i).output))), .d (.s (S (tvS ((i).output)))), .d (.i 0), .d (.i 0), .d (.i 0), .d (.sl 1 (([] : List (List D)))), .d (.sl 1 (([] : List (List D)))), .d (.s (S (i).prop)), .d (.s (S (i).param)), .ar 9003 0]), (1401, .arr 0 9 1 (strs (i.program.map Lib.itoa))), (9003, .arr 0 3 1 (es))]⟩) (by kernel_rfl) (conjC (show (0 : Int) ≤ (q : Int) ∧ (q : Int) < ((strs (i.program.map Lib.itoa)).length : Int) from (by intros; (try simp only [zq13] at *); omega)) (conjC (show (strs (i.program.map Lib.itoa))[q]? = some (strD (((i.program.map Lib.itoa)).getD q [])) from (by intros; exact map_nat (f := strD) (l := i.program.map Lib.itoa) [] (by rw [List.length_map]; omega))) (conj1 ((atoi_at (q := q) hi (by omega) : SpG g _ _ _ _ _))))) (fun hc5 => absurd hc5 (by decide)) (fun _ => ?_)
   refine zD hG [] (q + 1, es ++ [[D.i (i.program.getD q 0)]]) (by kernel_rfl) (conjC (show ((es).length + (([[.i (i.program.getD q 0)]] : List (List D))).length) * (8 + 1) ≤ 140737488355328 from (by intros; (try simp only [zq13] at *); omega)) (conj1 (show inR ((q : Int) + 1) from (by intros; (try simp only [zq13] at *); omega)))) ?_ ?_
   ·(try dsimp only); omega
   ·refine ⟨by omega, ?_⟩
    rw [hes, take_snoc 0 (by omega), intsD, intsD, List.map_append]; rfl
  ·(try simp only [zq8] at hc4)
   refine zE hG [] (.exit 0) (⟨[(0, [], .c (.d (.s (S (itT i))))), (2, [], .c (.bx 100 0)), (3, [], .c (.d (.b false))), (8, [], .c (.bx 511 0)), (11, [], .c (.d (.b true))), (12, [], .c (.d (.b true)))], [(100, .box 63 [.d (.i 0), .d (.i 0), .d (.i 0), .d (.i 0), .d (.i 0), .d (.nil), .d (.i 0), .d (.s (S [])), .d (.i 0), .d (.i 0), .d (.i 0), .d (.nil), .d (.nil), .d (.s (S [])), .d (.s (S [])), .d (.nil)]), (511, .box 63 [.d (.i ((i).id)), .d (.i ((i).author)), .d (.i ((i).rank)), .d (.i ((i).time)), .d (.i ((i).kind)), .d (.sl 7 (tvsD ((i).input))), .d (.i (tvK ((i).output))), .d (.s (S (tvS ((i).output)))), .d (.i 0), .d (.i 0), .d (.i 0), .d (.sl 1 (([] : List (List D)))), .d (.sl 1 (([] : List (List D)))), .d (.s (S (i).prop)), .d (.s (S (i).param)), .ar 9003 0]), (9003, .arr 0 3 1 (es))]⟩) (by kernel_rfl) conj0 rfl ?_
   refine zC hG [(21, 8, .call (.c (.d (.s (S (itT i))))) [] [])] [1, 0, 1, 1, 1, 1, 1, 1, 1, 1, 1, 1, 1, 1] (!((S (itT i)).toList == (S (itT i)).toList)) (⟨[(2, [], .c (.bx 100 0)), (3, [], .c (.d (.b false))), (8, [], .c (.bx 511 0))], [(100, .box 63 [.d (.i 0), .d (.i 0), .d (.i 0), .d (.i 0), .d (.i 0), .d (.nil), .d (.i 0), .d (.s (S [])), .d (.i 0), .d (.i 0), .d (.i 0), .d (.nil), .d (.nil), .d (.s (S [])), .d (.s (S [])), .d (.nil)]), (511, .box 63 [.d (.i ((i).id)), .d (.i ((i).author)), .d (.i ((i).rank)), .d (.i ((i).time)), .d (.i ((i).kind)), .d (.sl 7 (tvsD ((i).input))), .d (.i (tvK ((i).output))), .d (.s (S (tvS ((i).output)))), .d (.i 0), .d (.i 0), .d (.i 0), .d (.sl 1 (([] : List (List D)))), .d (.sl 1 (([] : List (List D)))), .d (.s (S (i).prop)), .d (.s (S (i).param)), .ar 9003 0]), (9003, .arr 0 3 1 (es))]⟩) (by kernel_rfl) (conj1 (fun (hg1 : false = false) => ((itText_es hi (es := es) (by rw [hes, List.take_of_length_le (by omega)]) : SpG g _ _ _ _ _)))) (fun hc6 => ?_) (fun hc6 => ?_)
   ·(try simp only [zq8] at hc6)
    simp at hc6
   ·(try simp only [zq8] at hc6)
    refine zR hG [] [] (.tup [(true, [.d (.i ((i).id)), .d (.i ((i).author)), .d (.i ((i).rank)), .d (.i ((i).time)), .d (.i ((i).kind)), .d (.sl 7 (tvsD ((i).input))), .d (.i (tvK ((i).output))), .d (.s (S (tvS ((i).output)))), .d (.i 0), .d (.i 0), .d (.i 0), .d (.sl 1 (([] : List (List D)))), .d (.sl 1 (([] : List (List D)))), .d (.s (S (i).prop)), .d (.s (S (i).param)), .d (.sl 1 (es))]), (false, [.d (.b true)])]) [] (by kernel_rfl) conj0 ?_ ?_
    ·rw [hes, List.take_of_length_le (by omega)]
    ·rfl
 ·(try simp only [zq8] at hc2)
  exact (prT_ne (by have h2 : rsT i 10 = [] := (by simpa using hc2); exact h2) hp).elim
theorem itRead_ok (i : It) (hi : ItOk i) : SpG g 38 [.c (.d (.s (S (itT i))))] [] (.tup [(true, [.d (.i ((i).id)), .d (.i ((i).author)), .d (.i ((i).rank)), .d (.i ((i).time)), .d (.i ((i).kind)), .d (.sl 7 (tvsD ((i).input))), .d (.i (tvK ((i).output))), .d (.s (S (tvS ((i).output)))), .d (.i 0), .d (.i 0), .d (.i 0), .d (.sl 1 (([] : List (List D)))), .d (.sl 1 (([] : List (List D)))), .d (.s (S (i).prop)), .d (.s (S (i).param)), .d (.sl 1 (intsD ((i).program)))]), (false, [.d (.b true)])]) [] := by
 by_cases h : i.program = []
 ·have := spec_outT [[none, none, none, none, none, none, none, none, none, none, none, none, none, none, none, some 1], []] (read_no (g := g) i hi h)
  rw [show intsD i.program = [] by rw [h]; rfl]
  exact this
 ·exact read_yes i hi h
end Go.Proofs.YtclaplngjmgnoaaGreatDoor
