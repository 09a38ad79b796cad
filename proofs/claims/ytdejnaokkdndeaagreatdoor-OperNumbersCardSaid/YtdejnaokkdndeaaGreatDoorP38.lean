/- Part 38 of the proof: texts D4, D5, D6, D7, TryzShelf, D8, D9, M2, F1, D11, D12, G3, L1, H0, L3, R1, G6, H1, H2, X1, X2, XO. -/
import Derived.Test.YtdejnaokkdndeaaGreatDoorP37
import Derived.Shelf.Strings.Builder1
import Derived.Shelf.Strings.Builder2
import Derived.Shelf.Strings.OnBuilder
import Derived.Shelf.Small.Utf8
import Derived.Shelf.Small.Bits
import Derived.Shelf.Small.Strs
import Derived.Shelf.Small.Wraps
import Derived.Shelf.Strings.BuilderF
import Derived.Shelf.Strings.BuilderK
import Derived.Shelf.Strconv.Atoi
import Derived.Shelf.Strconv.Itoa0
import Derived.Shelf.Strconv.Itoa1
import Derived.Shelf.LaysM
import Derived.Shelf.Strconv.Itoa2
import Derived.Shelf.Strconv.Itoa3
import Derived.Shelf.Strconv.AtoiErrFast
import Derived.Shelf.Strconv.ParseIntEmpty
import Derived.Shelf.Strconv.AtoiFail
import Derived.Shelf.Strconv.Clone
import Derived.Shelf.Strconv.SyntaxError
import Derived.Shelf.LaysC
import Derived.Shelf.Strconv.ToError
import Derived.Shelf.Strconv.Lower
import Derived.Shelf.Strconv.ParseUint10
import Derived.Shelf.Strconv.ParseUint10Empty
import Derived.Shelf.Strconv.ParseUint10Any
import Derived.Shelf.Strconv.ParseInt10
import Derived.Shelf.Strconv.AtoiLong
import Derived.Shelf.Strconv.AtoiInnerAll
import Derived.Shelf.Strconv.RangeError
import Derived.Shelf.Strconv.ToErrorRange
import Derived.Shelf.Strconv.AtoiAll
import Derived.Shelf.Strconv.ErrVarAll
import Derived.Shelf.Strings.Search1
import Derived.Shelf.Strings.Search2
import Derived.Shelf.Strings.Search3
import Derived.Shelf.Strings.Cut
import Derived.Shelf.Strings.Count
import Derived.Shelf.Strings.Shaped
import Derived.Shelf.Strings.Prefix
import Derived.Shelf.Strings.Split
import Derived.Shelf.Strings.Replace
import Derived.Shelf.Strings.SplitShaped
import Derived.Shelf.Unicode.Latin
import Derived.Shelf.Strings.Runes
import Derived.Shelf.Strings.AsciiSet
import Derived.Shelf.Bits.Mul64
import Derived.Shelf.Strings.Repeat
import Derived.Shelf.Unicode.DecodeSlow
import Derived.Shelf.Unicode.DecodeAny
import Derived.Shelf.Unicode.CaseLookup
import Derived.Shelf.Unicode.CaseConvert
import Derived.Shelf.Unicode.CaseTo
import Derived.Shelf.Unicode.CaseLaid
import Derived.Shelf.Slices.Turned
import Derived.Shelf.Slices.Equal
import Derived.Ground.Names2Prog
import Derived.Shelf.Slices.Clone
import Derived.Shelf.Slices.SearchI
import Derived.Ground.SlgnProg
import Derived.Shelf.SlicesE.Clone
import Derived.Test.YtdejnaokkdndeaaGreatDoorProg
import Derived.Lib.AppendIntMem
import Derived.WalkKit
import Derived.WalkSpells
import Derived.WalkLawsBesides
import Derived.Deep.QuietTactic
import Derived.BigQuiet
import Derived.KernelRfl
set_option linter.all false
namespace Go.Proofs.YtdejnaokkdndeaaGreatDoor
open Go.RowKit Go.V
open Go.Eng (inR byteAt u8 bytesV)
variable {g : Gv}
end Go.Proofs.YtdejnaokkdndeaaGreatDoor
namespace Go.Proofs.YtdejnaokkdndeaaGreatDoor
open Go.RowKit Go.V
open Go.Eng (inR byteAt u8 bytesV)
variable {g : Gv}
theorem isTextL_len {l : List UInt8} (h : isTextL l = true) : l.length ≤ 200 := by
 simp only [isTextL, isTextB, Bool.and_eq_true, decide_eq_true_eq, S_size] at h; omega
end Go.Proofs.YtdejnaokkdndeaaGreatDoor
namespace Go.Proofs.YtdejnaokkdndeaaGreatDoor
open Go.RowKit Go.V
open Go.Eng (inR byteAt u8 bytesV)
variable {g : Gv}
end Go.Proofs.YtdejnaokkdndeaaGreatDoor
namespace Go.Proofs.YtdejnaokkdndeaaGreatDoor
open Go.RowKit Go.V
open Go.Eng (inR byteAt u8 bytesV)
variable {g : Gv}
end Go.Proofs.YtdejnaokkdndeaaGreatDoor
namespace Go.Proofs
open Go.Shelf
def Tryz.lays103_ren : Go.Shelf.Ren := ⟨fun | 103 => 246 | 210 => 312 | 206 => 356 | n => n, fun | 9 => 9 | 4 => 4 | 24 => 183 | 3 => 3 | n => n, fun | n => n⟩
theorem Tryz.lays103 : Go.Proofs.Lays.n103 Tryz.prog Tryz.lays103_ren := {
 mixed := by kernel_rfl
 f103 := Tryz.func246.trans (congrArg some (by kernel_rfl))
 f206 := Tryz.func356.trans (congrArg some (by kernel_rfl))
 f210 := Tryz.func312.trans (congrArg some (by kernel_rfl))
 t3 := Tryz.underlying3
 a3 := Tryz.isAgg3
 z3 := Tryz.sizeOf3
 v3 := Tryz.zeroValue3
 t4 := Tryz.underlying4
 a4 := Tryz.isAgg4
 z4 := Tryz.sizeOf4
 v4 := Tryz.zeroValue4
 t9 := Tryz.underlying9
 a9 := Tryz.isAgg9
 z9 := Tryz.sizeOf9
 v9 := Tryz.zeroValue9
 t24 := Tryz.underlying183
 a24 := Tryz.isAgg183
 z24 := Tryz.sizeOf183
 v24 := Tryz.zeroValue183 }
open Go.RowKit in
theorem Tryz.strings_CutPrefix (s p : ByteArray) (w : World) :
  Calls Tryz.prog 246 #[.string s, .string p] w fun e w' => e = .returned (.tuple #[.string ⟨(Lib.trimPrefix s.data.toList p.data.toList).toArray⟩, .bool (Lib.hasPrefix s.data.toList p.data.toList)]) ∧ w' = w := Any.strings_CutPrefix Tryz.lays103 s p w
def Tryz.lays122_ren : Go.Shelf.Ren := ⟨fun | 122 => 281 | 215 => 340 | n => n, fun | 3 => 3 | 4 => 4 | n => n, fun | n => n⟩
theorem Tryz.lays122 : Go.Proofs.Lays.n122 Tryz.prog Tryz.lays122_ren := {
 mixed := by kernel_rfl
 f122 := Tryz.func281.trans (congrArg some (by kernel_rfl))
 f215 := Tryz.func340.trans (congrArg some (by kernel_rfl))
 t3 := Tryz.underlying3
 a3 := Tryz.isAgg3
 z3 := Tryz.sizeOf3
 v3 := Tryz.zeroValue3
 t4 := Tryz.underlying4
 a4 := Tryz.isAgg4
 z4 := Tryz.sizeOf4
 v4 := Tryz.zeroValue4 }
open Go.RowKit in
theorem Tryz.cmp_Compare_int (x y : Int) (w : World) :
  Calls Tryz.prog 281 #[.int .i64 x, .int .i64 y] w fun e w' => e = .returned (.int .i64 (Lib.compareInt x y)) ∧ w' = w := Any.cmp_Compare_int Tryz.lays122 x y w
def Tryz.lays283_ren : Go.Shelf.Ren := ⟨fun | 283 => 373 | n => n, fun | 3 => 3 | 9 => 9 | 4 => 4 | n => n, fun | n => n⟩
theorem Tryz.lays283 : Go.Proofs.Lays.n283 Tryz.prog Tryz.lays283_ren := {
 mixed := by kernel_rfl
 f283 := Tryz.func373.trans (congrArg some (by kernel_rfl))
 t3 := Tryz.underlying3
 a3 := Tryz.isAgg3
 z3 := Tryz.sizeOf3
 v3 := Tryz.zeroValue3
 t4 := Tryz.underlying4
 a4 := Tryz.isAgg4
 z4 := Tryz.sizeOf4
 v4 := Tryz.zeroValue4
 t9 := Tryz.underlying9
 a9 := Tryz.isAgg9
 z9 := Tryz.sizeOf9
 v9 := Tryz.zeroValue9 }
open Go.Lib in
theorem Tryz.internal_strconv_small (i : Nat) (h : i < 100) (w : World) :
  Calls Tryz.prog 373 #[.int .i64 i] w fun e w' => e = .returned (.string ⟨(Lib.decDigits i).toArray⟩) ∧ w' = w := Any.internal_strconv_small Tryz.lays283 i h w
def Tryz.laysM284_ren : Go.Shelf.Ren := ⟨fun | 284 => 374 | 129 => 377 | 317 => 392 | 318 => 393 | n => n, fun | 53 => 250 | 3 => 3 | 212 => 342 | 0 => 0 | 4 => 4 | 46 => 276 | 5 => 5 | 9 => 9 | n => n, fun | 17 => 10 | n => n⟩
theorem Tryz.laysM284 : Go.Proofs.LaysM.n284 Tryz.prog Tryz.laysM284_ren := {
 mixed := by kernel_rfl
 f129 := Tryz.func377.trans (congrArg some (by kernel_rfl))
 f284 := Tryz.func374.trans (congrArg some (by kernel_rfl))
 f317 := Tryz.func392.trans (congrArg some (by kernel_rfl))
 f318 := Tryz.func393.trans (congrArg some (by kernel_rfl))
 t0 := Tryz.underlying0
 a0 := Tryz.isAgg0
 z0 := Tryz.sizeOf0
 v0 := Tryz.zeroValue0
 t3 := Tryz.underlying3
 a3 := Tryz.isAgg3
 z3 := Tryz.sizeOf3
 v3 := Tryz.zeroValue3
 t4 := Tryz.underlying4
 a4 := Tryz.isAgg4
 z4 := Tryz.sizeOf4
 v4 := Tryz.zeroValue4
 t5 := Tryz.underlying5
 a5 := Tryz.isAgg5
 z5 := Tryz.sizeOf5
 v5 := Tryz.zeroValue5
 t9 := Tryz.underlying9
 a9 := Tryz.isAgg9
 z9 := Tryz.sizeOf9
 v9 := Tryz.zeroValue9
 t46 := Tryz.underlying276
 a46 := Tryz.isAgg276
 z46 := Tryz.sizeOf276
 v46 := Tryz.zeroValue276
 t53 := Tryz.underlying250
 a53 := Tryz.isAgg250
 z53 := Tryz.sizeOf250
 v53 := Tryz.zeroValue250
 t212 := Tryz.underlying342
 a212 := Tryz.isAgg342
 z212 := Tryz.sizeOf342
 v212 := Tryz.zeroValue342
 g17 := by kernel_rfl
 i0 := by kernel_rfl
 i3 := by kernel_rfl
 i4 := by kernel_rfl
 i5 := by kernel_rfl
 i9 := by kernel_rfl
 i46 := by kernel_rfl
 i53 := by kernel_rfl
 i212 := by kernel_rfl
 m17 := by kernel_rfl }
open Go.Lib in
theorem Tryz.internal_strconv_numDigits (u : Nat) (h1 : 1 ≤ u) (h2 : u < 18446744073709551616) (w : World) (htab : Lib.TabIs Tryz.prog w "internal/strconv.uint64pow10" .u64 Lib.pow10Tab) :
  Calls Tryz.prog 374 #[.int .u64 u] w fun e w' => e = .returned (.int .i64 (Lib.nDigits u)) ∧ w' = w := Any.internal_strconv_numDigits Tryz.laysM284 u h1 h2 w htab
def Tryz.lays285_ren : Go.Shelf.Ren := ⟨fun | 285 => 375 | n => n, fun | 37 => 130 | 53 => 250 | 3 => 3 | 4 => 4 | 51 => 299 | 9 => 9 | 5 => 5 | 0 => 0 | n => n, fun | n => n⟩
theorem Tryz.lays285 : Go.Proofs.Lays.n285 Tryz.prog Tryz.lays285_ren := {
 mixed := by kernel_rfl
 f285 := Tryz.func375.trans (congrArg some (by kernel_rfl))
 t0 := Tryz.underlying0
 a0 := Tryz.isAgg0
 z0 := Tryz.sizeOf0
 v0 := Tryz.zeroValue0
 t3 := Tryz.underlying3
 a3 := Tryz.isAgg3
 z3 := Tryz.sizeOf3
 v3 := Tryz.zeroValue3
 t4 := Tryz.underlying4
 a4 := Tryz.isAgg4
 z4 := Tryz.sizeOf4
 v4 := Tryz.zeroValue4
 t5 := Tryz.underlying5
 a5 := Tryz.isAgg5
 z5 := Tryz.sizeOf5
 v5 := Tryz.zeroValue5
 t9 := Tryz.underlying9
 a9 := Tryz.isAgg9
 z9 := Tryz.sizeOf9
 v9 := Tryz.zeroValue9
 t37 := Tryz.underlying130
 a37 := Tryz.isAgg130
 z37 := Tryz.sizeOf130
 v37 := Tryz.zeroValue130
 t51 := Tryz.underlying299
 a51 := Tryz.isAgg299
 z51 := Tryz.sizeOf299
 v51 := Tryz.zeroValue299
 t53 := Tryz.underlying250
 a53 := Tryz.isAgg250
 z53 := Tryz.sizeOf250
 v53 := Tryz.zeroValue250 }
open Go.RowKit Go.Sort Go.Lib in
theorem Tryz.internal_strconv_formatBase10 (blk off cap : Nat) (u : Nat) (d : Array UInt8) (w : World) (hH : Holds (fun (b : UInt8) => Value.int .u8 (b.toNat : Int)) w blk off d) (hu : u < 10 ^ d.size) (hu64 : u < 18446744073709551616) (hsz : d.size < 4611686018427387904) :
  Calls Tryz.prog 375 #[.slice (some ⟨blk, off, none⟩) d.size cap, .int .u64 u] w fun e w' =>
   e = .returned (.tuple #[]) ∧ ∃ (n v' : Nat) (dk : Array UInt8), w' = (putRow (fun (b : UInt8) => Value.int .u8 (b.toNat : Int)) w blk off dk).drewN n ∧ FmtInv d.size u 0 v' dk := Any.internal_strconv_formatBase10 Tryz.lays285 blk off cap u d w hH hu hu64 hsz
def Tryz.lays217_ren : Go.Shelf.Ren := ⟨fun | 217 => 305 | 266 => 353 | n => n, fun | 9 => 9 | 5 => 5 | 3 => 3 | n => n, fun | n => n⟩
theorem Tryz.lays217 : Go.Proofs.Lays.n217 Tryz.prog Tryz.lays217_ren := {
 mixed := by kernel_rfl
 f217 := Tryz.func305.trans (congrArg some (by kernel_rfl))
 f266 := Tryz.func353.trans (congrArg some (by kernel_rfl))
 t3 := Tryz.underlying3
 a3 := Tryz.isAgg3
 z3 := Tryz.sizeOf3
 v3 := Tryz.zeroValue3
 t5 := Tryz.underlying5
 a5 := Tryz.isAgg5
 z5 := Tryz.sizeOf5
 v5 := Tryz.zeroValue5
 t9 := Tryz.underlying9
 a9 := Tryz.isAgg9
 z9 := Tryz.sizeOf9
 v9 := Tryz.zeroValue9 }
open Go.RowKit Go.Lib in
theorem Tryz.stringslite_IndexByte (s : ByteArray) (c : Int) (w : World) :
  Calls Tryz.prog 305 #[.string s, .int .u8 c] w fun e w' => e = .returned (.int .i64 (Lib.indexByte s.data.toList c.toNat.toUInt8)) ∧ w' = w := Any.stringslite_IndexByte Tryz.lays217 s c w
def Tryz.lays145_ren : Go.Shelf.Ren := ⟨fun | 145 => 101 | 220 => 183 | 219 => 241 | 217 => 305 | 225 => 306 | 224 => 307 | 267 => 308 | 266 => 353 | 314 => 354 | n => n, fun | 9 => 9 | 4 => 4 | 59 => 145 | 3 => 3 | 5 => 5 | 46 => 276 | 146 => 300 | 51 => 299 | n => n, fun | 1 => 1 | n => n⟩
theorem Tryz.lays145 : Go.Proofs.Lays.n145 Tryz.prog Tryz.lays145_ren := {
 mixed := by kernel_rfl
 f145 := Tryz.func101.trans (congrArg some (by kernel_rfl))
 f217 := Tryz.func305.trans (congrArg some (by kernel_rfl))
 f219 := Tryz.func241.trans (congrArg some (by kernel_rfl))
 f220 := Tryz.func183.trans (congrArg some (by kernel_rfl))
 f224 := Tryz.func307.trans (congrArg some (by kernel_rfl))
 f225 := Tryz.func306.trans (congrArg some (by kernel_rfl))
 f266 := Tryz.func353.trans (congrArg some (by kernel_rfl))
 f267 := Tryz.func308.trans (congrArg some (by kernel_rfl))
 f314 := Tryz.func354.trans (congrArg some (by kernel_rfl))
 t3 := Tryz.underlying3
 a3 := Tryz.isAgg3
 z3 := Tryz.sizeOf3
 v3 := Tryz.zeroValue3
 t4 := Tryz.underlying4
 a4 := Tryz.isAgg4
 z4 := Tryz.sizeOf4
 v4 := Tryz.zeroValue4
 t5 := Tryz.underlying5
 a5 := Tryz.isAgg5
 z5 := Tryz.sizeOf5
 v5 := Tryz.zeroValue5
 t9 := Tryz.underlying9
 a9 := Tryz.isAgg9
 z9 := Tryz.sizeOf9
 v9 := Tryz.zeroValue9
 t46 := Tryz.underlying276
 a46 := Tryz.isAgg276
 z46 := Tryz.sizeOf276
 v46 := Tryz.zeroValue276
 t51 := Tryz.underlying299
 a51 := Tryz.isAgg299
 z51 := Tryz.sizeOf299
 v51 := Tryz.zeroValue299
 t59 := Tryz.underlying145
 a59 := Tryz.isAgg145
 z59 := Tryz.sizeOf145
 v59 := Tryz.zeroValue145
 t146 := Tryz.underlying300
 a146 := Tryz.isAgg300
 z146 := Tryz.sizeOf300
 v146 := Tryz.zeroValue300
 g1 := by kernel_rfl }
open Go.RowKit Go.Lib in
theorem Tryz.strings_Cut (s sep : ByteArray) (m : Int) (w : World) (hs : s.size < 4294967281) (hm : w.cell? ⟨1, 0, none⟩ = some (.int .i64 m)) :
  Calls Tryz.prog 101 #[.string s, .string sep] w fun e w' => e = .returned (.tuple #[.string ⟨(Lib.cut s.data.toList sep.data.toList).1.toArray⟩, .string ⟨(Lib.cut s.data.toList sep.data.toList).2.1.toArray⟩, .bool (Lib.cut s.data.toList sep.data.toList).2.2]) ∧ ∃ n, w' = w.drewN n := Any.strings_Cut Tryz.lays145 s sep m w hs hm
def Tryz.lays146_ren : Go.Shelf.Ren := ⟨fun | 146 => 102 | 221 => 184 | 268 => 242 | 138 => 243 | 143 => 244 | 195 => 309 | 197 => 310 | 218 => 311 | 219 => 241 | 260 => 355 | 217 => 305 | 225 => 306 | 224 => 307 | 267 => 308 | 266 => 353 | 314 => 354 | n => n, fun | 9 => 9 | 31 => 39 | 3 => 3 | 4 => 4 | 0 => 0 | 105 => 279 | 21 => 21 | 5 => 5 | 46 => 276 | 119 => 328 | 139 => 331 | 138 => 330 | 146 => 300 | 51 => 299 | n => n, fun | 1 => 1 | 3 => 6 | 4 => 7 | n => n⟩
theorem Tryz.lays146 : Go.Proofs.Lays.n146 Tryz.prog Tryz.lays146_ren := {
 mixed := by kernel_rfl
 f138 := Tryz.func243.trans (congrArg some (by kernel_rfl))
 f143 := Tryz.func244.trans (congrArg some (by kernel_rfl))
 f146 := Tryz.func102.trans (congrArg some (by kernel_rfl))
 f195 := Tryz.func309.trans (congrArg some (by kernel_rfl))
 f197 := Tryz.func310.trans (congrArg some (by kernel_rfl))
 f217 := Tryz.func305.trans (congrArg some (by kernel_rfl))
 f218 := Tryz.func311.trans (congrArg some (by kernel_rfl))
 f219 := Tryz.func241.trans (congrArg some (by kernel_rfl))
 f221 := Tryz.func184.trans (congrArg some (by kernel_rfl))
 f224 := Tryz.func307.trans (congrArg some (by kernel_rfl))
 f225 := Tryz.func306.trans (congrArg some (by kernel_rfl))
 f260 := Tryz.func355.trans (congrArg some (by kernel_rfl))
 f266 := Tryz.func353.trans (congrArg some (by kernel_rfl))
 f267 := Tryz.func308.trans (congrArg some (by kernel_rfl))
 f268 := Tryz.func242.trans (congrArg some (by kernel_rfl))
 f314 := Tryz.func354.trans (congrArg some (by kernel_rfl))
 t0 := Tryz.underlying0
 a0 := Tryz.isAgg0
 z0 := Tryz.sizeOf0
 v0 := Tryz.zeroValue0
 t3 := Tryz.underlying3
 a3 := Tryz.isAgg3
 z3 := Tryz.sizeOf3
 v3 := Tryz.zeroValue3
 t4 := Tryz.underlying4
 a4 := Tryz.isAgg4
 z4 := Tryz.sizeOf4
 v4 := Tryz.zeroValue4
 t5 := Tryz.underlying5
 a5 := Tryz.isAgg5
 z5 := Tryz.sizeOf5
 v5 := Tryz.zeroValue5
 t9 := Tryz.underlying9
 a9 := Tryz.isAgg9
 z9 := Tryz.sizeOf9
 v9 := Tryz.zeroValue9
 t21 := Tryz.underlying21
 a21 := Tryz.isAgg21
 z21 := Tryz.sizeOf21
 v21 := Tryz.zeroValue21
 t31 := Tryz.underlying39
 a31 := Tryz.isAgg39
 z31 := Tryz.sizeOf39
 v31 := Tryz.zeroValue39
 t46 := Tryz.underlying276
 a46 := Tryz.isAgg276
 z46 := Tryz.sizeOf276
 v46 := Tryz.zeroValue276
 t51 := Tryz.underlying299
 a51 := Tryz.isAgg299
 z51 := Tryz.sizeOf299
 v51 := Tryz.zeroValue299
 t105 := Tryz.underlying279
 a105 := Tryz.isAgg279
 z105 := Tryz.sizeOf279
 v105 := Tryz.zeroValue279
 t119 := Tryz.underlying328
 a119 := Tryz.isAgg328
 z119 := Tryz.sizeOf328
 t138 := Tryz.underlying330
 a138 := Tryz.isAgg330
 z138 := Tryz.sizeOf330
 v138 := Tryz.zeroValue330
 t139 := Tryz.underlying331
 a139 := Tryz.isAgg331
 z139 := Tryz.sizeOf331
 v139 := Tryz.zeroValue331
 t146 := Tryz.underlying300
 a146 := Tryz.isAgg300
 z146 := Tryz.sizeOf300
 v146 := Tryz.zeroValue300
 g1 := by kernel_rfl
 g3 := by kernel_rfl
 g4 := by kernel_rfl }
open Go.RowKit Go.Lib in
theorem Tryz.strings_Split (s sep : ByteArray) (m : Int) (w : World) (hs : s.size < 4294967281) (hm : w.cell? ⟨1, 0, none⟩ = some (.int .i64 m)) (h1 : 1 ≤ sep.size) :
  Calls Tryz.prog 102 #[.string s, .string sep] w fun e w' =>
   e = .returned (.slice (some ⟨w.heap.size, 0, none⟩) (Lib.countB s sep + 1) (Lib.countB s sep + 1)) ∧ w' = w.alloc (.cells ((Lib.splitB sep 0 (Lib.countB s sep) s).map Value.string).toArray 9) := Any.strings_Split Tryz.lays146 (by kernel_rfl) s sep m w hs hm h1
end Go.Proofs
namespace Go.Proofs.YtdejnaokkdndeaaGreatDoor
open Go.RowKit Go.V
open Go.Eng (inR byteAt u8 bytesV)
variable {g : Gv}
theorem u8_nat (k : Nat) : u8 (k : Int) = UInt8.ofNat k := by
 have e : ((k : Int) % 256).toNat = k % 256 := by omega
 rw [u8, e]
 apply UInt8.toNat_inj.1
 simp
end Go.Proofs.YtdejnaokkdndeaaGreatDoor
namespace Go.Proofs.YtdejnaokkdndeaaGreatDoor
open Go.RowKit Go.V
open Go.Eng (inR byteAt u8 bytesV)
variable {g : Gv}
end Go.Proofs.YtdejnaokkdndeaaGreatDoor
namespace Go.Proofs.YtdejnaokkdndeaaGreatDoor
open Go.RowKit Go.V
open Go.Eng (inR byteAt u8 bytesV)
variable {g : Gv}
end Go.Proofs.YtdejnaokkdndeaaGreatDoor
namespace Go.Proofs.YtdejnaokkdndeaaGreatDoor
open Go.RowKit Go.Sort Go.Lib
set_option maxRecDepth 100000 in
theorem formatUint_in (u : Nat) (hu64 : u < 18446744073709551616) (w : World) (htab : Lib.TabIs Tryz.prog w "internal/strconv.uint64pow10" .u64 Lib.pow10Tab) :
  Calls Tryz.prog 338 #[.int .u64 u, .int .i64 10] w fun e w' => e = .returned (.string ⟨(Lib.decDigits u).toArray⟩) ∧ ∃ k os, w' = grow (w.drewN k) os := by
 by_cases hs : u < 100
 ·have hw : IntKind.i64.wrap (u : Int) = (u : Int) := by rw [IntKind.wrap_i64]; omega
  go_enter Tryz.func338, Tryz.ntmps338
  go_wp2_with (go_at_call 373; refine (Tryz.internal_strconv_small u hs _).mono ?_; rintro e w' ⟨rfl, rfl⟩)
  go_ret
  exact ⟨rfl, 0, #[], by simp [World.drewN_zero]⟩
 ·have hu1 : 1 ≤ u := by omega
  have hnd20 : Lib.nDigits u ≤ 20 := by have := Lib.numDigits_eq u hu1 hu64; split at this <;> omega
  have hb3 : Lib.nDigits u ≤ 24 := by omega
  have e1 : Tryz.prog.arrayLen 318 = 24 := by kernel_rfl
  have hsl1 : ∀ W, (Instr.sliceAt 318 (.pointer (some ⟨w.heap.size, 0, none⟩)) none (some (.int .i64 ((Lib.nDigits u : Int)))) none).run Tryz.prog W = .ok (.slice (some ⟨w.heap.size, 0, none⟩) (Lib.nDigits u) 24) W := fun W => by
   rw [run_sliceAt_array_h W 318 ⟨w.heap.size, 0, none⟩ (by kernel_rfl) .i64 (Lib.nDigits u : Int) (by omega) (by rw [e1]; omega)]
   have e2 : (sizeOf (Tryz.prog.elem 318)).run Tryz.prog W = .ok 1 W := by kernel_rfl
   rw [e2]
   simp [slicedAt, e1, Lib.add_plain]
  have hH0 := Lib.holds_zero0 w 318 (Lib.nDigits u) (by omega)
  have hfmt := Tryz.internal_strconv_formatBase10 w.heap.size 0 24 u (Array.replicate (Lib.nDigits u) 0) (w.alloc (.cells Lib.zeros24 318)) hH0 (by rw [Array.size_replicate]; exact Lib.lt_pow_nDigits u) hu64 (by rw [Array.size_replicate]; omega)
  rw [Array.size_replicate] at hfmt
  have HH0 := Lib.hid hH0
  clear hH0 e1
  go_enter Tryz.func338, Tryz.ntmps338
  go_wp2_with (first
   | (go_at_call 374; refine (Tryz.internal_strconv_numDigits u hu1 hu64 _ (Lib.tabIs_alloc htab _)).mono ?_; rintro e w' ⟨rfl, rfl⟩))
  go_at_call 375
  refine hfmt.mono ?_
  rintro e w' ⟨rfl, k, v', dk, rfl, hF⟩
  have hcv : (convert 130 9 (.slice (some ⟨w.heap.size, 0, none⟩) (Lib.nDigits u) 24)).run Tryz.prog ((putRow (fun (b : UInt8) => Value.int .u8 (b.toNat : Int)) (w.alloc (.cells Lib.zeros24 318)) w.heap.size 0 dk).drewN k) = .ok (.string ⟨(Lib.decDigits u).toArray⟩) ((putRow (fun (b : UInt8) => Value.int .u8 (b.toNat : Int)) (w.alloc (.cells Lib.zeros24 318)) w.heap.size 0 dk).drewN k) := by
   have h := run_convert_bytes_back (P := Tryz.prog) ((putRow (fun (b : UInt8) => Value.int .u8 (b.toNat : Int)) (w.alloc (.cells Lib.zeros24 318)) w.heap.size 0 dk).drewN k) 130 9 (Tryz.prog.elem 130) ⟨w.heap.size, 0, none⟩ 24 (Lib.decDigits u) (by kernel_rfl) (by kernel_rfl) (by kernel_rfl) (fun j hj => by
    rw [Lib.row_is_numeral hF j hj, Lib.add_plain, World.cell?_drewN]
    exact cell?_putRow (fun (b : UInt8) => Value.int .u8 (b.toNat : Int)) _ w.heap.size 0 _ dk HH0.out (by rw [hF.size, Array.size_replicate]) j (by rw [hF.size]; rw [Lib.decDigits_length] at hj; exact hj))
   rw [Lib.decDigits_length] at h
   exact h
  go_wp2
  go_ret
  refine ⟨rfl, k, ?_⟩
  rw [alloc_eq_grow]
  obtain ⟨os', _, e⟩ := putRow_grow_new (fun (b : UInt8) => Value.int .u8 (b.toNat : Int)) w #[.cells Lib.zeros24 318] w.heap.size 0 dk (Nat.le_refl _)
  exact ⟨os', by rw [e]; rfl⟩
theorem formatUint_any (u : Nat) (hu64 : u < 18446744073709551616) (w : World) (htab : Lib.TabIs Tryz.prog w "internal/strconv.uint64pow10" .u64 Lib.pow10Tab) :
  Calls Tryz.prog 274 #[.int .u64 u, .int .i64 10] w fun e w' => e = .returned (.string ⟨(Lib.decDigits u).toArray⟩) ∧ ∃ k os, w' = grow (w.drewN k) os := by
 go_enter Tryz.func274, Tryz.ntmps274
 go_wp2_with (go_at_call 338; refine (formatUint_in u hu64 _ htab).mono ?_; rintro e w' ⟨rfl, k, os, rfl⟩)
 go_ret
 exact ⟨rfl, k, os, rfl⟩
end Go.Proofs.YtdejnaokkdndeaaGreatDoor
namespace Go.Proofs.YtdejnaokkdndeaaGreatDoor
open Go.RowKit Go.V
open Go.Eng (inR byteAt u8 bytesV)
open Go.Sort (grow)
variable {g : Gv}
theorem below_grow (w : World) (q : Nat) (os : Array Obj) : Below w.heap.size w (grow (w.drewN q) os) :=
 ⟨rfl, rfl, rfl, by simp [grow, World.drewN], fun i hi => by
  show ((w.drewN q).heap ++ os)[i]? = _
  rw [Array.getElem?_append_left (by show i < w.heap.size; omega)]
  rfl⟩
theorem tab_of {w : World} (hG : ∀ b cs, (b, cs) ∈ Gl g → ∃ ty fz, w.heap[b]? = some (.cells cs.toArray ty fz)) : Lib.TabIs Tryz.prog w "internal/strconv.uint64pow10" .u64 Lib.pow10Tab := by
 obtain ⟨ty, fz, h⟩ := hG 10 (powL.map (Value.int .u64)) (by simp [Gl])
 have hn : Tryz.prog.globalNamed "internal/strconv.uint64pow10" = some 10 := by kernel_rfl
 unfold Lib.TabIs World.var?
 rw [hn]
 simp only [Option.bind_some, h]
 rfl
theorem natT_dec (u : Nat) : Lib.decDigits u = natT u := by
 induction u using Nat.strongRecOn with
 | ind u ih =>
  rw [Lib.decDigits]
  by_cases h : u < 10
  ·rw [dif_pos h, natT]
   by_cases h0 : u = 0
   ·subst h0; rfl
   ·rw [if_neg h0, natD_pos h0, show u / 10 = 0 by omega, natD_zero, show u % 10 = u by omega, ← u8_nat]; rfl
  ·rw [dif_neg h, ih (u / 10) (by omega), natT, natT, if_neg (by omega), if_neg (by omega), natD_pos (n := u) (by omega), ← u8_nat]; rfl
end Go.Proofs.YtdejnaokkdndeaaGreatDoor
namespace Go.Proofs.YtdejnaokkdndeaaGreatDoor
open Go.RowKit Go.V
open Go.Eng (inR byteAt u8 bytesV)
variable {g : Gv}
theorem natT_low {a : Nat} (h : a < 10) : natT a = [u8 (48 + (a : Int))] := by
 unfold natT
 by_cases h0 : a = 0
 ·subst h0; rfl
 ·rw [if_neg h0, natD_pos h0, show a / 10 = 0 by omega, natD_zero, show a % 10 = a by omega]; rfl
theorem natT_high {a : Nat} (h : 10 ≤ a) : natT a = natT (a / 10) ++ [u8 (48 + ((a % 10 : Nat) : Int))] := by
 unfold natT
 rw [if_neg (by omega), if_neg (by omega), natD_pos (by omega)]
def lowD : Nat → Nat → List UInt8
 | 0, _ => []
 | s + 1, a => lowD s (a / 10) ++ [u8 (48 + ((a % 10 : Nat) : Int))]
theorem lowD_len : ∀ s a, (lowD s a).length = s
 | 0, _ => rfl
 | s + 1, a => by simp [lowD, lowD_len s]
theorem natT_one : ∀ s a, natT (10 ^ s + a % 10 ^ s) = 49 :: lowD s a
 | 0, a => by rw [Nat.pow_zero, Nat.mod_one, natT_low (by decide)]; rfl
 | s + 1, a => by
  have hp : 10 ^ (s + 1) = 10 * 10 ^ s := by rw [Nat.pow_succ, Nat.mul_comm]
  have h1 : 1 ≤ 10 ^ s := Nat.one_le_pow _ _ (by decide)
  rw [natT_high (by omega)]
  have e1 : (10 ^ (s + 1) + a % 10 ^ (s + 1)) / 10 = 10 ^ s + (a / 10) % 10 ^ s := by
   rw [hp, Nat.mod_mul, Nat.add_comm (a % 10), ← Nat.add_assoc, ← Nat.mul_add, Nat.add_comm, Nat.add_mul_div_left _ _ (by decide)]
   omega
  have e2 : (10 ^ (s + 1) + a % 10 ^ (s + 1)) % 10 = a % 10 := by
   rw [hp, Nat.mul_add_mod, Nat.mod_mul_right_mod]
  rw [e1, e2, natT_one s (a / 10)]
  rfl
def padN (a s : Nat) : List UInt8 := List.replicate (s + 1 - (natT a).length) 48 ++ natT a
theorem padN_eq : ∀ s a, padN a s = natT (a / 10 ^ s) ++ lowD s a
 | 0, a => by
  have := natT_pos a
  rw [padN, show 0 + 1 - (natT a).length = 0 by omega]
  simp [lowD]
 | s + 1, a => by
  have ih := padN_eq s (a / 10)
  rw [Nat.pow_succ, Nat.mul_comm (10 ^ s), ← Nat.div_div_eq_div_mul, lowD, ← List.append_assoc, ← ih, padN, padN]
  by_cases h : a < 10
  ·rw [show a / 10 = 0 by omega, natT_low h, natT_low (a := 0) (by decide), show a % 10 = a by omega]
   simp only [List.length_cons, List.length_nil, Nat.add_sub_cancel]
   rw [List.replicate_succ']
   rfl
  ·rw [natT_high (a := a) (by omega)]
   simp only [zq16]
   rw [show s + 1 + 1 - ((natT (a / 10)).length + (0 + 1)) = s + 1 - (natT (a / 10)).length by omega]
   simp
theorem padN_take (a s : Nat) : (padN a s).take ((padN a s).length - s) = natT (a / 10 ^ s) := by
 rw [padN_eq, List.length_append, lowD_len, Nat.add_sub_cancel, List.take_left']
 rfl
theorem padN_drop (a s : Nat) : (padN a s).drop ((padN a s).length - s) = (natT (10 ^ s + a % 10 ^ s)).drop 1 := by
 rw [padN_eq, List.length_append, lowD_len, Nat.add_sub_cancel, List.drop_left', natT_one]
 ·rfl
 ·rfl
theorem padN_len (a s : Nat) : s + 1 ≤ (padN a s).length ∧ (padN a s).length ≤ s + 1 + (natT a).length := by
 simp only [padN, List.length_append, List.length_replicate]; omega
theorem decT_pad (n s : Int) : decT n s = (if n < 0 then [45] else []) ++ (if s > 0 then (padN n.natAbs s.toNat).take ((padN n.natAbs s.toNat).length - s.toNat) ++ [46] ++ (padN n.natAbs s.toNat).drop ((padN n.natAbs s.toNat).length - s.toNat) else padN n.natAbs s.toNat) := by
 unfold decT
 rw [padN_take, padN_drop]
 by_cases h : s > 0
 ·rw [if_pos h, if_pos h]; simp
 ·rw [if_neg h, if_neg h, show s.toNat = 0 by omega, padN_eq]; simp [lowD]
theorem S_sub (l : List UInt8) (i j : Nat) : (S l).extract i j = S ((l.take j).drop i) := by
 have : ((S l).extract i j).data = (S ((l.take j).drop i)).data := by simp [S, ByteArray.data_extract, List.drop_take]
 cases h1 : (S l).extract i j; cases h2 : S ((l.take j).drop i); rw [h1, h2] at this; simpa using this
theorem formatUint_ok (u : Nat) (h : u < 18446744073709551616) : SpG g 274 [.c (.d (.v (.int .u64 (u : Int)))), .c (.d (.i 10))] [] (.c (.d (.s (S (natT u))))) [] := by
 refine spec_of (args := [.int .u64 u, .int .i64 10]) rfl rfl rfl fun w hG => ?_
 refine (formatUint_any u h w (tab_of hG)).mono ?_
 rintro e w' ⟨rfl, k, os, rfl⟩
 exact ⟨by rw [natT_dec]; rfl, below_grow _ _ _⟩
theorem dec_mid {n s : Int} {t : ByteArray} (hP : t = S (padN n.natAbs s.toNat)) (hs : s > 0) : ((t.extract 0 ((t.size : Int) - s : Int).toNat ++ S [46]) ++ t.extract ((t.size : Int) - s : Int).toNat t.size) = S ((padN n.natAbs s.toNat).take ((padN n.natAbs s.toNat).length - s.toNat) ++ [46] ++ (padN n.natAbs s.toNat).drop ((padN n.natAbs s.toNat).length - s.toNat)) := by
 subst hP
 have e : (((S (padN n.natAbs s.toNat)).size : Int) - s : Int).toNat = (padN n.natAbs s.toNat).length - s.toNat := by rw [S_size]; omega
 rw [e, S_size, S_sub, S_sub, S_app, S_app, List.drop_zero, List.take_of_length_le (Nat.le_refl _)]
theorem dec_leaf1 {n s : Int} {t : ByteArray} (hP : t = S (padN n.natAbs s.toNat)) (hs : s > 0) (hn : n < 0) : S [45] ++ ((t.extract 0 ((t.size : Int) - s : Int).toNat ++ S [46]) ++ t.extract ((t.size : Int) - s : Int).toNat t.size) = S (decT n s) := by
 rw [dec_mid hP hs, S_app, decT_pad, if_pos hn, if_pos hs]
theorem dec_leaf2 {n s : Int} {t : ByteArray} (hP : t = S (padN n.natAbs s.toNat)) (hs : s > 0) (hn : ¬ n < 0) : ((t.extract 0 ((t.size : Int) - s : Int).toNat ++ S [46]) ++ t.extract ((t.size : Int) - s : Int).toNat t.size) = S (decT n s) := by
 rw [dec_mid hP hs, decT_pad, if_neg hn, if_pos hs]; rfl
theorem dec_leaf3 {n s : Int} {t : ByteArray} (hP : t = S (padN n.natAbs s.toNat)) (hs : ¬ s > 0) (hn : n < 0) : S [45] ++ t = S (decT n s) := by
 rw [hP, S_app, decT_pad, if_pos hn, if_neg hs]
theorem dec_leaf4 {n s : Int} {t : ByteArray} (hP : t = S (padN n.natAbs s.toNat)) (hs : ¬ s > 0) (hn : ¬ n < 0) : t = S (decT n s) := by
 rw [hP, decT_pad, if_neg hn, if_neg hs]; rfl
theorem decValue_ok (n s : Int) (h : decB n s = true) :
  SpG g 273 [.agg [.d (.i n), .d (.i s)]] [] (.agg [.d (.i n), .d (.i s)]) [] := by
 refine enterB 7 Tryz.func273 (by kernel_rfl) fun fr hG => ?_
 refine zC hG [(1, 1, .call (.c (.d (.b (decB n s)))) [] [])] [1, 0, 1] (decB n s) (⟨[(1, [], .c (.bx 100 0)), (2, [], .c (.bx 101 0))], [(100, .box 38 [.d (.i n), .d (.i s)]), (101, .box 38 [.d (.i 0), .d (.i 0)])]⟩) (by kernel_rfl) (conj1 ((decRight_ok n s : SpG g _ _ _ _ _))) (fun hc1 => ?_) (fun hc1 => ?_)
 ·(try simp only [blS] at hc1)
  exact zr hG [] [] (by kernel_rfl) conj0
 ·(try simp only [blS] at hc1)
  exact absurd (h.symm.trans hc1) (by decide)
theorem size_neg {n : Int} (h0 : -1000000000000000 ≤ n) (h1 : n < 0) : IntKind.wrap .u64 (IntKind.wrap .i64 (0 - n)) = (n.natAbs : Int) := by
 rw [IntKind.wrap_i64, IntKind.wrap_u64]; omega
theorem size_pos {n : Int} (h0 : n ≤ 1000000000000000) (h1 : ¬ n < 0) : IntKind.wrap .u64 n = (n.natAbs : Int) := by
 rw [IntKind.wrap_u64]; omega
theorem decSize_ok (n : Int) (h0 : -1000000000000000 ≤ n) (h1 : n ≤ 1000000000000000) :
  SpG g 275 [.c (.d (.i n))] [] (.c (.d (.v (.int .u64 (n.natAbs : Int))))) [] := by
 refine enterB 10 Tryz.func275 (by kernel_rfl) fun fr hG => ?_
 refine zC hG [] [1, 0, 1] (decide ((n : Int) < 0)) (⟨[(0, [], .c (.d (.i n))), (2, [], .c (.d (.v (.int .u64 0))))], []⟩) (by kernel_rfl) conj0 (fun hc1 => ?_) (fun hc1 => ?_)
 ·(try simp only [blS] at hc1)
  refine zR hG [] [] (.c (.d (.v (.int .u64 (IntKind.wrap .u64 (IntKind.wrap .i64 (0 - n))))))) [] (by kernel_rfl) conj0 ?_ ?_
  ·rw [size_neg h0 (by omega)]
  ·rfl
 ·(try simp only [blS] at hc1)
  refine zR hG [] [] (.c (.d (.v (.int .u64 (IntKind.wrap .u64 n))))) [] (by kernel_rfl) conj0 ?_ ?_
  ·rw [size_pos h1 (by omega)]
  ·rfl
theorem decText_ok (n s : Int) (h : decB n s = true) :
  SpG g 203 [.agg [.d (.i n), .d (.i s)]] [] (.c (.d (.s (S (decT n s))))) [] := by
 obtain ⟨b0, b1, b2, b3, b4⟩ := decB_bd h
 have hl16 := natT_len (n := n.natAbs) (k := 16) (by omega) (by decide)
 have hl1 := natT_pos n.natAbs
 have hpl := padN_len n.natAbs s.toNat
 refine enterB 44 Tryz.func203 (by kernel_rfl) fun fr hG => ?_
 refine zL hG [(1, 1, .call (.agg [.d (.i n), .d (.i s)]) [] []), (2, 2, .call (.c (.d (.v (.int .u64 (n.natAbs : Int))))) [] []), (2, 3, .call (.c (.d (.s (S (natT n.natAbs))))) [] [])] [0, 1, 0, 1, 1, 1] (fun (zz : Nat × ByteArray) => match zz with | (k, t) => (s.toNat + 1 - k, ⟨[(1, [], .c (.bx 100 0)), (2, [], .c (.d (.s (S [])))), (3, [], .c (.d (.s t))), (16, [], .c (.d (.i ((s + 1) - ((S (natT n.natAbs)).size : Int))))), (17, [], .c (.d (.i (k : Int))))], [(100, .box 38 [.d (.i n), .d (.i s)])]⟩, k ≤ s.toNat + 1 - (natT n.natAbs).length ∧ t = S (List.replicate k 48 ++ natT n.natAbs))) (0, S (natT n.natAbs)) (by kernel_rfl) (conjC ((decValue_ok n s h : SpG g _ _ _ _ _)) (conjC ((decSize_ok n (by omega) (by omega) : SpG g _ _ _ _ _)) (conjC ((formatUint_ok n.natAbs (by omega) : SpG g _ _ _ _ _)) (conjC (show inR (s + 1) from (by intros; (try simp only [zq7, ByteArray.size_append, ByteArray.size_extract] at *); omega)) (conj1 (show inR ((s + 1) - ((S (natT n.natAbs)).size : Int)) from (by intros; (try simp only [zq7, ByteArray.size_append, ByteArray.size_extract] at *); omega))))))) (by kernel_rfl) ?_ ?_
 ·exact ⟨Nat.zero_le _, rfl⟩
 rintro ⟨k, t⟩ ⟨hk, ht⟩
 have hlt : t.size = k + (natT n.natAbs).length := by rw [ht, S_size]; simp
 refine zc hG [] [0, 1] (decide (((k : Int) : Int) < ((s + 1) - ((S (natT n.natAbs)).size : Int)))) (by kernel_rfl) conj0 (fun hc2 => ?_) (fun hc2 => ?_)
 ·(try simp only [zq14] at hc2)
  refine zD hG [] (k + 1, S [48] ++ t) (by kernel_rfl) (conjC (show (S [48]).size + (t).size ≤ maxLen from (by intros; (try simp only [zq7, ByteArray.size_append, ByteArray.size_extract] at *); omega)) (conj1 (show inR ((k : Int) + 1) from (by intros; (try simp only [zq7, ByteArray.size_append, ByteArray.size_extract] at *); omega)))) ?_ ?_
  ·(try dsimp only); omega
  ·refine ⟨by omega, ?_⟩
   rw [ht, S_app, List.replicate_succ]; rfl
 ·(try simp only [zq14] at hc2)
  have hP : t = S (padN n.natAbs s.toNat) := by
   rw [ht, padN, show s.toNat + 1 - (natT n.natAbs).length = k by omega]
  have hps : t.size = (padN n.natAbs s.toNat).length := by rw [hP, S_size]
  clear hlt ht
  refine zE hG [] (.exit 0) (⟨[(1, [], .c (.bx 100 0)), (2, [], .c (.d (.s (S [])))), (3, [], .c (.d (.s t)))], [(100, .box 38 [.d (.i n), .d (.i s)])]⟩) (by kernel_rfl) conj0 rfl ?_
  refine zc hG [] [1, 0, 1, 1, 1, 1] (decide ((s : Int) > 0)) (by kernel_rfl) conj0 (fun hc3 => ?_) (fun hc3 => ?_)
  ·(try simp only [zq14] at hc3)
   refine zC hG [] [1, 0, 1, 1, 1, 1, 1] (decide ((n : Int) < 0)) (⟨[(2, [], .c (.d (.s (S [])))), (3, [], .c (.d (.s ((((t).extract 0 (((t).size : Int) - s : Int).toNat) ++ (S [46])) ++ ((t).extract (((t).size : Int) - s : Int).toNat (t).size)))))], []⟩) (by kernel_rfl) (conjC (show inR (((t).size : Int) - s) from (by intros; (try simp only [zq7, ByteArray.size_append, ByteArray.size_extract] at *); omega)) (conjC (show (0 : Int) ≤ 0 ∧ (0 : Int) ≤ (((t).size : Int) - s) ∧ (((t).size : Int) - s) ≤ ((t).size : Int) from (by intros; (try simp only [zq7, ByteArray.size_append, ByteArray.size_extract] at *); omega)) (conjC (show ((t).extract 0 (((t).size : Int) - s : Int).toNat).size + (S [46]).size ≤ maxLen from (by intros; (try simp only [zq7, ByteArray.size_append, ByteArray.size_extract] at *); omega)) (conjC (show (0 : Int) ≤ (((t).size : Int) - s) ∧ (((t).size : Int) - s : Int) ≤ ((t).size : Int) ∧ ((t).size : Int) ≤ ((t).size : Int) from (by intros; (try simp only [zq7, ByteArray.size_append, ByteArray.size_extract] at *); omega)) (conj1 (show (((t).extract 0 (((t).size : Int) - s : Int).toNat) ++ (S [46])).size + ((t).extract (((t).size : Int) - s : Int).toNat (t).size).size ≤ maxLen from (by intros; (try simp only [zq7, ByteArray.size_append, ByteArray.size_extract] at *); omega))))))) (fun hc4 => ?_) (fun hc4 => ?_)
   ·(try simp only [zq14] at hc4)
    refine zR hG [] [] (.c (.d (.s ((S [45]) ++ ((((t).extract 0 (((t).size : Int) - s : Int).toNat) ++ (S [46])) ++ ((t).extract (((t).size : Int) - s : Int).toNat (t).size)))))) [] (by kernel_rfl) (conj1 (show (S [45]).size + ((((t).extract 0 (((t).size : Int) - s : Int).toNat) ++ (S [46])) ++ ((t).extract (((t).size : Int) - s : Int).toNat (t).size)).size ≤ maxLen from (by intros; (try simp only [zq7, ByteArray.size_append, ByteArray.size_extract] at *); omega))) ?_ ?_
    ·rw [dec_leaf1 hP (by omega) (by omega)]
    ·rfl
   ·(try simp only [zq14] at hc4)
    refine zR hG [] [] (.c (.d (.s ((((t).extract 0 (((t).size : Int) - s : Int).toNat) ++ (S [46])) ++ ((t).extract (((t).size : Int) - s : Int).toNat (t).size))))) [] (by kernel_rfl) conj0 ?_ ?_
    ·rw [dec_leaf2 hP (by omega) (by omega)]
    ·rfl
  ·(try simp only [zq14] at hc3)
   refine zC hG [] [1, 0, 1, 1, 1, 1, 1] (decide ((n : Int) < 0)) (⟨[(2, [], .c (.d (.s (S [])))), (3, [], .c (.d (.s t)))], []⟩) (by kernel_rfl) conj0 (fun hc5 => ?_) (fun hc5 => ?_)
   ·(try simp only [zq14] at hc5)
    refine zR hG [] [] (.c (.d (.s ((S [45]) ++ t)))) [] (by kernel_rfl) (conj1 (show (S [45]).size + (t).size ≤ maxLen from (by intros; (try simp only [zq7, ByteArray.size_append, ByteArray.size_extract] at *); omega))) ?_ ?_
    ·rw [dec_leaf3 hP (by omega) (by omega)]
    ·rfl
   ·(try simp only [zq14] at hc5)
    refine zR hG [] [] (.c (.d (.s t))) [] (by kernel_rfl) conj0 ?_ ?_
    ·rw [dec_leaf4 hP (by omega) (by omega)]
    ·rfl
end Go.Proofs.YtdejnaokkdndeaaGreatDoor
namespace Go.Proofs.YtdejnaokkdndeaaGreatDoor
open Go.RowKit Go.V
open Go.Eng (inR byteAt u8 bytesV)
def gT (m : Int) : Gv := ⟨m, [(0, tensL.map (Value.int .i64))]⟩
variable {m : Int}
theorem cmpInt_ok (x y : Int) : SpG (gT m) 281 [.c (.d (.i x)), .c (.d (.i y))] [] (.c (.d (.i (Lib.compareInt x y)))) [] :=
 of_exact (args := [.int .i64 x, .int .i64 y]) rfl rfl rfl fun w => (Tryz.cmp_Compare_int x y w).mono fun _ _ ⟨a, b⟩ => ⟨a, b.symm⟩
def tenD (s : Int) : Int := tensL.getD s.toNat 0
def spW (n s : Int) : Int := Int.tdiv n (tenD s)
def spP (n s : Int) : Int := Int.tmod n (tenD s) * Int.tdiv 1000000 (tenD s)
theorem tenD_cases {s : Int} (h0 : 0 ≤ s) (h1 : s ≤ 6) : tenD s = 1 ∨ tenD s = 10 ∨ tenD s = 100 ∨ tenD s = 1000 ∨ tenD s = 10000 ∨ tenD s = 100000 ∨ tenD s = 1000000 := by
 have : s = 0 ∨ s = 1 ∨ s = 2 ∨ s = 3 ∨ s = 4 ∨ s = 5 ∨ s = 6 := by omega
 rcases this with rfl | rfl | rfl | rfl | rfl | rfl | rfl <;> simp [tenD, tensL]
theorem tenD_div {s : Int} (h0 : 0 ≤ s) (h1 : s ≤ 6) : 1 ≤ tenD s ∧ tenD s ≤ 1000000 ∧ 1 ≤ Int.tdiv 1000000 (tenD s) ∧ tenD s * Int.tdiv 1000000 (tenD s) = 1000000 := by
 rcases tenD_cases h0 h1 with h | h | h | h | h | h | h <;> rw [h] <;> decide
theorem sp_bd {n s : Int} (h0 : 0 ≤ s) (h1 : s ≤ 6) (hn : -1000000000000000 ≤ n) (hm : n ≤ 1000000000000000) : tenD s ≠ 0 ∧ inR (Int.tdiv n (tenD s)) ∧ inR (Int.tdiv 1000000 (tenD s)) ∧ inR (Int.tmod n (tenD s) * Int.tdiv 1000000 (tenD s)) := by
 obtain ⟨a, b, c, d⟩ := tenD_div h0 h1
 have e1 : (Int.tdiv n (tenD s)).natAbs ≤ n.natAbs := by rw [Int.natAbs_tdiv]; exact Nat.div_le_self _ _
 have e2 := tmod_in (x := n) (n := tenD s) a
 have e3 : Int.tdiv 1000000 (tenD s) ≤ 1000000 := by
  have := Int.mul_le_mul_of_nonneg_right a (show 0 ≤ Int.tdiv 1000000 (tenD s) by omega)
  rw [d, Int.one_mul] at this; exact this
 have e4 : (Int.tmod n (tenD s) * Int.tdiv 1000000 (tenD s)).natAbs ≤ 1000000 * 1000000 := by
  rw [Int.natAbs_mul]
  exact Nat.mul_le_mul (by omega) (by omega)
 unfold inR
 refine ⟨by omega, by omega, by omega, by omega⟩
def decCmp (a b c d : Int) : Int := if Lib.compareInt (spW a b) (spW c d) = 0 then Lib.compareInt (spP a b) (spP c d) else Lib.compareInt (spW a b) (spW c d)
theorem split_ok (n s : Int) (h : decB n s = true) :
  SpG (gT m) 276 [.agg [.d (.i n), .d (.i s)]] [] (.tup [(false, [.d (.i (spW n s))]), (false, [.d (.i (spP n s))])]) [] := by
 obtain ⟨b0, b1, b2, b3, b4⟩ := decB_bd h
 obtain ⟨c0, c1, c2, c3⟩ := sp_bd b0 b1 b2 b3
 have e0 : tensL.getD (0 + s.toNat * 1) 0 = tenD s := by rw [Nat.zero_add, Nat.mul_one]; rfl
 refine enterB 22 Tryz.func276 (by kernel_rfl) fun fr hG => ?_
 refine zR hG [(1, 1, .call (.agg [.d (.i n), .d (.i s)]) [] []), (2, 3, .elem [.i (tensL.getD (0 + (s : Int).toNat * 1) 0)])] [] (.tup [(false, [.d (.i (Int.tdiv n (tensL.getD (0 + (s : Int).toNat * 1) 0)))]), (false, [.d (.i ((Int.tmod n (tensL.getD (0 + (s : Int).toNat * 1) 0)) * (Int.tdiv 1000000 (tensL.getD (0 + (s : Int).toNat * 1) 0))))])]) [] (by kernel_rfl) (conjC ((decValue_ok n s h : SpG (gT m) _ _ _ _ _)) (conjC (show (0 : Int) ≤ s ∧ s < ((7 : Nat) : Int) from (by intros; first | omega | exact ⟨by omega, by show _ < ((7 : Nat) : Int); omega⟩ | (simp only [e0]; first | exact ⟨c0, c1⟩ | exact ⟨c0, c2⟩ | exact c0 | exact c1 | exact c2 | exact c3))) (conjC (show (tensL.map (Value.int .i64) : List Value)[0 + (s : Int).toNat * 1]? = some (.int .i64 (tensL.getD (0 + (s : Int).toNat * 1) 0)) from (by intros; exact map_nat 0 (by show _ < 7; omega))) (conjC (show (tensL.getD (0 + (s : Int).toNat * 1) 0) ≠ (0 : Int) ∧ inR (Int.tdiv n (tensL.getD (0 + (s : Int).toNat * 1) 0)) from (by intros; first | omega | exact ⟨by omega, by show _ < ((7 : Nat) : Int); omega⟩ | (simp only [e0]; first | exact ⟨c0, c1⟩ | exact ⟨c0, c2⟩ | exact c0 | exact c1 | exact c2 | exact c3))) (conjC (show (tensL.getD (0 + (s : Int).toNat * 1) 0) ≠ (0 : Int) from (by intros; first | omega | exact ⟨by omega, by show _ < ((7 : Nat) : Int); omega⟩ | (simp only [e0]; first | exact ⟨c0, c1⟩ | exact ⟨c0, c2⟩ | exact c0 | exact c1 | exact c2 | exact c3))) (conjC (show (tensL.getD (0 + (s : Int).toNat * 1) 0) ≠ (0 : Int) ∧ inR (Int.tdiv 1000000 (tensL.getD (0 + (s : Int).toNat * 1) 0)) from (by intros; first | omega | exact ⟨by omega, by show _ < ((7 : Nat) : Int); omega⟩ | (simp only [e0]; first | exact ⟨c0, c1⟩ | exact ⟨c0, c2⟩ | exact c0 | exact c1 | exact c2 | exact c3))) (conj1 (show inR ((Int.tmod n (tensL.getD (0 + (s : Int).toNat * 1) 0)) * (Int.tdiv 1000000 (tensL.getD (0 + (s : Int).toNat * 1) 0))) from (by intros; first | omega | exact ⟨by omega, by show _ < ((7 : Nat) : Int); omega⟩ | (simp only [e0]; first | exact ⟨c0, c1⟩ | exact ⟨c0, c2⟩ | exact c0 | exact c1 | exact c2 | exact c3)))))))))) ?_ ?_
 ·simp only [e0, spW, spP]
 ·rfl
theorem or_ok {x y : Int} :
  SpG (gT m) 280 [.c (.d (.sl 1 (([[.i x], [.i y]] : List (List D)))))] [] (.c (.d (.i (if x = 0 then y else x)))) [] := by
 refine enterB 18 Tryz.func280 (by kernel_rfl) fun fr hG => ?_
 refine stepL hG hmix [] [0, 1, 0, 1, 1] ((fun (zz : Nat) => match zz with | 0 => ⟨[(2, [], .c (.d (.i 0))), (3, [], .c (.d (.i 0))), (6, [], .c (.d (.sl 1 (([[.i x], [.i y]] : List (List D)))))), (7, [], .c (.d (.i 2))), (8, [], .c (.d (.i 0)))], []⟩ | 1 => ⟨[(2, [], .c (.d (.i 0))), (3, [], .c (.d (.i 0))), (6, [], .c (.d (.sl 1 (([[.i x], [.i y]] : List (List D)))))), (7, [], .c (.d (.i 2))), (8, [], .c (.d (.i 1)))], []⟩ | _ => ⟨[(2, [], .c (.d (.i 0))), (3, [], .c (.d (.i 0))), (6, [], .c (.d (.sl 1 (([[.i x], [.i y]] : List (List D)))))), (7, [], .c (.d (.i 2))), (8, [], .c (.d (.i 2)))], []⟩) 0) _ (by kernel_rfl) conj0 ?_
 refine loopR (σ := Nat) (fun (zz : Nat) => match zz with | k => 3 - k) (fun (zz : Nat) => match zz with | 0 => ⟨[(2, [], .c (.d (.i 0))), (3, [], .c (.d (.i 0))), (6, [], .c (.d (.sl 1 (([[.i x], [.i y]] : List (List D)))))), (7, [], .c (.d (.i 2))), (8, [], .c (.d (.i 0)))], []⟩ | 1 => ⟨[(2, [], .c (.d (.i 0))), (3, [], .c (.d (.i 0))), (6, [], .c (.d (.sl 1 (([[.i x], [.i y]] : List (List D)))))), (7, [], .c (.d (.i 2))), (8, [], .c (.d (.i 1)))], []⟩ | _ => ⟨[(2, [], .c (.d (.i 0))), (3, [], .c (.d (.i 0))), (6, [], .c (.d (.sl 1 (([[.i x], [.i y]] : List (List D)))))), (7, [], .c (.d (.i 2))), (8, [], .c (.d (.i 2)))], []⟩) (fun (zz : Nat) => match zz with | k => k ≤ 2 ∧ (1 ≤ k → x = 0) ∧ (2 ≤ k → y = 0)) 0 (by kernel_rfl) ?_ ?_
 ·exact ⟨Nat.zero_le _, by omega, by omega⟩
 rintro k ⟨hI, hx, hy⟩
 rcases (by omega : k = 0 ∨ k = 1 ∨ k = 2) with rfl | rfl | rfl
 ·skip
  refine zc hG [] [0, 1] (true) (by kernel_rfl) conj0 (fun _ => ?_) (fun hc2 => absurd hc2 (by decide))
  refine zC hG [(4, 0, .elem ([.i x]))] [1, 1, 0, 0, 1, 1] (!decide ((x : Int) = 0)) (⟨[(2, [], .c (.d (.i 0))), (3, [], .c (.d (.i 0))), (5, [], .c (.d (.i x))), (6, [], .c (.d (.sl 1 (([[.i x], [.i y]] : List (List D)))))), (7, [], .c (.d (.i 2))), (8, [], .c (.d (.i 0)))], []⟩) (by kernel_rfl) (conj1 (show (0 : Int) ≤ 0 ∧ (([[.i x], [.i y]] : List (List D)))[0]? = some ([.i x]) from ⟨by decide, rfl⟩)) (fun hc3 => ?_) (fun hc3 => ?_)
  ·(try simp only [blS] at hc3)
   refine zE hG [] .ret (⟨[(2, [], .c (.d (.i x))), (3, [], .c (.d (.i 0)))], []⟩) (by kernel_rfl) conj0 rfl ?_
   refine zR hG [] [] (.c (.d (.i x))) [] (by kernel_rfl) conj0 ?_ ?_
   ·have e1 := hx; have e2 := hy
    by_cases h0 : x = 0 <;> by_cases h1 : y = 0 <;> simp_all
   ·rfl
  ·(try simp only [blS] at hc3)
   refine zD hG [] 1 (by kernel_rfl) (conj1 (show inR (0 + 1) from (by unfold inR; decide))) ?_ ?_
   ·(try dsimp only); decide
   ·exact ⟨by decide, by intros; omega, by intros; omega⟩
 ·skip
  refine zc hG [] [0, 1] (true) (by kernel_rfl) conj0 (fun _ => ?_) (fun hc4 => absurd hc4 (by decide))
  refine zC hG [(4, 0, .elem ([.i y]))] [1, 1, 0, 0, 1, 1] (!decide ((y : Int) = 0)) (⟨[(2, [], .c (.d (.i 0))), (3, [], .c (.d (.i 0))), (5, [], .c (.d (.i y))), (6, [], .c (.d (.sl 1 (([[.i x], [.i y]] : List (List D)))))), (7, [], .c (.d (.i 2))), (8, [], .c (.d (.i 1)))], []⟩) (by kernel_rfl) (conj1 (show (0 : Int) ≤ 1 ∧ (([[.i x], [.i y]] : List (List D)))[1]? = some ([.i y]) from ⟨by decide, rfl⟩)) (fun hc5 => ?_) (fun hc5 => ?_)
  ·(try simp only [blS] at hc5)
   refine zE hG [] .ret (⟨[(2, [], .c (.d (.i y))), (3, [], .c (.d (.i 0)))], []⟩) (by kernel_rfl) conj0 rfl ?_
   refine zR hG [] [] (.c (.d (.i y))) [] (by kernel_rfl) conj0 ?_ ?_
   ·have e1 := hx; have e2 := hy
    by_cases h0 : x = 0 <;> by_cases h1 : y = 0 <;> simp_all
   ·rfl
  ·(try simp only [blS] at hc5)
   refine zD hG [] 2 (by kernel_rfl) (conj1 (show inR (1 + 1) from (by unfold inR; decide))) ?_ ?_
   ·(try dsimp only); decide
   ·exact ⟨by decide, by intros; omega, by intros; omega⟩
 ·skip
  refine zc hG [] [0, 1] (false) (by kernel_rfl) conj0 (fun hc6 => absurd hc6 (by decide)) (fun _ => ?_)
  refine zE hG [] (.exit 0) (⟨[(2, [], .c (.d (.i 0))), (3, [], .c (.d (.i 0)))], []⟩) (by kernel_rfl) conj0 rfl ?_
  refine zR hG [] [] (.c (.d (.i 0))) [] (by kernel_rfl) conj0 ?_ ?_
  ·have e1 := hx; have e2 := hy
   by_cases h0 : x = 0 <;> by_cases h1 : y = 0 <;> simp_all
  ·rfl
theorem decCmp_ok (a b c d : Int) (h1 : decB a b = true) (h2 : decB c d = true) :
  SpG (gT m) 208 [.agg [.d (.i a), .d (.i b)], .agg [.d (.i c), .d (.i d)]] [] (.c (.d (.i (decCmp a b c d)))) [] := by
 refine enterB 27 Tryz.func208 (by kernel_rfl) fun fr hG => ?_
 exact zr hG [(1, 1, .call (.tup [(false, [.d (.i (spW a b))]), (false, [.d (.i (spP a b))])]) [] []), (2, 1, .call (.tup [(false, [.d (.i (spW c d))]), (false, [.d (.i (spP c d))])]) [] []), (3, 2, .call (.c (.d (.i (Lib.compareInt (spW a b) (spW c d))))) [] []), (3, 5, .call (.c (.d (.i (Lib.compareInt (spP a b) (spP c d))))) [] []), (3, 7, .call (.c (.d (.i (decCmp a b c d)))) [] [])] [] (by kernel_rfl) (conjC ((split_ok a b (by assumption) : SpG (gT m) _ _ _ _ _)) (conjC ((split_ok c d (by assumption) : SpG (gT m) _ _ _ _ _)) (conjC ((cmpInt_ok (spW a b) (spW c d) : SpG (gT m) _ _ _ _ _)) (conjC ((cmpInt_ok (spP a b) (spP c d) : SpG (gT m) _ _ _ _ _)) (conj1 ((or_ok (x := Lib.compareInt (spW a b) (spW c d)) (y := Lib.compareInt (spP a b) (spP c d)) : SpG (gT m) _ _ _ _ _)))))))
end Go.Proofs.YtdejnaokkdndeaaGreatDoor
namespace Go.Proofs.YtdejnaokkdndeaaGreatDoor
open Go.RowKit Go.V
open Go.Eng (inR byteAt u8 bytesV)
theorem isTextL_of {l : List UInt8} (h : l.all okByte = true) (hl : l.length ≤ 200) : isTextL l = true := by
 have e : bs (S l) = l := by simp [bs, S]
 simp only [isTextL, isTextB, Bool.and_eq_true, decide_eq_true_eq, S_size, e]
 exact ⟨h, by omega⟩
theorem okByte_ch (l : List Int) (k : Int) : okByte (u8 (32 + nxV l k 95)) = true := by
 have := nxV_bd l k (n := 95) (by decide)
 simp only [okByte, u8, Bool.and_eq_true, decide_eq_true_eq, UInt8.toNat_ofNat']
 omega
theorem ch_all (l : List Int) : ∀ (n : Nat) (k : Int), (chM l n k).1.all okByte = true
 | 0, k => rfl
 | n + 1, k => by simp only [chM, List.all_cons, okByte_ch, ch_all l n, Bool.and_true]
theorem words_all : ∀ i, i < 15 → (wordsL.getD i []).all okByte = true ∧ (wordsL.getD i []).length ≤ 200 := by decide
theorem tx_right (l : List Int) (k : Int) : isTextL (txM l k).1 = true := by
 unfold txM; split
 ·have := nxV_bd l k (n := 18) (by decide)
  have h := words_all (nxV l k 18).toNat (by omega)
  exact isTextL_of h.1 h.2
 ·exact isTextL_of (ch_all l _ _) (by rw [ch_len]; have := txN_bd l k; omega)
theorem fit_right (neg : Bool) (m : Nat) (s : Int) : decB (fitN neg m s) (fitS m s) = true := by
 unfold fitN fitS
 cases hb : fitB m s with
 | false => simp [decB]
 | true =>
  have h := hb
  simp only [fitB, decide_eq_true_eq] at h
  have ho := fitL_odd s.toNat m
  generalize (fitL m s.toNat).1 = a at *
  generalize (fitL m s.toNat).2 = b at *
  have ht : ((a : Int).tmod 10 = ((a % 10 : Nat) : Int)) := by rw [Int.tmod_eq_emod_of_nonneg (by omega)]; omega
  have hn : ((-(a : Int)).tmod 10 = -((a % 10 : Nat) : Int)) := by rw [Int.neg_tmod, ht]
  cases neg
  ·simp only [if_true, if_false, Bool.false_eq_true, decB, ht, Bool.and_eq_true, Bool.or_eq_true, decide_eq_true_eq]; omega
  ·simp only [if_true, decB, hn, Bool.and_eq_true, Bool.or_eq_true, decide_eq_true_eq]; omega
theorem dc_right (l : List Int) (k : Int) : decB (dcM l k).1 (dcM l k).2.1 = true := fit_right _ _ _
structure Cl.good (c : Cl) : Prop where
 kind : ¬ c.kind = 5
 right : rightK false c.toV = true
 len : c.s.length ≤ 200
theorem right3 (n : Int) (h0 : 0 ≤ n) (h1 : n ≤ 3652058) : rightK false ⟨3, [], 0, 0, n, [], []⟩ = true := by simp [rightK, bareB, h0, h1]
theorem right4 (n : Int) (h0 : 0 ≤ n) (h1 : n < 2) : rightK false ⟨4, [], 0, 0, n, [], []⟩ = true := by
 have : n = 0 ∨ n = 1 := by omega
 rcases this with rfl | rfl <;> decide
theorem right0 (n : Int) (h0 : 0 ≤ n) (h1 : n ≤ 99) : rightK false ⟨0, [], 0, 0, n, [], []⟩ = true := by simp [rightK, bareB, h0, h1]
theorem cv_good (l : List Int) (k kind : Int) : (cvM l k kind).1.good := by
 unfold cvM
 split
 ·exact ⟨by simp, by simp [rightK, Cl.toV, bareB, tx_right], isTextL_len (tx_right l k)⟩
 ·split
  ·exact ⟨by simp, by simp [rightK, Cl.toV, bareB, dc_right], by simp⟩
  ·split
   ·have h1 := nxV_bd l k (n := 1000) (by decide)
    have h2 := nxV_bd l (nxK l (nxK l k 1000) 8) (n := 3652059) (by decide)
    split
    ·exact ⟨by simp, right3 _ (by dsimp only; omega) (by dsimp only; omega), by simp⟩
    ·exact ⟨by simp, right3 _ (by dsimp only; omega) (by dsimp only; omega), by simp⟩
   ·split
    ·have h1 := nxV_bd l k (n := 2) (by decide)
     exact ⟨by simp, right4 _ (by dsimp only; omega) (by dsimp only; omega), by simp⟩
    ·have h1 := nxV_bd l k (n := 100) (by decide)
     exact ⟨by simp, right0 _ (by dsimp only; omega) (by dsimp only; omega), by simp⟩
end Go.Proofs.YtdejnaokkdndeaaGreatDoor
namespace Go.Proofs.YtdejnaokkdndeaaGreatDoor
open Go.RowKit Go.V
open Go.Eng (inR byteAt u8 bytesV)
theorem ci_cases (x y : Int) : (x < y ∧ Lib.compareInt x y = -1) ∨ (x = y ∧ Lib.compareInt x y = 0) ∨ (y < x ∧ Lib.compareInt x y = 1) := by
 unfold Lib.compareInt
 by_cases h : x < y
 ·exact .inl ⟨h, if_pos h⟩
 ·by_cases h2 : x > y
  ·exact .inr (.inr ⟨h2, by rw [if_neg h, if_pos h2]⟩)
  ·exact .inr (.inl ⟨by omega, by rw [if_neg h, if_neg h2]⟩)
def decV (n s : Int) : Int := n * Int.tdiv 1000000 (tenD s)
theorem sp_facts {n s : Int} (h0 : 0 ≤ s) (h1 : s ≤ 6) : decV n s = 1000000 * spW n s + spP n s ∧ -1000000 < spP n s ∧ spP n s < 1000000 ∧ ((0 ≤ spW n s ∧ 0 ≤ spP n s) ∨ (spW n s ≤ 0 ∧ spP n s ≤ 0)) := by
 have key : ∀ d u : Int, 0 < d → 0 < u → d * u = 1000000 → n * u = 1000000 * Int.tdiv n d + Int.tmod n d * u ∧ -1000000 < Int.tmod n d * u ∧ Int.tmod n d * u < 1000000 ∧ ((0 ≤ Int.tdiv n d ∧ 0 ≤ Int.tmod n d * u) ∨ (Int.tdiv n d ≤ 0 ∧ Int.tmod n d * u ≤ 0)) := by
  intro d u hd hu hdu
  have e := Int.mul_tdiv_add_tmod n d
  have e2 : n * u = 1000000 * Int.tdiv n d + Int.tmod n d * u := by
   conv => lhs; rw [← e]
   rw [Int.add_mul, Int.mul_right_comm, hdu]
  have b1 : Int.tmod n d < d := Int.tmod_lt_of_pos n hd
  have b2 : -d < Int.tmod n d := by
   have := Int.lt_tmod_of_pos n hd
   omega
  have c1 : Int.tmod n d * u < d * u := Int.mul_lt_mul_of_pos_right b1 hu
  have c2 : -d * u < Int.tmod n d * u := Int.mul_lt_mul_of_pos_right b2 hu
  rw [Int.neg_mul] at c2
  refine ⟨e2, by omega, by omega, ?_⟩
  by_cases hn : 0 ≤ n
  ·exact .inl ⟨Int.tdiv_nonneg hn (by omega), Int.mul_nonneg (Int.tmod_nonneg d hn) (by omega)⟩
  ·refine .inr ⟨?_, ?_⟩
   ·have := Int.tdiv_nonneg (a := -n) (b := d) (by omega) (by omega)
    rw [Int.neg_tdiv] at this; omega
   ·have := Int.tmod_nonneg (a := -n) d (by omega)
    rw [Int.neg_tmod] at this
    have h3 := Int.mul_nonneg this (show 0 ≤ u by omega)
    rw [Int.neg_mul] at h3; omega
 obtain ⟨a, b, c, d⟩ := tenD_div h0 h1
 exact key (tenD s) (Int.tdiv 1000000 (tenD s)) (by omega) (by omega) d
theorem decCmp_eq {a b c d : Int} (h1 : decB a b = true) (h2 : decB c d = true) : decCmp a b c d = Lib.compareInt (decV a b) (decV c d) := by
 obtain ⟨x1, x2, x3, x4, _⟩ := decB_bd h1
 obtain ⟨y1, y2, y3, y4, _⟩ := decB_bd h2
 obtain ⟨p1, p2, p3, p4⟩ := sp_facts (n := a) x1 x2
 obtain ⟨q1, q2, q3, q4⟩ := sp_facts (n := c) y1 y2
 unfold decCmp
 rcases ci_cases (spW a b) (spW c d) with ⟨h, h'⟩ | ⟨h, h'⟩ | ⟨h, h'⟩ <;> rcases ci_cases (spP a b) (spP c d) with ⟨k, k'⟩ | ⟨k, k'⟩ | ⟨k, k'⟩ <;> rcases ci_cases (decV a b) (decV c d) with ⟨j, j'⟩ | ⟨j, j'⟩ | ⟨j, j'⟩ <;> rw [h', j'] <;> first | (exfalso; omega) | (simp; done) | (simp; exact k')
theorem dv0 (n : Int) : decV n 0 = n * 1000000 := rfl
theorem dv1 (n : Int) : decV n 1 = n * 100000 := rfl
theorem dv2 (n : Int) : decV n 2 = n * 10000 := rfl
theorem dv3 (n : Int) : decV n 3 = n * 1000 := rfl
theorem dv4 (n : Int) : decV n 4 = n * 100 := rfl
theorem dv5 (n : Int) : decV n 5 = n * 10 := rfl
theorem dv6 (n : Int) : decV n 6 = n * 1 := rfl
theorem decV_inj0 {a b c d : Int} (x1 : 0 ≤ b) (x2 : b ≤ 6) (y1 : 0 ≤ d) (y2 : d ≤ 6) (t1 : b = 0 ∨ ¬ a % 10 = 0) (t2 : d = 0 ∨ ¬ c % 10 = 0) (h : decV a b = decV c d) : a = c ∧ b = d := by
 have hb : b = 0 ∨ b = 1 ∨ b = 2 ∨ b = 3 ∨ b = 4 ∨ b = 5 ∨ b = 6 := by omega
 have hd : d = 0 ∨ d = 1 ∨ d = 2 ∨ d = 3 ∨ d = 4 ∨ d = 5 ∨ d = 6 := by omega
 clear x1 x2 y1 y2
 rcases hb with rfl | rfl | rfl | rfl | rfl | rfl | rfl <;> rcases hd with rfl | rfl | rfl | rfl | rfl | rfl | rfl <;> simp only [dv0, dv1, dv2, dv3, dv4, dv5, dv6] at h <;> omega
theorem decV_inj {a b c d : Int} (h1 : decB a b = true) (h2 : decB c d = true) (h : decV a b = decV c d) : a = c ∧ b = d := by
 obtain ⟨x1, x2, x3, x4, x5⟩ := decB_bd h1
 obtain ⟨y1, y2, y3, y4, y5⟩ := decB_bd h2
 have t1 : b = 0 ∨ ¬ a % 10 = 0 := x5.imp id fun hh hm => hh (by rw [← Int.dvd_iff_tmod_eq_zero]; exact Int.dvd_of_emod_eq_zero hm)
 have t2 : d = 0 ∨ ¬ c % 10 = 0 := y5.imp id fun hh hm => hh (by rw [← Int.dvd_iff_tmod_eq_zero]; exact Int.dvd_of_emod_eq_zero hm)
 exact decV_inj0 x1 x2 y1 y2 t1 t2 h
def isJ (V rn rs : Int) (rb : Bool) : Prop := (rb = true → decB rn rs = true ∧ decV rn rs = V) ∧ (rb = false → rn = 0 ∧ rs = 0 ∧ ∀ n s, decB n s = true → ¬ decV n s = V)
theorem td6 (p : Int) : 1000000 * Int.tdiv p 1000000 + Int.tmod p 1000000 = p ∧ -1000000 < Int.tmod p 1000000 ∧ Int.tmod p 1000000 < 1000000 := by
 have b2 := Int.lt_tmod_of_pos p (show (0 : Int) < 1000000 by decide)
 exact ⟨Int.mul_tdiv_add_tmod p 1000000, by omega, Int.tmod_lt_of_pos p (by decide)⟩
theorem td10 (q : Int) : 10 * Int.tdiv q 10 + Int.tmod q 10 = q ∧ (Int.tmod q 10 = 0 ↔ q % 10 = 0) := by
 refine ⟨Int.mul_tdiv_add_tmod q 10, fun h => ?_, fun h => ?_⟩
 ·have := Int.mul_tdiv_add_tmod q 10; omega
 ·rw [← Int.dvd_iff_tmod_eq_zero]; exact Int.dvd_of_emod_eq_zero h
theorem six_of {k : Int} (h0 : 0 ≤ k) (h1 : k ≤ 6) : k = 0 ∨ k = 1 ∨ k = 2 ∨ k = 3 ∨ k = 4 ∨ k = 5 ∨ k = 6 := by omega
theorem tn0 : tenD 0 = 1 := rfl
theorem tn1 : tenD 1 = 10 := rfl
theorem tn2 : tenD 2 = 100 := rfl
theorem tn3 : tenD 3 = 1000 := rfl
theorem tn4 : tenD 4 = 10000 := rfl
theorem tn5 : tenD 5 = 100000 := rfl
theorem tn6 : tenD 6 = 1000000 := rfl
theorem j_step {q k P : Int} (h0 : 0 ≤ k) (h1 : k ≤ 6) (hq : decV q k = P) (a : -tenD k < q) (b : q < tenD k) (c : k > 0) (d : Int.tmod q 10 = 0) : 0 ≤ k - 1 ∧ k - 1 ≤ 6 ∧ decV (Int.tdiv q 10) (k - 1) = P ∧ -tenD (k - 1) < Int.tdiv q 10 ∧ Int.tdiv q 10 < tenD (k - 1) := by
 have e := (td10 q).1
 rw [d] at e
 rcases six_of h0 h1 with rfl | rfl | rfl | rfl | rfl | rfl | rfl
 ·omega
 ·simp only [show (1 : Int) - 1 = 0 from rfl, dv0, dv1, tn0, tn1] at *; omega
 ·simp only [show (2 : Int) - 1 = 1 from rfl, dv1, dv2, tn1, tn2] at *; omega
 ·simp only [show (3 : Int) - 1 = 2 from rfl, dv2, dv3, tn2, tn3] at *; omega
 ·simp only [show (4 : Int) - 1 = 3 from rfl, dv3, dv4, tn3, tn4] at *; omega
 ·simp only [show (5 : Int) - 1 = 4 from rfl, dv4, dv5, tn4, tn5] at *; omega
 ·simp only [show (6 : Int) - 1 = 5 from rfl, dv5, dv6, tn5, tn6] at *; omega
theorem j_end {q k P W : Int} (h0 : 0 ≤ k) (h1 : k ≤ 6) (hq : decV q k = P) (a : -tenD k < q) (b : q < tenD k) (c : k = 0 ∨ ¬ Int.tmod q 10 = 0) (hs : (0 ≤ W ∧ 0 ≤ P) ∨ (W ≤ 0 ∧ P ≤ 0)) : decV (W * tenD k + q) k = 1000000 * W + P ∧ (k = 0 ∨ ¬ (W * tenD k + q) % 10 = 0) ∧ ((W < -Int.tdiv 1000000000000000 (tenD k) ∨ W > Int.tdiv 1000000000000000 (tenD k)) → W * tenD k + q < -1000000000000000 ∨ 1000000000000000 < W * tenD k + q) := by
 have e := (td10 q).2
 rw [e] at c
 rcases six_of h0 h1 with rfl | rfl | rfl | rfl | rfl | rfl | rfl
 ·simp only [dv0, tn0, show Int.tdiv 1000000000000000 1 = 1000000000000000 from rfl] at hq a b ⊢; exact ⟨by omega, .inl trivial, by omega⟩
 ·simp only [dv1, tn1, show Int.tdiv 1000000000000000 10 = 100000000000000 from rfl] at *; omega
 ·simp only [dv2, tn2, show Int.tdiv 1000000000000000 100 = 10000000000000 from rfl] at *; omega
 ·simp only [dv3, tn3, show Int.tdiv 1000000000000000 1000 = 1000000000000 from rfl] at *; omega
 ·simp only [dv4, tn4, show Int.tdiv 1000000000000000 10000 = 100000000000 from rfl] at *; omega
 ·simp only [dv5, tn5, show Int.tdiv 1000000000000000 100000 = 10000000000 from rfl] at *; omega
 ·simp only [dv6, tn6, show Int.tdiv 1000000000000000 1000000 = 1000000000 from rfl] at *; omega
theorem decB_of {n s : Int} (h0 : 0 ≤ s) (h1 : s ≤ 6) (t : s = 0 ∨ ¬ n % 10 = 0) (a : -1000000000000000 ≤ n) (b : n ≤ 1000000000000000) : decB n s = true := by
 have e := (td10 n).2
 simp only [decB, Bool.and_eq_true, Bool.or_eq_true, decide_eq_true_eq]
 exact ⟨⟨⟨⟨h0, h1⟩, a⟩, b⟩, t.imp id fun h h' => h (e.1 h')⟩
theorem decB_t {n s : Int} (h : decB n s = true) : s = 0 ∨ ¬ n % 10 = 0 := by
 obtain ⟨_, _, _, _, t⟩ := decB_bd h
 exact t.imp id fun h h' => h ((td10 n).2.2 h')
theorem j_yes {n s V rn rs : Int} {rb : Bool} (h : isJ V rn rs rb) (hb : decB n s = true) (hv : decV n s = V) : rn = n ∧ rs = s ∧ rb = true := by
 cases rb with
 | false => exact absurd hv ((h.2 rfl).2.2 n s hb)
 | true =>
  obtain ⟨a, b⟩ := h.1 rfl
  obtain ⟨c, d⟩ := decV_inj a hb (by rw [b, hv])
  exact ⟨c, d, rfl⟩
theorem j_no {n s V rn rs : Int} {rb : Bool} (h : isJ V rn rs rb) (h0 : 0 ≤ s) (h1 : s ≤ 6) (t : s = 0 ∨ ¬ n % 10 = 0) (hv : decV n s = V) (hb : n < -1000000000000000 ∨ 1000000000000000 < n) : rn = 0 ∧ rs = 0 ∧ rb = false := by
 cases rb with
 | false => exact ⟨(h.2 rfl).1, (h.2 rfl).2.1, rfl⟩
 | true =>
  obtain ⟨a, b⟩ := h.1 rfl
  obtain ⟨y1, y2, y3, y4, y5⟩ := decB_bd a
  obtain ⟨c, d⟩ := decV_inj0 y1 y2 h0 h1 (decB_t a) t (by rw [b, hv])
  omega
theorem isJ_ex (V : Int) : ∃ rn rs rb, isJ V rn rs rb := by
 by_cases h : ∃ n s, decB n s = true ∧ decV n s = V
 ·obtain ⟨n, s, h1, h2⟩ := h
  exact ⟨n, s, true, fun _ => ⟨h1, h2⟩, fun h => by cases h⟩
 ·exact ⟨0, 0, false, fun h => (by cases h), fun _ => ⟨rfl, rfl, fun n s h1 h2 => h ⟨n, s, h1, h2⟩⟩⟩
theorem sp_small {n s : Int} (h : decB n s = true) : -1000000000000000 ≤ spW n s ∧ spW n s ≤ 1000000000000000 ∧ -1000000 < spP n s ∧ spP n s < 1000000 ∧ decV n s = 1000000 * spW n s + spP n s := by
 obtain ⟨a, b, c, d, _⟩ := decB_bd h
 obtain ⟨e, f, g, i⟩ := sp_facts (n := n) a b
 refine ⟨?_, ?_, f, g, e⟩ <;> (rcases six_of a b with rfl | rfl | rfl | rfl | rfl | rfl | rfl <;> simp only [dv0, dv1, dv2, dv3, dv4, dv5, dv6] at e <;> omega)
end Go.Proofs.YtdejnaokkdndeaaGreatDoor
namespace Go.Proofs.YtdejnaokkdndeaaGreatDoor
open Go.RowKit Go.V
open Go.Eng (inR byteAt u8 bytesV)
def dval (l : List UInt8) : Nat := l.foldl (fun a c => 10 * a + (c.toNat - 48)) 0
def isDig (c : UInt8) : Bool := decide (48 ≤ c.toNat) && decide (c.toNat ≤ 57)
theorem dval_snoc (l : List UInt8) (c : UInt8) : dval (l ++ [c]) = 10 * dval l + (c.toNat - 48) := by simp [dval]
theorem u8_digit {k : Nat} (h : k < 10) : (u8 (48 + (k : Int))).toNat = 48 + k := by
 have : ((48 + (k : Int)) % 256).toNat = 48 + k := by omega
 rw [u8, this, UInt8.toNat_ofNat']; omega
theorem natD_val : ∀ n : Nat, dval (natD n) = n ∧ (natD n).all isDig = true := by
 intro n
 induction n using Nat.strongRecOn with
 | ind n ih =>
  by_cases h : n = 0
  ·subst h; rw [natD_zero]; exact ⟨rfl, rfl⟩
  ·obtain ⟨h1, h2⟩ := ih (n / 10) (by omega)
   have hd := u8_digit (k := n % 10) (by omega)
   rw [natD_pos h, dval_snoc, h1, hd]
   refine ⟨by omega, ?_⟩
   rw [List.all_append, h2]
   simp only [List.all_cons, List.all_nil, isDig, hd, Bool.and_true, Bool.true_and, Bool.and_eq_true, decide_eq_true_eq]; omega
theorem natT_val (n : Nat) : dval (natT n) = n ∧ (natT n).all isDig = true := by
 unfold natT
 split
 ·rename_i h; subst h; exact ⟨rfl, rfl⟩
 ·exact natD_val n
theorem natT_ne (n : Nat) : natT n ≠ [] := fun h => by have := natT_pos n; rw [h] at this; simp at this
theorem dval_zeros (l : List UInt8) : ∀ k : Nat, dval (List.replicate k 48 ++ l) = dval l
 | 0 => rfl
 | k + 1 => by
  have ih := dval_zeros l k
  rw [List.replicate_succ, List.cons_append]
  unfold dval at ih ⊢
  rw [List.foldl_cons]
  exact ih
theorem zeros_dig (k : Nat) : (List.replicate k (48 : UInt8)).all isDig = true := by
 rw [List.all_eq_true]; intro x hx; rw [(List.mem_replicate.1 hx).2]; rfl
theorem padN_val (a s : Nat) : dval (padN a s) = a ∧ (padN a s).all isDig = true := by
 unfold padN
 rw [dval_zeros, List.all_append, (natT_val a).2, zeros_dig]
 exact ⟨(natT_val a).1, rfl⟩
theorem takeWhile_all {α : Type} {p : α → Bool} {l r : List α} (h : l.all p = true) (hr : r = [] ∨ ∃ x t, r = x :: t ∧ p x = false) : (l ++ r).takeWhile p = l ∧ (l ++ r).dropWhile p = r := by
 induction l with
 | nil =>
  rcases hr with rfl | ⟨x, t, rfl, hx⟩
  ·simp
  ·simp [List.takeWhile_cons, List.dropWhile_cons, hx]
 | cons y l ih =>
  simp only [List.all_cons, Bool.and_eq_true] at h
  obtain ⟨h1, h2⟩ := ih h.2
  simp [List.takeWhile_cons, List.dropWhile_cons, h.1, h1, h2]
def absT (a s : Nat) : List UInt8 := natT (a / 10 ^ s) ++ (if s = 0 then [] else 46 :: lowD s a)
theorem lowD_dig (a s : Nat) : (lowD s a).all isDig = true := by
 have h := (padN_val a s).2
 rw [padN_eq, List.all_append, Bool.and_eq_true] at h
 exact h.2
theorem absT_parts (a s : Nat) : (absT a s).takeWhile isDig = natT (a / 10 ^ s) ∧ ((absT a s).dropWhile isDig).drop 1 = lowD s a := by
 unfold absT
 by_cases h : s = 0
 ·rw [if_pos h]
  obtain ⟨h1, h2⟩ := takeWhile_all (natT_val (a / 10 ^ s)).2 (.inl rfl)
  rw [h1, h2]; subst h; exact ⟨rfl, rfl⟩
 ·rw [if_neg h]
  obtain ⟨h1, h2⟩ := takeWhile_all (r := 46 :: lowD s a) (natT_val (a / 10 ^ s)).2 (.inr ⟨46, _, rfl, rfl⟩)
  rw [h1, h2]; exact ⟨rfl, rfl⟩
theorem decT_abs {n s : Int} (h : 0 ≤ s) : decT n s = (if n < 0 then [45] else []) ++ absT n.natAbs s.toNat := by
 unfold decT absT
 by_cases h0 : s > 0
 ·rw [if_pos h0, if_neg (show ¬ s.toNat = 0 by omega), natT_one]; simp
 ·rw [if_neg h0, if_pos (show s.toNat = 0 by omega)]; simp
theorem absT_head (a s : Nat) : ∃ c t, absT a s = c :: t ∧ isDig c = true := by
 unfold absT
 cases h : natT (a / 10 ^ s) with
 | nil => exact absurd h (natT_ne _)
 | cons c t =>
  have := (natT_val (a / 10 ^ s)).2
  rw [h, List.all_cons, Bool.and_eq_true] at this
  exact ⟨c, _, rfl, this.1⟩
def absP (l : List UInt8) : Nat × Nat := (dval (l.takeWhile isDig ++ (l.dropWhile isDig).drop 1), ((l.dropWhile isDig).drop 1).length)
theorem absP_of (a s : Nat) : absP (absT a s) = (a, s) := by
 unfold absP
 rw [(absT_parts a s).1, (absT_parts a s).2, ← padN_eq, (padN_val a s).1, lowD_len]
def decP1 (l : List UInt8) : Int × Int := match l with
 | [] => (0, 0)
 | c :: t => if c = 45 then (-((absP t).1 : Int), ((absP t).2 : Int)) else (((absP (c :: t)).1 : Int), ((absP (c :: t)).2 : Int))
theorem decP1_of {n s : Int} (h : 0 ≤ s) : decP1 (decT n s) = (n, s) := by
 rw [decT_abs h]
 by_cases hn : n < 0
 ·rw [if_pos hn]
  simp only [List.singleton_append, decP1, if_true, absP_of]
  ext <;> simp <;> omega
 ·rw [if_neg hn, List.nil_append]
  obtain ⟨c, t, hc, hd⟩ := absT_head n.natAbs s.toNat
  have hc45 : ¬ c = 45 := by rintro rfl; simp [isDig] at hd
  rw [hc]
  simp only [decP1, if_neg hc45]
  rw [← hc, absP_of]
  ext <;> simp <;> omega
end Go.Proofs.YtdejnaokkdndeaaGreatDoor
namespace Go.Proofs.YtdejnaokkdndeaaGreatDoor
open Go.RowKit Go.V
open Go.Eng (inR byteAt u8 bytesV)
variable {g : Gv}
theorem S_dat (l : List UInt8) : (S l).data.toList = l := by simp [S]
theorem drewN_bel (w : World) (n : Nat) : Below w.heap.size w (w.drewN n) := ⟨rfl, rfl, rfl, Nat.le_refl _, fun _ _ => rfl⟩
theorem cutPrefix_ok (s p : List UInt8) : SpG g 246 [.c (.d (.s (S s))), .c (.d (.s (S p)))] [] (.tup [(false, [.d (.s (S (Lib.trimPrefix s p)))]), (false, [.d (.b (Lib.hasPrefix s p))])]) [] := by
 refine of_exact (args := [.string (S s), .string (S p)]) rfl rfl rfl fun w => ?_
 have := Tryz.strings_CutPrefix (S s) (S p) w
 rw [S_dat, S_dat] at this
 exact this.mono fun _ _ ⟨a, b⟩ => ⟨a, b.symm⟩
theorem cut_ok' (s p : List UInt8) (hs : s.length < 4294967281) : SpG g 101 [.c (.d (.s (S s))), .c (.d (.s (S p)))] [] (.tup [(false, [.d (.s (S (Lib.cut s p).1))]), (false, [.d (.s (S (Lib.cut s p).2.1))]), (false, [.d (.b (Lib.cut s p).2.2)])]) [] := by
 refine spec_of (args := [.string (S s), .string (S p)]) rfl rfl rfl fun w hG => ?_
 obtain ⟨ty, fz, h0⟩ := hG 1 [.int .i64 g.maxLen] (by simp [Gl])
 have := Tryz.strings_Cut (S s) (S p) g.maxLen w (by rw [S_size]; omega) (by rw [Lib.cell_of_heap h0]; rfl)
 rw [S_dat, S_dat] at this
 exact this.mono fun _ _ ⟨x, n, y⟩ => ⟨x, by rw [y]; exact drewN_bel _ _⟩
def decRk (w : List UInt8) : Bool := decB (decP1 w).1 (decP1 w).2 && decide (decT (decP1 w).1 (decP1 w).2 = w)
def decRn (w : List UInt8) : Int := if decRk w then (decP1 w).1 else 0
def decRs (w : List UInt8) : Int := if decRk w then (decP1 w).2 else 0
theorem decR_yes {n s : Int} {w : List UInt8} (h : decB n s = true) (e : decT n s = w) : decRk w = true ∧ decRn w = n ∧ decRs w = s := by
 have h1 := decP1_of (n := n) (s := s) (decB_bd h).1
 rw [e] at h1
 have hk : decRk w = true := by rw [decRk, h1]; simp [h, e]
 exact ⟨hk, by rw [decRn, if_pos hk, h1], by rw [decRs, if_pos hk, h1]⟩
theorem decR_no {w : List UInt8} (h : ∀ n s, decB n s = true → decT n s = w → False) : decRk w = false ∧ decRn w = 0 ∧ decRs w = 0 := by
 have hk : decRk w = false := by
  cases hb : decRk w with
  | false => rfl
  | true =>
   simp only [decRk, Bool.and_eq_true, decide_eq_true_eq] at hb
   exact (h _ _ hb.1 hb.2).elim
 exact ⟨hk, by rw [decRn, hk]; rfl, by rw [decRs, hk]; rfl⟩
theorem dig_ne {c : UInt8} (h : isDig c = true) : ¬ c = 45 ∧ ¬ c = 46 := by
 refine ⟨?_, ?_⟩ <;> rintro rfl <;> simp [isDig] at h
theorem absT_app (a s : Nat) : absT a s = natT (a / 10 ^ s) ++ (if s = 0 then [] else 46 :: lowD s a) := rfl
theorem prefix_neg {n s : Int} (h : 0 ≤ s) : Lib.hasPrefix (decT n s) [45] = decide (n < 0) ∧ Lib.trimPrefix (decT n s) [45] = absT n.natAbs s.toNat := by
 rw [decT_abs h]
 by_cases hn : n < 0
 ·have e : Lib.hasPrefix ((if n < 0 then [45] else []) ++ absT n.natAbs s.toNat) [45] = true := by
   rw [if_pos hn]; simp [Lib.hasPrefix]
  rw [Lib.trimPrefix, e, if_pos rfl, if_pos hn]
  simp [hn]
 ·obtain ⟨c, t, hc, hd⟩ := absT_head n.natAbs s.toNat
  have e : Lib.hasPrefix ((if n < 0 then [45] else []) ++ absT n.natAbs s.toNat) [45] = false := by
   rw [if_neg hn, hc]
   simp only [Lib.hasPrefix, List.nil_append, List.isPrefixOf, Bool.and_true]
   have := (dig_ne hd).1
   simpa using fun h => this h.symm
  rw [Lib.trimPrefix, e, if_neg hn]
  simp [hn]
theorem index_skip {l r : List UInt8} {c : UInt8} (h : ∀ x, x ∈ l → ¬ x = c) : Lib.index (l ++ c :: r) [c] = (l.length : Int) := by
 induction l with
 | nil => simp [Lib.index, List.isPrefixOf]
 | cons x l ih =>
  have h1 := ih (fun y hy => h y (by simp [hy]))
  have h2 : ¬ c = x := fun e => h x (by simp) e.symm
  have h3 : (c == x) = false := by simpa using h2
  simp only [List.cons_append, Lib.index, List.isPrefixOf, h3, Bool.false_and, h1]
  have h4 : ((l.length : Int) == -1) = false := by rw [beq_eq_false_iff_ne]; omega
  simp [h4]
theorem index_none {l : List UInt8} {c : UInt8} (h : ∀ x, x ∈ l → ¬ x = c) : Lib.index l [c] = -1 := by
 induction l with
 | nil => rfl
 | cons x l ih =>
  have h1 := ih (fun y hy => h y (by simp [hy]))
  have h2 : ¬ c = x := fun e => h x (by simp) e.symm
  have h3 : (c == x) = false := by simpa using h2
  simp only [Lib.index, List.isPrefixOf, h3, Bool.false_and, h1]
  rfl
theorem natT_no (q : Nat) (c : UInt8) (hc : c = 45 ∨ c = 46) : ∀ x, x ∈ natT q → ¬ x = c := by
 intro x hx e
 have := dig_ne (List.all_eq_true.1 (natT_val q).2 x hx)
 rcases hc with rfl | rfl
 ·exact this.1 e
 ·exact this.2 e
theorem cut_abs (a s : Nat) : (Lib.cut (absT a s) [46]).1 = natT (a / 10 ^ s) ∧ (Lib.cut (absT a s) [46]).2.1 = lowD s a := by
 rw [absT_app]
 by_cases h : s = 0
 ·rw [if_pos h, List.append_nil, Lib.cut, index_none (natT_no _ 46 (.inr rfl)), if_neg (by decide)]
  subst h; exact ⟨rfl, rfl⟩
 ·rw [if_neg h, Lib.cut, index_skip (natT_no _ 46 (.inr rfl)), if_pos (by omega)]
  simp
theorem decT_len18 {n s : Int} (h : decB n s = true) : (decT n s).length ≤ 18 := by
 obtain ⟨h0, h1, h2, h3, _⟩ := decB_bd h
 rw [decT_abs h0, absT_app]
 have hs : s.toNat ≤ 6 := by omega
 have hl : (natT (n.natAbs / 10 ^ s.toNat)).length ≤ 16 - s.toNat := by
  apply natT_len
  ·apply Nat.div_lt_of_lt_mul
   rw [← Nat.pow_add, show s.toNat + (16 - s.toNat) = 16 by omega]; omega
  ·omega
 have h5 : (if n < 0 then ([45] : List UInt8) else []).length ≤ 1 := by split <;> simp
 rw [List.length_append, List.length_append]
 by_cases h4 : s.toNat = 0
 ·rw [if_pos h4]; simp only [List.length_nil]; omega
 ·rw [if_neg h4, List.length_cons, lowD_len]; omega
theorem fit_self {n s : Int} (h : decB n s = true) : fitN (decide (n < 0)) n.natAbs s = n ∧ fitS n.natAbs s = s ∧ fitB n.natAbs s = true := by
 obtain ⟨h0, h1, h2, h3, h4⟩ := decB_bd h
 have ht : s = 0 ∨ ¬ n % 10 = 0 := h4.imp id fun hh hm => hh (by rw [← Int.dvd_iff_tmod_eq_zero]; exact Int.dvd_of_emod_eq_zero hm)
 have hL : fitL n.natAbs s.toNat = (n.natAbs, s.toNat) := fitL_stop h0 (by omega)
 have hB : fitB n.natAbs s = true := by unfold fitB; rw [hL]; simp; omega
 refine ⟨?_, ?_, hB⟩
 ·rw [fitN, hB, if_pos rfl, hL]
  by_cases hn : n < 0
  ·simp only [hn, decide_true, if_true]; omega
  ·simp only [hn, decide_false, Bool.false_eq_true, if_false]; omega
 ·rw [fitS, hB, if_pos rfl, hL]; simp only; omega
theorem dval_take {l : List UInt8} {k : Nat} (h : k < l.length) : dval (l.take (k + 1)) = 10 * dval (l.take k) + ((l.getD k 0).toNat - 48) := by
 have e : l.take (k + 1) = l.take k ++ [l.getD k 0] := by
  rw [List.take_add_one, List.getD_eq_getElem?_getD, List.getElem?_eq_getElem h]; rfl
 rw [e, dval_snoc]
theorem dval_lt {l : List UInt8} (h : l.all isDig = true) : dval l < 10 ^ l.length := by
 induction l using rev_ind with
 | h0 => simp [dval]
 | h1 l x ih =>
  rw [List.all_append, Bool.and_eq_true] at h
  have h1 := ih h.1
  have h2 := h.2
  simp only [List.all_cons, List.all_nil, isDig, Bool.and_true, Bool.and_eq_true, decide_eq_true_eq] at h2
  rw [dval_snoc, List.length_append, Nat.pow_add]; simp; omega
theorem all_take {l : List UInt8} {k : Nat} (h : k < l.length) (h1 : (l.take k).all isDig = true) (h2 : isDig (l.getD k 0) = true) : (l.take (k + 1)).all isDig = true := by
 have e : l.take (k + 1) = l.take k ++ [l.getD k 0] := by
  rw [List.take_add_one, List.getD_eq_getElem?_getD, List.getElem?_eq_getElem h]; rfl
 rw [e, List.all_append, h1]; simp only [List.all_cons, List.all_nil, h2]; rfl
theorem isDig_at {l : List UInt8} {k : Nat} (h1 : ¬ byteAt (S l) (k : Int) < 48) (h2 : ¬ byteAt (S l) (k : Int) > 57) : isDig (l.getD k 0) = true ∧ IntKind.wrap .i64 (IntKind.wrap .u8 (byteAt (S l) (k : Int) - 48)) = (((l.getD k 0).toNat - 48 : Nat) : Int) := by
 have e := byteAt_S l (k : Int)
 rw [Int.toNat_natCast] at e
 rw [e] at h1 h2 ⊢
 have hw : IntKind.wrap .u8 (((l.getD k 0).toNat : Int) - 48) = ((l.getD k 0).toNat : Int) - 48 := by
  have := Eng.wrap_u8 (((l.getD k 0).toNat : Int) - 48)
  rw [this, u8_toNat]; omega
 rw [hw, wrap64 (by unfold inR; omega)]
 refine ⟨?_, by omega⟩
 simp only [isDig, Bool.and_eq_true, decide_eq_true_eq]; omega
def ppB (w : List UInt8) : List UInt8 := (Lib.cut (Lib.trimPrefix w [45]) [46]).1 ++ (Lib.cut (Lib.trimPrefix w [45]) [46]).2.1
def ppA (w : List UInt8) : List UInt8 := (Lib.cut (Lib.trimPrefix w [45]) [46]).2.1
def ppN (w : List UInt8) : Int := if Lib.hasPrefix w [45] then -(dval (ppB w) : Int) else (dval (ppB w) : Int)
theorem pp_of {n s : Int} (h : decB n s = true) : ppB (decT n s) = padN n.natAbs s.toNat ∧ (ppA (decT n s)).length = s.toNat ∧ ppN (decT n s) = n := by
 have h0 := (decB_bd h).1
 obtain ⟨p1, p2⟩ := prefix_neg (n := n) h0
 obtain ⟨c1, c2⟩ := cut_abs n.natAbs s.toNat
 have e1 : ppB (decT n s) = padN n.natAbs s.toNat := by rw [ppB, p2, c1, c2, padN_eq]
 refine ⟨e1, by rw [ppA, p2, c2, lowD_len], ?_⟩
 rw [ppN, p1, e1, (padN_val _ _).1]
 by_cases hn : n < 0
 ·simp only [hn, decide_true, if_true]; omega
 ·simp only [hn, decide_false, Bool.false_eq_true, if_false]; omega
theorem cut_size (l : List UInt8) (c : UInt8) : (Lib.cut l [c]).1.length + (Lib.cut l [c]).2.1.length ≤ l.length := by
 unfold Lib.cut
 split
 ·simp only [List.length_take, List.length_drop]; omega
 ·simp
theorem trim_size (l p : List UInt8) : (Lib.trimPrefix l p).length ≤ l.length := by
 unfold Lib.trimPrefix; split
 ·simp
 ·exact Nat.le_refl _
theorem tdiv10 (a : Int) : Int.tmod a 10 = 0 ↔ a.natAbs % 10 = 0 := by
 rw [← Int.dvd_iff_tmod_eq_zero]
 constructor
 ·intro h; omega
 ·intro h; omega
theorem decMake_ok (n s : Int) (h0 : -72000000000000000000 ≤ n) (h0b : inR n) (h2 : 0 ≤ s) (h3 : s ≤ 18) :
  SpG g 247 [.c (.d (.i n)), .c (.d (.i s))] [] (.tup [(true, [.d (.i (fitN (decide (n < 0)) n.natAbs s)), .d (.i (fitS n.natAbs s))]), (false, [.d (.b (fitB n.natAbs s))])]) [] := by
 unfold inR at h0b
 refine enterB 35 Tryz.func247 (by kernel_rfl) fun fr hG => ?_
 refine zC hG [] [1, 0, 1] ((decide ((s : Int) < 0)) || (decide ((s : Int) > 18))) (⟨[(0, [], .c (.d (.i n))), (1, [], .c (.d (.i s))), (4, [], .c (.bx 100 0)), (5, [], .c (.d (.b false)))], [(100, .box 38 [.d (.i 0), .d (.i 0)])]⟩) (by kernel_rfl) conj0 (fun hc1 => ?_) (fun hc1 => ?_)
 ·(try simp only [blS] at hc1)
  exfalso; omega
 ·(try simp only [blS] at hc1)
  refine zL hG [] [0, 0, 1, 1] (fun (zz : Int × Int) => match zz with | (a, t) => (t.toNat, ⟨[(0, [], .c (.d (.i a))), (1, [], .c (.d (.i t))), (4, [], .c (.bx 100 0)), (5, [], .c (.d (.b false)))], [(100, .box 38 [.d (.i 0), .d (.i 0)])]⟩, a.natAbs ≤ n.natAbs ∧ (a < 0 ↔ n < 0 ∧ a ≠ 0) ∧ 0 ≤ t ∧ t ≤ s ∧ fitL a.natAbs t.toNat = fitL n.natAbs s.toNat ∧ (n < 0 → a ≤ 0))) (n, s) (by kernel_rfl) conj0 (by kernel_rfl) ?_ ?_
  ·exact ⟨Nat.le_refl _, by omega, h2, Int.le_refl _, rfl, by omega⟩
  rintro ⟨a, t⟩ ⟨ha, hsg, ht0, ht1, hf, hng⟩
  have htm := tdiv10 a
  have hta : (Int.tdiv a 10).natAbs = a.natAbs / 10 := Int.natAbs_tdiv a 10
  refine zc hG [] [1, 0] ((decide ((t : Int) > 0)) && (decide ((Int.tmod a 10 : Int) = 0))) (by kernel_rfl) (conj1 (show (decide ((t : Int) > 0)) = true → 10 ≠ (0 : Int) from (by intros; first | omega | decide | (unfold inR; omega)))) (fun hc3 => ?_) (fun hc3 => ?_)
  ·(try simp only [blS] at hc3)
   refine zD hG [] (Int.tdiv a 10, t - 1) (by kernel_rfl) (conjC (show 10 ≠ (0 : Int) ∧ inR (Int.tdiv a 10) from (by intros; first | omega | decide | (unfold inR; omega))) (conj1 (show inR (t - 1) from (by intros; first | omega | decide | (unfold inR; omega))))) ?_ ?_
   ·(try dsimp only); omega
   ·have hz := htm.1 hc3.2
    have hsn : (Int.tdiv a 10 < 0 ↔ a < 0 ∧ Int.tdiv a 10 ≠ 0) ∧ (a ≤ 0 → Int.tdiv a 10 ≤ 0) := by
     rcases Int.lt_or_le a 0 with h | h
     ·have := Int.tdiv_nonneg (a := -a) (b := 10) (by omega) (by decide)
      rw [Int.neg_tdiv] at this; omega
     ·have := Int.tdiv_nonneg (a := a) (b := 10) h (by decide)
      rw [Int.tdiv_eq_ediv_of_nonneg h] at *; omega
    refine ⟨by omega, by omega, by omega, by omega, ?_, by omega⟩
    rw [hta, ← hf, fitL_step (by omega) hz]
  ·(try simp only [blS] at hc3)
   refine zE hG [] (.exit 0) (⟨[(0, [], .c (.d (.i a))), (1, [], .c (.d (.i t))), (4, [], .c (.bx 100 0)), (5, [], .c (.d (.b false)))], [(100, .box 38 [.d (.i 0), .d (.i 0)])]⟩) (by kernel_rfl) conj0 rfl ?_
   refine zc hG [(6, 4, .call (.c (.d (.b (decide ((-1000000000000000 : Int) ≤ a) && decide (a ≤ (1000000000000000 : Int)))))) [] [])] [1, 0, 1, 1, 1] ((decide ((t : Int) > 6)) || (!(decide ((-1000000000000000 : Int) ≤ a) && decide (a ≤ (1000000000000000 : Int))))) (by kernel_rfl) (conj1 (fun (hg1 : (decide ((t : Int) > 6)) = false) => ((within_any a : SpG g _ _ _ _ _)))) (fun hc4 => ?_) (fun hc4 => ?_)
   ·(try simp only [blS] at hc4)
    refine zR hG [] [] (.tup [(true, [.d (.i 0), .d (.i 0)]), (false, [.d (.b false)])]) [] (by kernel_rfl) conj0 ?_ ?_
    ·have hL : fitL a.natAbs t.toNat = (a.natAbs, t.toNat) := fitL_stop ht0 (by omega)
     rw [hf] at hL
     have hb : fitB n.natAbs s = false := by unfold fitB; rw [hL]; simp; omega
     rw [fitN, fitS, hb]; rfl
    ·rfl
   ·(try simp only [blS] at hc4)
    refine zR hG [] [] (.tup [(true, [.d (.i a), .d (.i t)]), (false, [.d (.b true)])]) [] (by kernel_rfl) conj0 ?_ ?_
    ·have hL : fitL a.natAbs t.toNat = (a.natAbs, t.toNat) := fitL_stop ht0 (by omega)
     rw [hf] at hL
     have hb : fitB n.natAbs s = true := by unfold fitB; rw [hL]; simp; omega
     have e1 : fitN (decide (n < 0)) n.natAbs s = a := by
      rw [fitN, hb, if_pos rfl, hL]
      by_cases hn : n < 0
      ·simp only [hn, decide_true, if_true]; omega
      ·simp only [hn, decide_false, Bool.false_eq_true, if_false]; omega
     have e2 : fitS n.natAbs s = t := by rw [fitS, hb, if_pos rfl, hL]; simp only; omega
     rw [e1, e2, hb]
    ·rfl
theorem all_get {l : List UInt8} {k : Nat} (h : l.all isDig = true) (hk : k < l.length) : 48 ≤ byteAt (S l) (k : Int) ∧ byteAt (S l) (k : Int) ≤ 57 := by
 have e := byteAt_S l (k : Int)
 rw [Int.toNat_natCast, List.getD_eq_getElem?_getD, List.getElem?_eq_getElem hk] at e
 have := List.all_eq_true.1 h _ (List.getElem_mem hk)
 rw [e]; simp only [Option.getD_some]
 simp only [isDig, Bool.and_eq_true, decide_eq_true_eq] at this; omega
theorem make_self {n s : Int} {w : List UInt8} (hb : decB n s = true) (he : decT n s = w) : fitB (ppN w).natAbs ((ppA w).length : Int) = true ∧ decT (fitN (decide (ppN w < 0)) (ppN w).natAbs ((ppA w).length : Int)) (fitS (ppN w).natAbs ((ppA w).length : Int)) = w := by
 obtain ⟨p1, p2, p3⟩ := pp_of hb
 rw [he] at p1 p2 p3
 have h0 := (decB_bd hb).1
 obtain ⟨f1, f2, f3⟩ := fit_self hb
 rw [p3, p2, Int.toNat_of_nonneg h0, f1, f2]
 exact ⟨f3, he⟩
def zq17 := And.intro @S_eqf (And.intro @S_eqv (And.intro @S_size (@blS)))
theorem decParse_ok (w : List UInt8) (hw : w.length < 4294967281) :
  SpG g 189 [.c (.d (.s (S w)))] [] (.tup [(true, [.d (.i (decRn w)), .d (.i (decRs w))]), (false, [.d (.b (decRk w))])]) [] := by
 have hcz := cut_size (Lib.trimPrefix w [45]) 46
 have htz := trim_size w [45]
 have hpl : (ppB w).length = (Lib.cut (Lib.trimPrefix w [45]) [46]).1.length + (Lib.cut (Lib.trimPrefix w [45]) [46]).2.1.length := by rw [ppB, List.length_append]
 have hpa : (ppA w).length = (Lib.cut (Lib.trimPrefix w [45]) [46]).2.1.length := rfl
 refine enterB 76 Tryz.func189 (by kernel_rfl) fun fr hG => ?_
 refine zC hG [] [1, 0, 1] (decide ((((S w).size : Int) : Int) > 18)) (⟨[(0, [], .c (.d (.s (S w)))), (2, [], .c (.bx 100 0)), (3, [], .c (.d (.b false)))], [(100, .box 38 [.d (.i 0), .d (.i 0)])]⟩) (by kernel_rfl) conj0 (fun hc1 => ?_) (fun hc1 => ?_)
 ·(try simp only [zq17, ByteArray.size_append] at hc1)
  refine zR hG [] [] (.tup [(true, [.d (.i 0), .d (.i 0)]), (false, [.d (.b false)])]) [] (by kernel_rfl) conj0 ?_ ?_
  ·have hno : ∀ n s, decB n s = true → decT n s = w → False := by
    intro n s hb he
    have := decT_len18 hb; rw [he] at this; omega
   obtain ⟨r1, r2, r3⟩ := decR_no hno
   rw [r1, r2, r3]
  ·rfl
 ·(try simp only [zq17, ByteArray.size_append] at hc1)
  refine zL hG [(3, 1, .call (.tup [(false, [.d (.s (S (Lib.trimPrefix (w) [45])))]), (false, [.d (.b (Lib.hasPrefix (w) [45]))])]) [] []), (4, 1, .call (.tup [(false, [.d (.s (S (Lib.cut (Lib.trimPrefix (w) [45]) [46]).1))]), (false, [.d (.s (S (Lib.cut (Lib.trimPrefix (w) [45]) [46]).2.1))]), (false, [.d (.b ((Lib.cut (Lib.trimPrefix (w) [45]) [46]).2.2))])]) [] [])] [0, 1, 0, 1, 1, 1, 1, 1, 1] (fun (zz : Nat × Int × ByteArray) => match zz with | (k, v, bs) => ((ppB w).length - k, ⟨[(0, [], .c (.d (.s (S w)))), (2, [], .c (.bx 100 0)), (3, [], .c (.d (.b false))), (4, [], .c (.d (.s bs))), (5, [], .c (.d (.b (Lib.hasPrefix (w) [45])))), (7, [], .c (.d (.s (S (Lib.cut (Lib.trimPrefix (w) [45]) [46]).2.1)))), (9, [], .c (.d (.i v))), (32, [], .c (.d (.i (((S (Lib.cut (Lib.trimPrefix (w) [45]) [46]).1) ++ (S (Lib.cut (Lib.trimPrefix (w) [45]) [46]).2.1)).size : Int)))), (33, [], .c (.d (.i (k : Int))))], [(100, .box 38 [.d (.i 0), .d (.i 0)])]⟩, bs = S (ppB w) ∧ k ≤ (ppB w).length ∧ ((ppB w).take k).all isDig = true ∧ v = (dval ((ppB w).take k) : Int))) (0, 0, (S (Lib.cut (Lib.trimPrefix (w) [45]) [46]).1) ++ (S (Lib.cut (Lib.trimPrefix (w) [45]) [46]).2.1)) (by kernel_rfl) (conjC ((cutPrefix_ok (w) [45] : SpG g _ _ _ _ _)) (conjC ((cut_ok' (Lib.trimPrefix (w) [45]) [46] (by omega) : SpG g _ _ _ _ _)) (conj1 (show (S (Lib.cut (Lib.trimPrefix (w) [45]) [46]).1).size + (S (Lib.cut (Lib.trimPrefix (w) [45]) [46]).2.1).size ≤ maxLen from (by intros; (try simp only [S_size, ByteArray.size_append, maxLen] at *); first | omega | decide | (unfold inR; omega)))))) (by kernel_rfl) ?_ ?_
  ·exact ⟨by rw [S_app]; rfl, Nat.zero_le _, rfl, rfl⟩
  rintro ⟨k, v, bs⟩ ⟨hbs, hk, hd, hv⟩
  have hbz : bs.size = (ppB w).length := by rw [hbs, S_size]
  have hdl := dval_lt hd
  rw [List.length_take, Nat.min_eq_left hk] at hdl
  have hp : 10 ^ k ≤ 10 ^ 18 := Nat.pow_le_pow_right (by decide) (by omega)
  have hp2 : k < (ppB w).length → 10 ^ k ≤ 10 ^ 17 := fun h => Nat.pow_le_pow_right (by decide) (by omega)
  have hcs : ¬ byteAt bs (k : Int) < 48 → ¬ byteAt bs (k : Int) > 57 → isDig ((ppB w).getD k 0) = true ∧ IntKind.wrap .i64 (IntKind.wrap .u8 (byteAt bs (k : Int) - 48)) = ((((ppB w).getD k 0).toNat - 48 : Nat) : Int) := by rw [hbs]; exact fun a b => isDig_at a b
  have hcl : ∀ b : UInt8, isDig b = true → 0 ≤ (b.toNat : Int) - 48 ∧ b.toNat - 48 ≤ 9 := by intro b hb; simp only [isDig, Bool.and_eq_true, decide_eq_true_eq] at hb; omega
  refine zc hG [] [0, 1] (decide (((k : Int) : Int) < (((S (Lib.cut (Lib.trimPrefix (w) [45]) [46]).1) ++ (S (Lib.cut (Lib.trimPrefix (w) [45]) [46]).2.1)).size : Int))) (by kernel_rfl) conj0 (fun hc3 => ?_) (fun hc3 => ?_)
  ·(try simp only [zq17, ByteArray.size_append] at hc3)
   refine zC hG [] [1, 0, 1, 0, 0, 1, 1] ((decide ((byteAt (bs) (k : Int) : Int) < 48)) || (decide ((byteAt (bs) (k : Int) : Int) > 57))) (⟨[(0, [], .c (.d (.s (S w)))), (2, [], .c (.bx 100 0)), (3, [], .c (.d (.b false))), (4, [], .c (.d (.s bs))), (5, [], .c (.d (.b (Lib.hasPrefix (w) [45])))), (7, [], .c (.d (.s (S (Lib.cut (Lib.trimPrefix (w) [45]) [46]).2.1)))), (9, [], .c (.d (.i v))), (10, [], .c (.d (.i (k : Int)))), (32, [], .c (.d (.i (((S (Lib.cut (Lib.trimPrefix (w) [45]) [46]).1) ++ (S (Lib.cut (Lib.trimPrefix (w) [45]) [46]).2.1)).size : Int)))), (33, [], .c (.d (.i (k : Int))))], [(100, .box 38 [.d (.i 0), .d (.i 0)])]⟩) (by kernel_rfl) (conjC (show (0 : Int) ≤ (k : Int) ∧ (k : Int) < ((bs).size : Int) from (by intros; (try simp only [S_size, ByteArray.size_append, maxLen] at *); first | omega | decide | (unfold inR; omega))) (conj1 (show (decide ((byteAt (bs) (k : Int) : Int) < 48)) = false → (0 : Int) ≤ (k : Int) ∧ (k : Int) < ((bs).size : Int) from (by intros; (try simp only [S_size, ByteArray.size_append, maxLen] at *); first | omega | decide | (unfold inR; omega))))) (fun hc4 => ?_) (fun hc4 => ?_)
   ·(try simp only [zq17, ByteArray.size_append] at hc4)
    refine zE hG [] .ret (⟨[(0, [], .c (.d (.s (S w)))), (2, [], .c (.bx 100 0)), (3, [], .c (.d (.b false))), (5, [], .c (.d (.b (Lib.hasPrefix (w) [45])))), (7, [], .c (.d (.s (S (Lib.cut (Lib.trimPrefix (w) [45]) [46]).2.1)))), (9, [], .c (.d (.i v)))], [(100, .box 38 [.d (.i 0), .d (.i 0)])]⟩) (by kernel_rfl) conj0 rfl ?_
    refine zR hG [] [] (.tup [(true, [.d (.i 0), .d (.i 0)]), (false, [.d (.b false)])]) [] (by kernel_rfl) conj0 ?_ ?_
    ·have hno : ∀ n s, decB n s = true → decT n s = w → False := by
      intro n s hb he
      have hal := (padN_val n.natAbs s.toNat).2
      rw [← (pp_of hb).1, he] at hal
      have hag := all_get (k := k) hal (by omega)
      rw [← hbs] at hag; omega
     obtain ⟨r1, r2, r3⟩ := decR_no hno
     rw [r1, r2, r3]
    ·rfl
   ·(try simp only [zq17, ByteArray.size_append] at hc4)
    obtain ⟨q1, q2⟩ := hcs (by omega) (by omega)
    have q3 := hcl _ q1
    have hp4 := hp2 (by omega)
    refine zD hG [] (k + 1, v * 10 + IntKind.wrap .i64 (IntKind.wrap .u8 (byteAt bs (k : Int) - 48)), bs) (by kernel_rfl) (conjC (show inR (v * 10) from (by intros; (try simp only [S_size, ByteArray.size_append, maxLen] at *); first | omega | decide | (unfold inR; omega))) (conjC (show (0 : Int) ≤ (k : Int) ∧ (k : Int) < ((bs).size : Int) from (by intros; (try simp only [S_size, ByteArray.size_append, maxLen] at *); first | omega | decide | (unfold inR; omega))) (conjC (show inR ((v * 10) + (IntKind.wrap .i64 (IntKind.wrap .u8 ((byteAt (bs) (k : Int)) - 48)))) from (by intros; (try simp only [S_size, ByteArray.size_append, maxLen] at *); first | omega | decide | (unfold inR; omega))) (conj1 (show inR ((k : Int) + 1) from (by intros; (try simp only [S_size, ByteArray.size_append, maxLen] at *); first | omega | decide | (unfold inR; omega))))))) ?_ ?_
    ·(try dsimp only); omega
    ·refine ⟨hbs, by omega, all_take (by omega) hd q1, ?_⟩
     rw [q2, dval_take (by omega), hv]; push_cast; omega
  ·(try simp only [zq17, ByteArray.size_append] at hc3)
   have hvv : v = (dval (ppB w) : Int) := by rw [hv, List.take_of_length_le (by omega)]
   have hkl : k = (ppB w).length := by omega
   have hp3 : (10 : Nat) ^ k ≤ 10 ^ 18 := hp
   have hbsz : (S (Lib.cut (Lib.trimPrefix w [45]) [46]).2.1).size = (ppA w).length := by rw [S_size]; rfl
   refine zE hG [] (.exit 0) (⟨[(0, [], .c (.d (.s (S w)))), (2, [], .c (.bx 100 0)), (3, [], .c (.d (.b false))), (5, [], .c (.d (.b (Lib.hasPrefix (w) [45])))), (7, [], .c (.d (.s (S (Lib.cut (Lib.trimPrefix (w) [45]) [46]).2.1)))), (9, [], .c (.d (.i v)))], [(100, .box 38 [.d (.i 0), .d (.i 0)])]⟩) (by kernel_rfl) conj0 rfl ?_
   refine zC hG [] [1, 0, 1, 1, 1, 1, 1, 1, 1] (Lib.hasPrefix (w) [45]) (⟨[(0, [], .c (.d (.s (S w)))), (2, [], .c (.bx 100 0)), (3, [], .c (.d (.b false))), (7, [], .c (.d (.s (S (Lib.cut (Lib.trimPrefix (w) [45]) [46]).2.1)))), (9, [], .c (.d (.i v)))], [(100, .box 38 [.d (.i 0), .d (.i 0)])]⟩) (by kernel_rfl) conj0 (fun hc5 => ?_) (fun hc5 => ?_)
   ·(try simp only [zq17, ByteArray.size_append] at hc5)
    have hpn : IntKind.wrap .i64 (0 - v) = ppN w := by
     rw [wrap64 (by unfold inR; omega), ppN, if_pos hc5]; omega
    have hpb : -1000000000000000000 ≤ ppN w ∧ ppN w ≤ 1000000000000000000 := by
     rw [← hpn, wrap64 (by unfold inR; omega)]; omega
    refine zC hG [(16, 3, .call (.tup [(true, [.d (.i (fitN (decide ((IntKind.wrap .i64 (0 - v)) < 0)) ((IntKind.wrap .i64 (0 - v))).natAbs ((S (Lib.cut (Lib.trimPrefix (w) [45]) [46]).2.1).size : Int))), .d (.i (fitS ((IntKind.wrap .i64 (0 - v))).natAbs ((S (Lib.cut (Lib.trimPrefix (w) [45]) [46]).2.1).size : Int)))]), (false, [.d (.b (fitB ((IntKind.wrap .i64 (0 - v))).natAbs ((S (Lib.cut (Lib.trimPrefix (w) [45]) [46]).2.1).size : Int)))])]) [] []), (17, 4, .call (.c (.d (.s (S (decT (fitN (decide ((IntKind.wrap .i64 (0 - v)) < 0)) ((IntKind.wrap .i64 (0 - v))).natAbs ((S (Lib.cut (Lib.trimPrefix (w) [45]) [46]).2.1).size : Int)) (fitS ((IntKind.wrap .i64 (0 - v))).natAbs ((S (Lib.cut (Lib.trimPrefix (w) [45]) [46]).2.1).size : Int))))))) [] [])] [1, 0, 1, 1, 1, 1, 1, 1, 1, 1, 1] ((!(fitB ((IntKind.wrap .i64 (0 - v))).natAbs ((S (Lib.cut (Lib.trimPrefix (w) [45]) [46]).2.1).size : Int))) || (!((S (decT (fitN (decide ((IntKind.wrap .i64 (0 - v)) < 0)) ((IntKind.wrap .i64 (0 - v))).natAbs ((S (Lib.cut (Lib.trimPrefix (w) [45]) [46]).2.1).size : Int)) (fitS ((IntKind.wrap .i64 (0 - v))).natAbs ((S (Lib.cut (Lib.trimPrefix (w) [45]) [46]).2.1).size : Int)))).toList == (S w).toList))) (⟨[(2, [], .c (.bx 100 0)), (3, [], .c (.d (.b false))), (11, [], .c (.bx 1707 0))], [(100, .box 38 [.d (.i 0), .d (.i 0)]), (1707, .box 38 [.d (.i (fitN (decide ((IntKind.wrap .i64 (0 - v)) < 0)) ((IntKind.wrap .i64 (0 - v))).natAbs ((S (Lib.cut (Lib.trimPrefix (w) [45]) [46]).2.1).size : Int))), .d (.i (fitS ((IntKind.wrap .i64 (0 - v))).natAbs ((S (Lib.cut (Lib.trimPrefix (w) [45]) [46]).2.1).size : Int)))])]⟩) (by kernel_rfl) (conjC ((decMake_ok (IntKind.wrap .i64 (0 - v)) ((S (Lib.cut (Lib.trimPrefix (w) [45]) [46]).2.1).size : Int) (by omega) (by unfold inR; omega) (by omega) (by omega) : SpG g _ _ _ _ _)) (conj1 (fun (hg1 : (!(fitB ((IntKind.wrap .i64 (0 - v))).natAbs ((S (Lib.cut (Lib.trimPrefix (w) [45]) [46]).2.1).size : Int))) = false) => ((decText_ok (fitN (decide ((IntKind.wrap .i64 (0 - v)) < 0)) ((IntKind.wrap .i64 (0 - v))).natAbs ((S (Lib.cut (Lib.trimPrefix (w) [45]) [46]).2.1).size : Int)) (fitS ((IntKind.wrap .i64 (0 - v))).natAbs ((S (Lib.cut (Lib.trimPrefix (w) [45]) [46]).2.1).size : Int)) (fit_right _ _ _) : SpG g _ _ _ _ _))))) (fun hc6 => ?_) (fun hc6 => ?_)
    ·(try simp only [zq17, ByteArray.size_append] at hc6)
     refine zR hG [] [] (.tup [(true, [.d (.i 0), .d (.i 0)]), (false, [.d (.b false)])]) [] (by kernel_rfl) conj0 ?_ ?_
     ·have hno : ∀ n s, decB n s = true → decT n s = w → False := by
       intro n s hb he
       obtain ⟨m1, m2⟩ := make_self hb he
       rw [← hpn] at m1 m2
       rcases hc6 with h | h
       ·exact absurd (h.symm.trans m1) (by decide)
       ·exact h m2
      obtain ⟨r1, r2, r3⟩ := decR_no hno
      rw [r1, r2, r3]
     ·rfl
    ·(try simp only [zq17, ByteArray.size_append] at hc6)
     refine zR hG [] [] (.tup [(true, [.d (.i (fitN (decide ((IntKind.wrap .i64 (0 - v)) < 0)) ((IntKind.wrap .i64 (0 - v))).natAbs ((S (Lib.cut (Lib.trimPrefix (w) [45]) [46]).2.1).size : Int))), .d (.i (fitS ((IntKind.wrap .i64 (0 - v))).natAbs ((S (Lib.cut (Lib.trimPrefix (w) [45]) [46]).2.1).size : Int)))]), (false, [.d (.b true)])]) [] (by kernel_rfl) conj0 ?_ ?_
     ·obtain ⟨r1, r2, r3⟩ := decR_yes (fit_right _ _ _) (hc6.2)
      rw [r1, r2, r3]; simp only [S_size]
     ·rfl
   ·(try simp only [zq17, ByteArray.size_append] at hc5)
    have hpn : v = ppN w := by
     rw [ppN, if_neg (by rw [hc5]; decide)]; exact hvv
    have hpb : -1000000000000000000 ≤ ppN w ∧ ppN w ≤ 1000000000000000000 := by omega
    refine zC hG [(16, 3, .call (.tup [(true, [.d (.i (fitN (decide (v < 0)) (v).natAbs ((S (Lib.cut (Lib.trimPrefix (w) [45]) [46]).2.1).size : Int))), .d (.i (fitS (v).natAbs ((S (Lib.cut (Lib.trimPrefix (w) [45]) [46]).2.1).size : Int)))]), (false, [.d (.b (fitB (v).natAbs ((S (Lib.cut (Lib.trimPrefix (w) [45]) [46]).2.1).size : Int)))])]) [] []), (17, 4, .call (.c (.d (.s (S (decT (fitN (decide (v < 0)) (v).natAbs ((S (Lib.cut (Lib.trimPrefix (w) [45]) [46]).2.1).size : Int)) (fitS (v).natAbs ((S (Lib.cut (Lib.trimPrefix (w) [45]) [46]).2.1).size : Int))))))) [] [])] [1, 0, 1, 1, 1, 1, 1, 1, 1, 1, 1] ((!(fitB (v).natAbs ((S (Lib.cut (Lib.trimPrefix (w) [45]) [46]).2.1).size : Int))) || (!((S (decT (fitN (decide (v < 0)) (v).natAbs ((S (Lib.cut (Lib.trimPrefix (w) [45]) [46]).2.1).size : Int)) (fitS (v).natAbs ((S (Lib.cut (Lib.trimPrefix (w) [45]) [46]).2.1).size : Int)))).toList == (S w).toList))) (⟨[(2, [], .c (.bx 100 0)), (3, [], .c (.d (.b false))), (11, [], .c (.bx 1707 0))], [(100, .box 38 [.d (.i 0), .d (.i 0)]), (1707, .box 38 [.d (.i (fitN (decide (v < 0)) (v).natAbs ((S (Lib.cut (Lib.trimPrefix (w) [45]) [46]).2.1).size : Int))), .d (.i (fitS (v).natAbs ((S (Lib.cut (Lib.trimPrefix (w) [45]) [46]).2.1).size : Int)))])]⟩) (by kernel_rfl) (conjC ((decMake_ok v ((S (Lib.cut (Lib.trimPrefix (w) [45]) [46]).2.1).size : Int) (by omega) (by unfold inR; omega) (by omega) (by omega) : SpG g _ _ _ _ _)) (conj1 (fun (hg1 : (!(fitB (v).natAbs ((S (Lib.cut (Lib.trimPrefix (w) [45]) [46]).2.1).size : Int))) = false) => ((decText_ok (fitN (decide (v < 0)) (v).natAbs ((S (Lib.cut (Lib.trimPrefix (w) [45]) [46]).2.1).size : Int)) (fitS (v).natAbs ((S (Lib.cut (Lib.trimPrefix (w) [45]) [46]).2.1).size : Int)) (fit_right _ _ _) : SpG g _ _ _ _ _))))) (fun hc7 => ?_) (fun hc7 => ?_)
    ·(try simp only [zq17, ByteArray.size_append] at hc7)
     refine zR hG [] [] (.tup [(true, [.d (.i 0), .d (.i 0)]), (false, [.d (.b false)])]) [] (by kernel_rfl) conj0 ?_ ?_
     ·have hno : ∀ n s, decB n s = true → decT n s = w → False := by
       intro n s hb he
       obtain ⟨m1, m2⟩ := make_self hb he
       rw [← hpn] at m1 m2
       rcases hc7 with h | h
       ·exact absurd (h.symm.trans m1) (by decide)
       ·exact h m2
      obtain ⟨r1, r2, r3⟩ := decR_no hno
      rw [r1, r2, r3]
     ·rfl
    ·(try simp only [zq17, ByteArray.size_append] at hc7)
     refine zR hG [] [] (.tup [(true, [.d (.i (fitN (decide (v < 0)) (v).natAbs ((S (Lib.cut (Lib.trimPrefix (w) [45]) [46]).2.1).size : Int))), .d (.i (fitS (v).natAbs ((S (Lib.cut (Lib.trimPrefix (w) [45]) [46]).2.1).size : Int)))]), (false, [.d (.b true)])]) [] (by kernel_rfl) conj0 ?_ ?_
     ·obtain ⟨r1, r2, r3⟩ := decR_yes (fit_right _ _ _) (hc7.2)
      rw [r1, r2, r3]; simp only [S_size]
     ·rfl
end Go.Proofs.YtdejnaokkdndeaaGreatDoor
namespace Go.Proofs.YtdejnaokkdndeaaGreatDoor
open Go.RowKit Go.V
open Go.Eng (inR byteAt u8 bytesV)
variable {m : Int}
theorem sEqual_ok (a b : List (List UInt8)) :
  SpG (gT m) 289 [.c (.d (.sl 1 (strs a))), .c (.d (.sl 1 (strs b)))] [] (.c (.d (.b (decide (a = b))))) [] := by
 refine enterB 26 Tryz.func289 (by kernel_rfl) fun fr hG => ?_
 refine stepLen 0 rfl fun hl0 => ?_
 refine stepLen 1 rfl fun hl1 => ?_
 refine zC hG [] [1, 0, 1] (!decide ((((strs a).length : Int) : Int) = ((strs b).length : Int))) (⟨[(0, [], .c (.d (.sl 1 (strs a)))), (1, [], .c (.d (.sl 1 (strs b)))), (4, [], .c (.d (.b false)))], []⟩) (by kernel_rfl) conj0 (fun hc1 => ?_) (fun hc1 => ?_)
 ·(try simp only [zq0] at hc1)
  refine zR hG [] [] (.c (.d (.b false))) [] (by kernel_rfl) conj0 ?_ ?_
  ·have : ¬ a = b := fun e => hc1 (by rw [e])
   simp [this]
  ·rfl
 ·(try simp only [zq0] at hc1)
  refine zL hG [] [0, 1, 0, 1, 1] (fun (zz : Nat) => match zz with | k => (a.length - k, ⟨[(0, [], .c (.d (.sl 1 (strs a)))), (1, [], .c (.d (.sl 1 (strs b)))), (4, [], .c (.d (.b false))), (12, [], .c (.d (.i ((strs a).length : Int)))), (13, [], .c (.d (.i (k : Int))))], []⟩, k ≤ a.length ∧ ∀ j, j < k → a.getD j [] = b.getD j [])) 0 (by kernel_rfl) conj0 (by kernel_rfl) ?_ ?_
  ·exact ⟨Nat.zero_le _, fun j hj => by omega⟩
  rintro k ⟨hk, hn⟩
  refine zc hG [] [0, 1] (decide (((k : Int) : Int) < ((strs a).length : Int))) (by kernel_rfl) conj0 (fun hc3 => ?_) (fun hc3 => ?_)
  ·(try simp only [zq0] at hc3)
   refine zc hG [(6, 2, .elem (strD ((a).getD k []))), (6, 6, .elem (strD ((b).getD k [])))] [1, 1, 0, 0, 1, 1] (!((S ((a).getD k [])).toList == (S ((b).getD k [])).toList)) (by kernel_rfl) (conjC (show (0 : Int) ≤ (k : Int) ∧ (strs a)[k]? = some (strD ((a).getD k [])) from (by intros; exact map_at [] (by omega) (by (try simp only [zq1] at *); omega))) (conj1 (show (0 : Int) ≤ (k : Int) ∧ (strs b)[k]? = some (strD ((b).getD k [])) from (by intros; exact map_at [] (by omega) (by (try simp only [zq1] at *); omega))))) (fun hc4 => ?_) (fun hc4 => ?_)
   ·(try simp only [zq0] at hc4)
    refine zE hG [] .ret (⟨[(4, [], .c (.d (.b false)))], []⟩) (by kernel_rfl) conj0 rfl ?_
    refine zR hG [] [] (.c (.d (.b false))) [] (by kernel_rfl) conj0 ?_ ?_
    ·have : ¬ a = b := ne_of_at [] (j := k) (by simpa using hc4)
     simp [this]
    ·rfl
   ·(try simp only [zq0] at hc4)
    refine zD hG [] (k + 1) (by kernel_rfl) (conj1 (show inR ((k : Int) + 1) from (by intros; (try simp only [zq4] at *); omega))) ?_ ?_
    ·(try dsimp only); omega
    ·exact ⟨by omega, below_succ hn (by simpa using hc4)⟩
  ·(try simp only [zq0] at hc3)
   refine zE hG [] (.exit 0) (⟨[(4, [], .c (.d (.b false)))], []⟩) (by kernel_rfl) conj0 rfl ?_
   refine zR hG [] [] (.c (.d (.b true))) [] (by kernel_rfl) conj0 ?_ ?_
   ·have : a = b := eq_of_all [] (by omega) (fun j hj => hn j (by omega))
    simp [this]
   ·rfl
theorem eqRows_nil' (a b : List (List Cl)) (ha : a = []) (hb : b = []) :
  SpG (gT m) 290 [.c (.d (.sl 1 (rowsD a))), .c (.d (.sl 1 (rowsD b))), .c (.d (.v (.func (.func 291) #[] #[])))] [] (.c (.d (.b true))) [] := by
 refine enterB 32 Tryz.func290 (by kernel_rfl) fun fr hG => ?_
 refine zC hG [] [1, 0, 1] (!decide ((((rowsD a).length : Int) : Int) = ((rowsD b).length : Int))) (⟨[(0, [], .c (.d (.sl 1 (rowsD a)))), (1, [], .c (.d (.sl 1 (rowsD b)))), (2, [], .c (.d (.v (.func (.func 291) #[] #[])))), (6, [], .c (.d (.b false)))], []⟩) (by kernel_rfl) conj0 (fun hc1 => ?_) (fun hc1 => ?_)
 ·(try simp only [zq0] at hc1)
  exfalso; simp [ha, hb] at hc1; try omega
 ·(try simp only [zq0] at hc1)
  refine zL hG [] [0, 1, 0, 1, 1] (fun (zz : Nat) => match zz with | k => (0, ⟨[(1, [], .c (.d (.sl 1 (rowsD b)))), (2, [], .c (.d (.v (.func (.func 291) #[] #[])))), (6, [], .c (.d (.b false))), (15, [], .c (.d (.sl 1 (rowsD a)))), (16, [], .c (.d (.i ((rowsD a).length : Int)))), (17, [], .c (.d (.i (k : Int))))], []⟩, k = 0)) 0 (by kernel_rfl) conj0 (by kernel_rfl) ?_ ?_
  ·rfl
  rintro k hk
  refine zc hG [] [0, 1] (decide (((k : Int) : Int) < ((rowsD a).length : Int))) (by kernel_rfl) conj0 (fun hc3 => ?_) (fun hc3 => ?_)
  ·(try simp only [zq0] at hc3)
   exfalso; simp [ha, hb] at hc3; try omega
  ·(try simp only [zq0] at hc3)
   refine zE hG [] (.exit 0) (⟨[(6, [], .c (.d (.b false)))], []⟩) (by kernel_rfl) conj0 rfl ?_
   exact zr hG [] [] (by kernel_rfl) conj0
theorem equal_of (a b : Vl) (T : Bool) (hT : SpG (gT m) 290 [.c (.d (.sl 1 (rowsD a.rows))), .c (.d (.sl 1 (rowsD b.rows))), .c (.d (.v (.func (.func 291) #[] #[])))] [] (.c (.d (.b T))) []) :
  SpG (gT m) 212 [.agg [.d (.i a.kind), .d (.s (S a.s)), .d (.i a.dn), .d (.i a.ds), .d (.i a.n), .d (.sl 1 (strs a.cols)), .d (.sl 1 (rowsD a.rows))], .agg [.d (.i b.kind), .d (.s (S b.s)), .d (.i b.dn), .d (.i b.ds), .d (.i b.n), .d (.sl 1 (strs b.cols)), .d (.sl 1 (rowsD b.rows))]] [] (.c (.d (.b (eqK T a b)))) [] := by
 refine enterB 43 Tryz.func212 (by kernel_rfl) fun fr hG => ?_
 refine zC hG [] [1, 0, 1] ((((!decide ((a.kind : Int) = b.kind)) || (!((S a.s).toList == (S b.s).toList))) || (!(((a.dn : Int) == b.dn) && ((a.ds : Int) == b.ds)))) || (!decide ((a.n : Int) = b.n))) (⟨[(2, [], .c (.bx 100 0)), (3, [], .c (.bx 101 0)), (4, [], .c (.d (.b false)))], [(100, .box 42 [.d (.i a.kind), .d (.s (S a.s)), .d (.i a.dn), .d (.i a.ds), .d (.i a.n), .d (.sl 1 (strs a.cols)), .d (.sl 1 (rowsD a.rows))]), (101, .box 42 [.d (.i b.kind), .d (.s (S b.s)), .d (.i b.dn), .d (.i b.ds), .d (.i b.n), .d (.sl 1 (strs b.cols)), .d (.sl 1 (rowsD b.rows))])]⟩) (by kernel_rfl) conj0 (fun hc1 => ?_) (fun hc1 => ?_)
 ·(try simp only [zq0] at hc1)
  refine zR hG [] [] (.c (.d (.b false))) [] (by kernel_rfl) conj0 ?_ ?_
  ·have e : eqK T a b = false := by
    rw [Bool.eq_false_iff]; intro hE
    simp only [eqK, Bool.and_eq_true, decide_eq_true_eq, beq_iff_eq] at hE
    obtain ⟨⟨⟨⟨⟨e1, e2⟩, e3, e4⟩, e5⟩, e6⟩, e7⟩ := hE
    rcases hc1 with ((h | h) | h | h) | h <;> first | exact h e1 | exact h e2 | exact h e5 | (rw [e3] at h; simp at h; done) | (rw [e4] at h; simp at h; done)
   rw [e]
  ·rfl
 ·(try simp only [zq0] at hc1)
  refine zR hG [(3, 4, .call (.c (.d (.b (decide ((a.cols) = (b.cols)))))) [] []), (3, 10, .call (.c (.d (.b T))) [] [])] [] (.c (.d (.b ((decide ((a.cols) = (b.cols))) && T)))) [] (by kernel_rfl) (conjC ((sEqual_ok (a.cols) (b.cols) : SpG (gT m) _ _ _ _ _)) (conj1 (fun (hg1 : (decide ((a.cols) = (b.cols))) = true) => ((hT : SpG (gT m) _ _ _ _ _))))) ?_ ?_
  ·(try simp only [S_beq] at hc1)
   simp only [eqK]
   simp_all
  ·rfl
theorem eqRows_nil : SpG (gT m) 290 [.c (.d (.sl 1 [])), .c (.d (.sl 1 [])), .c (.d (.v (.func (.func 291) #[] #[])))] [] (.c (.d (.b true))) [] := by
 have h := eqRows_nil' (m := m) [] [] rfl rfl
 exact h
theorem equalC (x y : Cl) : SpG (gT m) 212 [clArg x, clArg y] [] (.c (.d (.b (decide (x = y))))) [] := by
 have h := equal_of (m := m) x.toV y.toV _ eqRows_nil
 have e : eqK true x.toV y.toV = decide (x = y) := by
  have := eqK_eq (a := x.toV) (b := y.toV)
  rw [show decide (x.toV.rows = y.toV.rows) = true from rfl] at this
  rw [this]; simp [toV_inj]
 rw [e] at h
 exact h
theorem eqFuncC_ok (a b : List Cl) :
  SpG (gT m) 349 [.c (.d (.sl 7 (rowD a))), .c (.d (.sl 7 (rowD b))), .c (.d (.v (.func (.func 212) #[] #[])))] [] (.c (.d (.b (decide (a = b))))) [] := by
 refine enterB 32 Tryz.func349 (by kernel_rfl) fun fr hG => ?_
 refine stepLen 0 rfl fun hl0 => ?_
 refine stepLen 1 rfl fun hl1 => ?_
 refine zC hG [] [1, 0, 1] (!decide ((((rowD a).length : Int) : Int) = ((rowD b).length : Int))) (⟨[(0, [], .c (.d (.sl 7 (rowD a)))), (1, [], .c (.d (.sl 7 (rowD b)))), (2, [], .c (.d (.v (.func (.func 212) #[] #[])))), (6, [], .c (.d (.b false)))], []⟩) (by kernel_rfl) conj0 (fun hc1 => ?_) (fun hc1 => ?_)
 ·(try simp only [zq0] at hc1)
  refine zR hG [] [] (.c (.d (.b false))) [] (by kernel_rfl) conj0 ?_ ?_
  ·have : ¬ a = b := fun e => hc1 (by rw [e])
   simp [this]
  ·rfl
 ·(try simp only [zq0] at hc1)
  refine zL hG [] [0, 1, 0, 1, 1] (fun (zz : Nat) => match zz with | k => (a.length - k, ⟨[(1, [], .c (.d (.sl 7 (rowD b)))), (2, [], .c (.d (.v (.func (.func 212) #[] #[])))), (6, [], .c (.d (.b false))), (15, [], .c (.d (.sl 7 (rowD a)))), (16, [], .c (.d (.i ((rowD a).length : Int)))), (17, [], .c (.d (.i (k : Int))))], []⟩, k ≤ a.length ∧ ∀ j, j < k → a.getD j Cl.z = b.getD j Cl.z)) 0 (by kernel_rfl) conj0 (by kernel_rfl) ?_ ?_
  ·exact ⟨Nat.zero_le _, fun j hj => by omega⟩
  rintro k ⟨hk, hn⟩
  refine zc hG [] [0, 1] (decide (((k : Int) : Int) < ((rowD a).length : Int))) (by kernel_rfl) conj0 (fun hc3 => ?_) (fun hc3 => ?_)
  ·(try simp only [zq0] at hc3)
   refine zc hG [(5, 1, .elem (ClD ((a).getD k Cl.z))), (6, 2, .elem (ClD ((b).getD k Cl.z))), (7, 3, .call (.c (.d (.b (decide (((a).getD k Cl.z) = ((b).getD k Cl.z)))))) [] [])] [1, 1, 1, 0, 0, 1, 1] (!(decide (((a).getD k Cl.z) = ((b).getD k Cl.z)))) (by kernel_rfl) (conjC (show (0 : Int) ≤ (k : Int) ∧ (rowD a)[k]? = some (ClD ((a).getD k Cl.z)) from (by intros; exact map_at _ (by omega) (by (try simp only [zq3] at *); omega))) (conjC (show (0 : Int) ≤ (k : Int) ∧ (rowD b)[k]? = some (ClD ((b).getD k Cl.z)) from (by intros; exact map_at _ (by omega) (by (try simp only [zq3] at *); omega))) (conj1 ((equalC ((a).getD k Cl.z) ((b).getD k Cl.z) : SpG (gT m) _ _ _ _ _))))) (fun hc4 => ?_) (fun hc4 => ?_)
   ·(try simp only [zq0] at hc4)
    refine zE hG [] .ret (⟨[(6, [], .c (.d (.b false)))], []⟩) (by kernel_rfl) conj0 rfl ?_
    refine zR hG [] [] (.c (.d (.b false))) [] (by kernel_rfl) conj0 ?_ ?_
    ·have : ¬ a = b := ne_of_at Cl.z (j := k) (by simpa using hc4)
     simp [this]
    ·rfl
   ·(try simp only [zq0] at hc4)
    refine zD hG [] (k + 1) (by kernel_rfl) (conj1 (show inR ((k : Int) + 1) from (by intros; (try simp only [zq4] at *); omega))) ?_ ?_
    ·(try dsimp only); omega
    ·exact ⟨by omega, below_succ hn (by simpa using hc4)⟩
  ·(try simp only [zq0] at hc3)
   refine zE hG [] (.exit 0) (⟨[(6, [], .c (.d (.b false)))], []⟩) (by kernel_rfl) conj0 rfl ?_
   refine zR hG [] [] (.c (.d (.b true))) [] (by kernel_rfl) conj0 ?_ ?_
   ·have : a = b := eq_of_all Cl.z (by omega) (fun j hj => hn j (by omega))
    simp [this]
   ·rfl
theorem equalRows_ok (a b : List Cl) :
  SpG (gT m) 291 [.c (.d (.sl 7 (rowD a))), .c (.d (.sl 7 (rowD b)))] [] (.c (.d (.b (decide (a = b))))) [] := by
 refine enterB 8 Tryz.func291 (by kernel_rfl) fun fr hG => ?_
 exact zr hG [(1, 2, .call (.c (.d (.b (decide (a = b))))) [] [])] [] (by kernel_rfl) (conj1 ((eqFuncC_ok a b : SpG (gT m) _ _ _ _ _)))
theorem eqFuncR_ok (a b : List (List Cl)) :
  SpG (gT m) 290 [.c (.d (.sl 1 (rowsD a))), .c (.d (.sl 1 (rowsD b))), .c (.d (.v (.func (.func 291) #[] #[])))] [] (.c (.d (.b (decide (a = b))))) [] := by
 refine enterB 32 Tryz.func290 (by kernel_rfl) fun fr hG => ?_
 refine stepLen 0 rfl fun hl0 => ?_
 refine stepLen 1 rfl fun hl1 => ?_
 refine zC hG [] [1, 0, 1] (!decide ((((rowsD a).length : Int) : Int) = ((rowsD b).length : Int))) (⟨[(0, [], .c (.d (.sl 1 (rowsD a)))), (1, [], .c (.d (.sl 1 (rowsD b)))), (2, [], .c (.d (.v (.func (.func 291) #[] #[])))), (6, [], .c (.d (.b false)))], []⟩) (by kernel_rfl) conj0 (fun hc1 => ?_) (fun hc1 => ?_)
 ·(try simp only [zq0] at hc1)
  refine zR hG [] [] (.c (.d (.b false))) [] (by kernel_rfl) conj0 ?_ ?_
  ·have : ¬ a = b := fun e => hc1 (by rw [e])
   simp [this]
  ·rfl
 ·(try simp only [zq0] at hc1)
  refine zL hG [] [0, 1, 0, 1, 1] (fun (zz : Nat) => match zz with | k => (a.length - k, ⟨[(1, [], .c (.d (.sl 1 (rowsD b)))), (2, [], .c (.d (.v (.func (.func 291) #[] #[])))), (6, [], .c (.d (.b false))), (15, [], .c (.d (.sl 1 (rowsD a)))), (16, [], .c (.d (.i ((rowsD a).length : Int)))), (17, [], .c (.d (.i (k : Int))))], []⟩, k ≤ a.length ∧ ∀ j, j < k → a.getD j [] = b.getD j [])) 0 (by kernel_rfl) conj0 (by kernel_rfl) ?_ ?_
  ·exact ⟨Nat.zero_le _, fun j hj => by omega⟩
  rintro k ⟨hk, hn⟩
  refine zc hG [] [0, 1] (decide (((k : Int) : Int) < ((rowsD a).length : Int))) (by kernel_rfl) conj0 (fun hc3 => ?_) (fun hc3 => ?_)
  ·(try simp only [zq0] at hc3)
   refine zc hG [(5, 1, .elem (rows1 ((a).getD k []))), (6, 2, .elem (rows1 ((b).getD k []))), (7, 3, .call (.c (.d (.b (decide (((a).getD k []) = ((b).getD k [])))))) [] [])] [1, 1, 1, 0, 0, 1, 1] (!(decide (((a).getD k []) = ((b).getD k [])))) (by kernel_rfl) (conjC (show (0 : Int) ≤ (k : Int) ∧ (rowsD a)[k]? = some (rows1 ((a).getD k [])) from (by intros; exact map_at _ (by omega) (by (try simp only [zq3] at *); omega))) (conjC (show (0 : Int) ≤ (k : Int) ∧ (rowsD b)[k]? = some (rows1 ((b).getD k [])) from (by intros; exact map_at _ (by omega) (by (try simp only [zq3] at *); omega))) (conj1 ((equalRows_ok ((a).getD k []) ((b).getD k []) : SpG (gT m) _ _ _ _ _))))) (fun hc4 => ?_) (fun hc4 => ?_)
   ·(try simp only [zq0] at hc4)
    refine zE hG [] .ret (⟨[(6, [], .c (.d (.b false)))], []⟩) (by kernel_rfl) conj0 rfl ?_
    refine zR hG [] [] (.c (.d (.b false))) [] (by kernel_rfl) conj0 ?_ ?_
    ·have : ¬ a = b := ne_of_at [] (j := k) (by simpa using hc4)
     simp [this]
    ·rfl
   ·(try simp only [zq0] at hc4)
    refine zD hG [] (k + 1) (by kernel_rfl) (conj1 (show inR ((k : Int) + 1) from (by intros; (try simp only [zq4] at *); omega))) ?_ ?_
    ·(try dsimp only); omega
    ·exact ⟨by omega, below_succ hn (by simpa using hc4)⟩
  ·(try simp only [zq0] at hc3)
   refine zE hG [] (.exit 0) (⟨[(6, [], .c (.d (.b false)))], []⟩) (by kernel_rfl) conj0 rfl ?_
   refine zR hG [] [] (.c (.d (.b true))) [] (by kernel_rfl) conj0 ?_ ?_
   ·have : a = b := eq_of_all [] (by omega) (fun j hj => hn j (by omega))
    simp [this]
   ·rfl
theorem equal_ok (a b : Vl) : SpG (gT m) 212 [vArg a, vArg b] [] (.c (.d (.b (decide (a = b))))) [] := by
 have h := equal_of (m := m) a b _ (eqFuncR_ok a.rows b.rows)
 rw [eqK_eq] at h
 exact h
end Go.Proofs.YtdejnaokkdndeaaGreatDoor
namespace Go.Proofs.YtdejnaokkdndeaaGreatDoor
open Go.RowKit Go.V
open Go.Eng (inR byteAt u8 bytesV)
variable {m : Int}
theorem inR_of {x : Int} (a : -9000000000000000000 ≤ x) (b : x ≤ 9000000000000000000) : inR x := by unfold inR; omega
theorem ten_at {k : Int} (h0 : 0 ≤ k) (h1 : k ≤ 6) : tensL.getD (0 + k.toNat * 1) 0 = tenD k := by rw [Nat.zero_add, Nat.mul_one]; rfl
theorem W_small {W k q : Int} (h0 : 0 ≤ k) (h1 : k ≤ 6) (a : ¬ (W < -Int.tdiv 1000000000000000 (tenD k) ∨ W > Int.tdiv 1000000000000000 (tenD k))) : -1000000000000000 ≤ W * tenD k ∧ W * tenD k ≤ 1000000000000000 ∧ tenD k ≤ 1000000 := by
 rcases six_of h0 h1 with rfl | rfl | rfl | rfl | rfl | rfl | rfl
 ·simp only [tn0, show Int.tdiv 1000000000000000 1 = 1000000000000000 from rfl] at *; omega
 ·simp only [tn1, show Int.tdiv 1000000000000000 10 = 100000000000000 from rfl] at *; omega
 ·simp only [tn2, show Int.tdiv 1000000000000000 100 = 10000000000000 from rfl] at *; omega
 ·simp only [tn3, show Int.tdiv 1000000000000000 1000 = 1000000000000 from rfl] at *; omega
 ·simp only [tn4, show Int.tdiv 1000000000000000 10000 = 100000000000 from rfl] at *; omega
 ·simp only [tn5, show Int.tdiv 1000000000000000 100000 = 10000000000 from rfl] at *; omega
 ·simp only [tn6, show Int.tdiv 1000000000000000 1000000 = 1000000000 from rfl] at *; omega
theorem most_of {k : Int} (h0 : 0 ≤ k) (h1 : k ≤ 6) : tenD k ≠ 0 ∧ 0 ≤ Int.tdiv 1000000000000000 (tenD k) ∧ Int.tdiv 1000000000000000 (tenD k) ≤ 1000000000000000 := by
 rcases six_of h0 h1 with rfl | rfl | rfl | rfl | rfl | rfl | rfl <;> decide
theorem tdiv_le (q : Int) (h : -2000000 ≤ q ∧ q ≤ 2000000) : -2000000 ≤ Int.tdiv q 10 ∧ Int.tdiv q 10 ≤ 2000000 := by
 have := Int.mul_tdiv_add_tmod q 10
 have b2 := Int.lt_tmod_of_pos q (show (0 : Int) < 10 by decide)
 have b1 := Int.tmod_lt_of_pos q (show (0 : Int) < 10 by decide)
 omega
theorem neg_wrap {x : Int} (a : 0 ≤ x) (b : x ≤ 1000000000000000) : IntKind.wrap .i64 (0 - x) = -x := by
 rw [wrap64 (by unfold inR; omega)]; omega
theorem decJoin_ok (w p rn rs : Int) (rb : Bool) (hw : -4000000000000000 ≤ w ∧ w ≤ 4000000000000000) (hp : -4000000 ≤ p ∧ p ≤ 4000000) (h : isJ (1000000 * w + p) rn rs rb) :
  SpG (gT m) 277 [.c (.d (.i w)), .c (.d (.i p))] [] (.tup [(true, [.d (.i rn), .d (.i rs)]), (false, [.d (.b rb)])]) [] := by
 have t6 := td6 p
 refine enterB 74 Tryz.func277 (by kernel_rfl) fun fr hG => ?_
 refine zC hG [] [1, 0, 1, 1, 1] ((decide ((w + (Int.tdiv p 1000000) : Int) > 0)) && (decide ((Int.tmod p 1000000 : Int) < 0))) (⟨[(0, [], .c (.d (.i (w + (Int.tdiv p 1000000))))), (1, [], .c (.d (.i (Int.tmod p 1000000)))), (4, [], .c (.bx 100 0)), (5, [], .c (.d (.b false)))], [(100, .box 38 [.d (.i 0), .d (.i 0)])]⟩) (by kernel_rfl) (conjC (show 1000000 ≠ (0 : Int) ∧ inR (Int.tdiv p 1000000) from (by intros; first | omega | decide | exact inR_of (by omega) (by omega) | exact ⟨by omega, inR_of (by omega) (by omega)⟩ | exact ⟨by omega, by show _ < ((7 : Nat) : Int); omega⟩ | (simp only [e0]; first | exact inR_of (by omega) (by omega) | exact ⟨hmo.1, inR_of (by omega) (by omega)⟩ | omega))) (conjC (show inR (w + (Int.tdiv p 1000000)) from (by intros; first | omega | decide | exact inR_of (by omega) (by omega) | exact ⟨by omega, inR_of (by omega) (by omega)⟩ | exact ⟨by omega, by show _ < ((7 : Nat) : Int); omega⟩ | (simp only [e0]; first | exact inR_of (by omega) (by omega) | exact ⟨hmo.1, inR_of (by omega) (by omega)⟩ | omega))) (conj1 (show 1000000 ≠ (0 : Int) from (by intros; first | omega | decide | exact inR_of (by omega) (by omega) | exact ⟨by omega, inR_of (by omega) (by omega)⟩ | exact ⟨by omega, by show _ < ((7 : Nat) : Int); omega⟩ | (simp only [e0]; first | exact inR_of (by omega) (by omega) | exact ⟨hmo.1, inR_of (by omega) (by omega)⟩ | omega)))))) (fun hc1 => ?_) (fun hc1 => ?_)
 ·(try simp only [blS] at hc1)
  refine zC hG [] [1, 0, 1, 1, 1, 1] ((decide (((w + (Int.tdiv p 1000000)) - 1 : Int) < 0)) && (decide (((Int.tmod p 1000000) + 1000000 : Int) > 0))) (⟨[(0, [], .c (.d (.i ((w + (Int.tdiv p 1000000)) - 1)))), (1, [], .c (.d (.i ((Int.tmod p 1000000) + 1000000)))), (4, [], .c (.bx 100 0)), (5, [], .c (.d (.b false)))], [(100, .box 38 [.d (.i 0), .d (.i 0)])]⟩) (by kernel_rfl) (conjC (show inR ((w + (Int.tdiv p 1000000)) - 1) from (by intros; first | omega | decide | exact inR_of (by omega) (by omega) | exact ⟨by omega, inR_of (by omega) (by omega)⟩ | exact ⟨by omega, by show _ < ((7 : Nat) : Int); omega⟩ | (simp only [e0]; first | exact inR_of (by omega) (by omega) | exact ⟨hmo.1, inR_of (by omega) (by omega)⟩ | omega))) (conj1 (show inR ((Int.tmod p 1000000) + 1000000) from (by intros; first | omega | decide | exact inR_of (by omega) (by omega) | exact ⟨by omega, inR_of (by omega) (by omega)⟩ | exact ⟨by omega, by show _ < ((7 : Nat) : Int); omega⟩ | (simp only [e0]; first | exact inR_of (by omega) (by omega) | exact ⟨hmo.1, inR_of (by omega) (by omega)⟩ | omega))))) (fun hc2 => ?_) (fun hc2 => ?_)
  ·(try simp only [blS] at hc2)
   refine zL hG [] [0, 0, 1, 1, 1, 1, 1, 1] (fun (zz : Int × Int) => match zz with | (q, k) => (k.toNat, ⟨[(0, [], .c (.d (.i (((w + (Int.tdiv p 1000000)) - 1) + 1)))), (1, [], .c (.d (.i q))), (4, [], .c (.bx 100 0)), (5, [], .c (.d (.b false))), (6, [], .c (.d (.i k)))], [(100, .box 38 [.d (.i 0), .d (.i 0)])]⟩, 0 ≤ k ∧ k ≤ 6 ∧ decV q k = (((Int.tmod p 1000000) + 1000000) - 1000000) ∧ -tenD k < q ∧ q < tenD k ∧ isJ (1000000 * (((w + (Int.tdiv p 1000000)) - 1) + 1) + (((Int.tmod p 1000000) + 1000000) - 1000000)) rn rs rb ∧ ((0 ≤ (((w + (Int.tdiv p 1000000)) - 1) + 1 : Int) ∧ 0 ≤ (((Int.tmod p 1000000) + 1000000) - 1000000)) ∨ ((((w + (Int.tdiv p 1000000)) - 1) + 1 : Int) ≤ 0 ∧ (((Int.tmod p 1000000) + 1000000) - 1000000) ≤ 0)) ∧ -5000000000000000 ≤ (((w + (Int.tdiv p 1000000)) - 1) + 1 : Int) ∧ (((w + (Int.tdiv p 1000000)) - 1) + 1 : Int) ≤ 5000000000000000)) (((Int.tmod p 1000000) + 1000000) - 1000000, 6) (by kernel_rfl) (conjC (show inR (((w + (Int.tdiv p 1000000)) - 1) + 1) from (by intros; first | omega | decide | exact inR_of (by omega) (by omega) | exact ⟨by omega, inR_of (by omega) (by omega)⟩ | exact ⟨by omega, by show _ < ((7 : Nat) : Int); omega⟩ | (simp only [e0]; first | exact inR_of (by omega) (by omega) | exact ⟨hmo.1, inR_of (by omega) (by omega)⟩ | omega))) (conj1 (show inR (((Int.tmod p 1000000) + 1000000) - 1000000) from (by intros; first | omega | decide | exact inR_of (by omega) (by omega) | exact ⟨by omega, inR_of (by omega) (by omega)⟩ | exact ⟨by omega, by show _ < ((7 : Nat) : Int); omega⟩ | (simp only [e0]; first | exact inR_of (by omega) (by omega) | exact ⟨hmo.1, inR_of (by omega) (by omega)⟩ | omega))))) (by kernel_rfl) ?_ ?_
   ·refine ⟨by decide, by decide, Int.mul_one _, by rw [tn6]; omega, by rw [tn6]; omega, ?_, by omega, by omega, by omega⟩
    rw [show 1000000 * (((w + (Int.tdiv p 1000000)) - 1) + 1) + (((Int.tmod p 1000000) + 1000000) - 1000000) = 1000000 * w + p by omega]; exact h
   rintro ⟨q, k⟩ ⟨hk0, hk6, hq, hq1, hq2, hj, hsg, hw1, hw2⟩
   have hmo := most_of hk0 hk6
   have e0 := ten_at hk0 hk6
   have htd := td10 q
   have hten := tenD_div hk0 hk6
   have hws := fun a => W_small (W := ((w + (Int.tdiv p 1000000)) - 1) + 1) (q := q) hk0 hk6 a
   have htl := tdiv_le q (by omega)
   have hwr := neg_wrap (x := Int.tdiv 1000000000000000 (tenD k)) (by omega) (by omega)
   refine zc hG [] [1, 0] ((decide ((k : Int) > 0)) && (decide ((Int.tmod q 10 : Int) = 0))) (by kernel_rfl) (conj1 (show (decide ((k : Int) > 0)) = true → 10 ≠ (0 : Int) from (by intros; first | omega | decide | exact inR_of (by omega) (by omega) | exact ⟨by omega, inR_of (by omega) (by omega)⟩ | exact ⟨by omega, by show _ < ((7 : Nat) : Int); omega⟩ | (simp only [e0]; first | exact inR_of (by omega) (by omega) | exact ⟨hmo.1, inR_of (by omega) (by omega)⟩ | omega)))) (fun hc4 => ?_) (fun hc4 => ?_)
   ·(try simp only [blS] at hc4)
    refine zD hG [] (Int.tdiv q 10, k - 1) (by kernel_rfl) (conjC (show 10 ≠ (0 : Int) ∧ inR (Int.tdiv q 10) from (by intros; first | omega | decide | exact inR_of (by omega) (by omega) | exact ⟨by omega, inR_of (by omega) (by omega)⟩ | exact ⟨by omega, by show _ < ((7 : Nat) : Int); omega⟩ | (simp only [e0]; first | exact inR_of (by omega) (by omega) | exact ⟨hmo.1, inR_of (by omega) (by omega)⟩ | omega))) (conj1 (show inR (k - 1) from (by intros; first | omega | decide | exact inR_of (by omega) (by omega) | exact ⟨by omega, inR_of (by omega) (by omega)⟩ | exact ⟨by omega, by show _ < ((7 : Nat) : Int); omega⟩ | (simp only [e0]; first | exact inR_of (by omega) (by omega) | exact ⟨hmo.1, inR_of (by omega) (by omega)⟩ | omega))))) ?_ ?_
    ·(try dsimp only); omega
    ·obtain ⟨s1, s2, s3, s4, s5⟩ := j_step hk0 hk6 hq hq1 hq2 (by omega) (by omega)
     exact ⟨s1, s2, s3, s4, s5, hj, hsg, hw1, hw2⟩
   ·(try simp only [blS] at hc4)
    refine zE hG [] (.exit 0) (⟨[(0, [], .c (.d (.i (((w + (Int.tdiv p 1000000)) - 1) + 1)))), (1, [], .c (.d (.i q))), (4, [], .c (.bx 100 0)), (5, [], .c (.d (.b false))), (6, [], .c (.d (.i k)))], [(100, .box 38 [.d (.i 0), .d (.i 0)])]⟩) (by kernel_rfl) conj0 rfl ?_
    refine zc hG [(13, 2, .elem [.i (tensL.getD (0 + (k : Int).toNat * 1) 0)])] [1, 0, 1, 1, 1, 1, 1, 1, 1, 1] ((decide ((((w + (Int.tdiv p 1000000)) - 1) + 1 : Int) < (IntKind.wrap .i64 (0 - (Int.tdiv 1000000000000000 (tensL.getD (0 + (k : Int).toNat * 1) 0)))))) || (decide ((((w + (Int.tdiv p 1000000)) - 1) + 1 : Int) > (Int.tdiv 1000000000000000 (tensL.getD (0 + (k : Int).toNat * 1) 0))))) (by kernel_rfl) (conjC (show (0 : Int) ≤ k ∧ k < ((7 : Nat) : Int) from (by intros; first | omega | decide | exact inR_of (by omega) (by omega) | exact ⟨by omega, inR_of (by omega) (by omega)⟩ | exact ⟨by omega, by show _ < ((7 : Nat) : Int); omega⟩ | (simp only [e0]; first | exact inR_of (by omega) (by omega) | exact ⟨hmo.1, inR_of (by omega) (by omega)⟩ | omega))) (conjC (show (tensL.map (Value.int .i64) : List Value)[0 + (k : Int).toNat * 1]? = some (.int .i64 (tensL.getD (0 + (k : Int).toNat * 1) 0)) from (by intros; exact map_nat 0 (by show _ < 7; omega))) (conj1 (show (tensL.getD (0 + (k : Int).toNat * 1) 0) ≠ (0 : Int) ∧ inR (Int.tdiv 1000000000000000 (tensL.getD (0 + (k : Int).toNat * 1) 0)) from (by intros; first | omega | decide | exact inR_of (by omega) (by omega) | exact ⟨by omega, inR_of (by omega) (by omega)⟩ | exact ⟨by omega, by show _ < ((7 : Nat) : Int); omega⟩ | (simp only [e0]; first | exact inR_of (by omega) (by omega) | exact ⟨hmo.1, inR_of (by omega) (by omega)⟩ | omega)))))) (fun hc5 => ?_) (fun hc5 => ?_)
    ·(try simp only [blS] at hc5)
     simp only [e0, hwr] at hc5
     refine zR hG [] [] (.tup [(true, [.d (.i 0), .d (.i 0)]), (false, [.d (.b false)])]) [] (by kernel_rfl) conj0 ?_ ?_
     ·obtain ⟨g1, g2, g3⟩ := j_end hk0 hk6 hq hq1 hq2 (by omega) hsg
      obtain ⟨rfl, rfl, rfl⟩ := j_no hj hk0 hk6 g2 g1 (g3 hc5)
      rfl
     ·rfl
    ·(try simp only [blS] at hc5)
     simp only [e0, hwr] at hc5
     have hww := hws (by omega)
     refine zC hG [(16, 3, .elem [.i (tensL.getD (0 + (k : Int).toNat * 1) 0)]), (17, 1, .call (.c (.d (.b (decide ((-1000000000000000 : Int) ≤ (((((w + (Int.tdiv p 1000000)) - 1) + 1) * (tensL.getD (0 + (k : Int).toNat * 1) 0)) + q)) && decide ((((((w + (Int.tdiv p 1000000)) - 1) + 1) * (tensL.getD (0 + (k : Int).toNat * 1) 0)) + q) ≤ (1000000000000000 : Int)))))) [] [])] [1, 0, 1, 1, 1, 1, 1, 1, 1, 1, 1, 1] (!(decide ((-1000000000000000 : Int) ≤ (((((w + (Int.tdiv p 1000000)) - 1) + 1) * (tensL.getD (0 + (k : Int).toNat * 1) 0)) + q)) && decide ((((((w + (Int.tdiv p 1000000)) - 1) + 1) * (tensL.getD (0 + (k : Int).toNat * 1) 0)) + q) ≤ (1000000000000000 : Int)))) (⟨[(4, [], .c (.bx 100 0)), (5, [], .c (.d (.b false))), (6, [], .c (.d (.i k))), (8, [], .c (.d (.i (((((w + (Int.tdiv p 1000000)) - 1) + 1) * (tensL.getD (0 + (k : Int).toNat * 1) 0)) + q))))], [(100, .box 38 [.d (.i 0), .d (.i 0)])]⟩) (by kernel_rfl) (conjC (show (0 : Int) ≤ k ∧ k < ((7 : Nat) : Int) from (by intros; first | omega | decide | exact inR_of (by omega) (by omega) | exact ⟨by omega, inR_of (by omega) (by omega)⟩ | exact ⟨by omega, by show _ < ((7 : Nat) : Int); omega⟩ | (simp only [e0]; first | exact inR_of (by omega) (by omega) | exact ⟨hmo.1, inR_of (by omega) (by omega)⟩ | omega))) (conjC (show (tensL.map (Value.int .i64) : List Value)[0 + (k : Int).toNat * 1]? = some (.int .i64 (tensL.getD (0 + (k : Int).toNat * 1) 0)) from (by intros; exact map_nat 0 (by show _ < 7; omega))) (conjC (show inR ((((w + (Int.tdiv p 1000000)) - 1) + 1) * (tensL.getD (0 + (k : Int).toNat * 1) 0)) from (by intros; first | omega | decide | exact inR_of (by omega) (by omega) | exact ⟨by omega, inR_of (by omega) (by omega)⟩ | exact ⟨by omega, by show _ < ((7 : Nat) : Int); omega⟩ | (simp only [e0]; first | exact inR_of (by omega) (by omega) | exact ⟨hmo.1, inR_of (by omega) (by omega)⟩ | omega))) (conjC (show inR (((((w + (Int.tdiv p 1000000)) - 1) + 1) * (tensL.getD (0 + (k : Int).toNat * 1) 0)) + q) from (by intros; first | omega | decide | exact inR_of (by omega) (by omega) | exact ⟨by omega, inR_of (by omega) (by omega)⟩ | exact ⟨by omega, by show _ < ((7 : Nat) : Int); omega⟩ | (simp only [e0]; first | exact inR_of (by omega) (by omega) | exact ⟨hmo.1, inR_of (by omega) (by omega)⟩ | omega))) (conj1 ((within_any (((((w + (Int.tdiv p 1000000)) - 1) + 1) * (tensL.getD (0 + (k : Int).toNat * 1) 0)) + q) : SpG (gT m) _ _ _ _ _))))))) (fun hc6 => ?_) (fun hc6 => ?_)
     ·(try simp only [blS] at hc6)
      simp only [e0] at hc6
      refine zR hG [] [] (.tup [(true, [.d (.i 0), .d (.i 0)]), (false, [.d (.b false)])]) [] (by kernel_rfl) conj0 ?_ ?_
      ·obtain ⟨g1, g2, g3⟩ := j_end hk0 hk6 hq hq1 hq2 (by omega) hsg
       obtain ⟨rfl, rfl, rfl⟩ := j_no hj hk0 hk6 g2 g1 (by omega)
       rfl
      ·rfl
     ·(try simp only [blS] at hc6)
      simp only [e0] at hc6
      refine zR hG [] [] (.tup [(true, [.d (.i (((((w + (Int.tdiv p 1000000)) - 1) + 1) * (tensL.getD (0 + (k : Int).toNat * 1) 0)) + q)), .d (.i k)]), (false, [.d (.b true)])]) [] (by kernel_rfl) conj0 ?_ ?_
      ·obtain ⟨g1, g2, g3⟩ := j_end hk0 hk6 hq hq1 hq2 (by omega) hsg
       simp only [e0]
       obtain ⟨rfl, rfl, rfl⟩ := j_yes hj (decB_of hk0 hk6 g2 (by omega) (by omega)) g1
       rfl
      ·rfl
  ·(try simp only [blS] at hc2)
   refine zL hG [] [0, 0, 1, 1, 1, 1, 1, 1] (fun (zz : Int × Int) => match zz with | (q, k) => (k.toNat, ⟨[(0, [], .c (.d (.i ((w + (Int.tdiv p 1000000)) - 1)))), (1, [], .c (.d (.i q))), (4, [], .c (.bx 100 0)), (5, [], .c (.d (.b false))), (6, [], .c (.d (.i k)))], [(100, .box 38 [.d (.i 0), .d (.i 0)])]⟩, 0 ≤ k ∧ k ≤ 6 ∧ decV q k = ((Int.tmod p 1000000) + 1000000) ∧ -tenD k < q ∧ q < tenD k ∧ isJ (1000000 * ((w + (Int.tdiv p 1000000)) - 1) + ((Int.tmod p 1000000) + 1000000)) rn rs rb ∧ ((0 ≤ ((w + (Int.tdiv p 1000000)) - 1 : Int) ∧ 0 ≤ ((Int.tmod p 1000000) + 1000000)) ∨ (((w + (Int.tdiv p 1000000)) - 1 : Int) ≤ 0 ∧ ((Int.tmod p 1000000) + 1000000) ≤ 0)) ∧ -5000000000000000 ≤ ((w + (Int.tdiv p 1000000)) - 1 : Int) ∧ ((w + (Int.tdiv p 1000000)) - 1 : Int) ≤ 5000000000000000)) ((Int.tmod p 1000000) + 1000000, 6) (by kernel_rfl) conj0 (by kernel_rfl) ?_ ?_
   ·refine ⟨by decide, by decide, Int.mul_one _, by rw [tn6]; omega, by rw [tn6]; omega, ?_, by omega, by omega, by omega⟩
    rw [show 1000000 * ((w + (Int.tdiv p 1000000)) - 1) + ((Int.tmod p 1000000) + 1000000) = 1000000 * w + p by omega]; exact h
   rintro ⟨q, k⟩ ⟨hk0, hk6, hq, hq1, hq2, hj, hsg, hw1, hw2⟩
   have hmo := most_of hk0 hk6
   have e0 := ten_at hk0 hk6
   have htd := td10 q
   have hten := tenD_div hk0 hk6
   have hws := fun a => W_small (W := (w + (Int.tdiv p 1000000)) - 1) (q := q) hk0 hk6 a
   have htl := tdiv_le q (by omega)
   have hwr := neg_wrap (x := Int.tdiv 1000000000000000 (tenD k)) (by omega) (by omega)
   refine zc hG [] [1, 0] ((decide ((k : Int) > 0)) && (decide ((Int.tmod q 10 : Int) = 0))) (by kernel_rfl) (conj1 (show (decide ((k : Int) > 0)) = true → 10 ≠ (0 : Int) from (by intros; first | omega | decide | exact inR_of (by omega) (by omega) | exact ⟨by omega, inR_of (by omega) (by omega)⟩ | exact ⟨by omega, by show _ < ((7 : Nat) : Int); omega⟩ | (simp only [e0]; first | exact inR_of (by omega) (by omega) | exact ⟨hmo.1, inR_of (by omega) (by omega)⟩ | omega)))) (fun hc8 => ?_) (fun hc8 => ?_)
   ·(try simp only [blS] at hc8)
    refine zD hG [] (Int.tdiv q 10, k - 1) (by kernel_rfl) (conjC (show 10 ≠ (0 : Int) ∧ inR (Int.tdiv q 10) from (by intros; first | omega | decide | exact inR_of (by omega) (by omega) | exact ⟨by omega, inR_of (by omega) (by omega)⟩ | exact ⟨by omega, by show _ < ((7 : Nat) : Int); omega⟩ | (simp only [e0]; first | exact inR_of (by omega) (by omega) | exact ⟨hmo.1, inR_of (by omega) (by omega)⟩ | omega))) (conj1 (show inR (k - 1) from (by intros; first | omega | decide | exact inR_of (by omega) (by omega) | exact ⟨by omega, inR_of (by omega) (by omega)⟩ | exact ⟨by omega, by show _ < ((7 : Nat) : Int); omega⟩ | (simp only [e0]; first | exact inR_of (by omega) (by omega) | exact ⟨hmo.1, inR_of (by omega) (by omega)⟩ | omega))))) ?_ ?_
    ·(try dsimp only); omega
    ·obtain ⟨s1, s2, s3, s4, s5⟩ := j_step hk0 hk6 hq hq1 hq2 (by omega) (by omega)
     exact ⟨s1, s2, s3, s4, s5, hj, hsg, hw1, hw2⟩
   ·(try simp only [blS] at hc8)
    refine zE hG [] (.exit 0) (⟨[(0, [], .c (.d (.i ((w + (Int.tdiv p 1000000)) - 1)))), (1, [], .c (.d (.i q))), (4, [], .c (.bx 100 0)), (5, [], .c (.d (.b false))), (6, [], .c (.d (.i k)))], [(100, .box 38 [.d (.i 0), .d (.i 0)])]⟩) (by kernel_rfl) conj0 rfl ?_
    refine zc hG [(13, 2, .elem [.i (tensL.getD (0 + (k : Int).toNat * 1) 0)])] [1, 0, 1, 1, 1, 1, 1, 1, 1, 1] ((decide (((w + (Int.tdiv p 1000000)) - 1 : Int) < (IntKind.wrap .i64 (0 - (Int.tdiv 1000000000000000 (tensL.getD (0 + (k : Int).toNat * 1) 0)))))) || (decide (((w + (Int.tdiv p 1000000)) - 1 : Int) > (Int.tdiv 1000000000000000 (tensL.getD (0 + (k : Int).toNat * 1) 0))))) (by kernel_rfl) (conjC (show (0 : Int) ≤ k ∧ k < ((7 : Nat) : Int) from (by intros; first | omega | decide | exact inR_of (by omega) (by omega) | exact ⟨by omega, inR_of (by omega) (by omega)⟩ | exact ⟨by omega, by show _ < ((7 : Nat) : Int); omega⟩ | (simp only [e0]; first | exact inR_of (by omega) (by omega) | exact ⟨hmo.1, inR_of (by omega) (by omega)⟩ | omega))) (conjC (show (tensL.map (Value.int .i64) : List Value)[0 + (k : Int).toNat * 1]? = some (.int .i64 (tensL.getD (0 + (k : Int).toNat * 1) 0)) from (by intros; exact map_nat 0 (by show _ < 7; omega))) (conj1 (show (tensL.getD (0 + (k : Int).toNat * 1) 0) ≠ (0 : Int) ∧ inR (Int.tdiv 1000000000000000 (tensL.getD (0 + (k : Int).toNat * 1) 0)) from (by intros; first | omega | decide | exact inR_of (by omega) (by omega) | exact ⟨by omega, inR_of (by omega) (by omega)⟩ | exact ⟨by omega, by show _ < ((7 : Nat) : Int); omega⟩ | (simp only [e0]; first | exact inR_of (by omega) (by omega) | exact ⟨hmo.1, inR_of (by omega) (by omega)⟩ | omega)))))) (fun hc9 => ?_) (fun hc9 => ?_)
    ·(try simp only [blS] at hc9)
     simp only [e0, hwr] at hc9
     refine zR hG [] [] (.tup [(true, [.d (.i 0), .d (.i 0)]), (false, [.d (.b false)])]) [] (by kernel_rfl) conj0 ?_ ?_
     ·obtain ⟨g1, g2, g3⟩ := j_end hk0 hk6 hq hq1 hq2 (by omega) hsg
      obtain ⟨rfl, rfl, rfl⟩ := j_no hj hk0 hk6 g2 g1 (g3 hc9)
      rfl
     ·rfl
    ·(try simp only [blS] at hc9)
     simp only [e0, hwr] at hc9
     have hww := hws (by omega)
     refine zC hG [(16, 3, .elem [.i (tensL.getD (0 + (k : Int).toNat * 1) 0)]), (17, 1, .call (.c (.d (.b (decide ((-1000000000000000 : Int) ≤ ((((w + (Int.tdiv p 1000000)) - 1) * (tensL.getD (0 + (k : Int).toNat * 1) 0)) + q)) && decide (((((w + (Int.tdiv p 1000000)) - 1) * (tensL.getD (0 + (k : Int).toNat * 1) 0)) + q) ≤ (1000000000000000 : Int)))))) [] [])] [1, 0, 1, 1, 1, 1, 1, 1, 1, 1, 1, 1] (!(decide ((-1000000000000000 : Int) ≤ ((((w + (Int.tdiv p 1000000)) - 1) * (tensL.getD (0 + (k : Int).toNat * 1) 0)) + q)) && decide (((((w + (Int.tdiv p 1000000)) - 1) * (tensL.getD (0 + (k : Int).toNat * 1) 0)) + q) ≤ (1000000000000000 : Int)))) (⟨[(4, [], .c (.bx 100 0)), (5, [], .c (.d (.b false))), (6, [], .c (.d (.i k))), (8, [], .c (.d (.i ((((w + (Int.tdiv p 1000000)) - 1) * (tensL.getD (0 + (k : Int).toNat * 1) 0)) + q))))], [(100, .box 38 [.d (.i 0), .d (.i 0)])]⟩) (by kernel_rfl) (conjC (show (0 : Int) ≤ k ∧ k < ((7 : Nat) : Int) from (by intros; first | omega | decide | exact inR_of (by omega) (by omega) | exact ⟨by omega, inR_of (by omega) (by omega)⟩ | exact ⟨by omega, by show _ < ((7 : Nat) : Int); omega⟩ | (simp only [e0]; first | exact inR_of (by omega) (by omega) | exact ⟨hmo.1, inR_of (by omega) (by omega)⟩ | omega))) (conjC (show (tensL.map (Value.int .i64) : List Value)[0 + (k : Int).toNat * 1]? = some (.int .i64 (tensL.getD (0 + (k : Int).toNat * 1) 0)) from (by intros; exact map_nat 0 (by show _ < 7; omega))) (conjC (show inR (((w + (Int.tdiv p 1000000)) - 1) * (tensL.getD (0 + (k : Int).toNat * 1) 0)) from (by intros; first | omega | decide | exact inR_of (by omega) (by omega) | exact ⟨by omega, inR_of (by omega) (by omega)⟩ | exact ⟨by omega, by show _ < ((7 : Nat) : Int); omega⟩ | (simp only [e0]; first | exact inR_of (by omega) (by omega) | exact ⟨hmo.1, inR_of (by omega) (by omega)⟩ | omega))) (conjC (show inR ((((w + (Int.tdiv p 1000000)) - 1) * (tensL.getD (0 + (k : Int).toNat * 1) 0)) + q) from (by intros; first | omega | decide | exact inR_of (by omega) (by omega) | exact ⟨by omega, inR_of (by omega) (by omega)⟩ | exact ⟨by omega, by show _ < ((7 : Nat) : Int); omega⟩ | (simp only [e0]; first | exact inR_of (by omega) (by omega) | exact ⟨hmo.1, inR_of (by omega) (by omega)⟩ | omega))) (conj1 ((within_any ((((w + (Int.tdiv p 1000000)) - 1) * (tensL.getD (0 + (k : Int).toNat * 1) 0)) + q) : SpG (gT m) _ _ _ _ _))))))) (fun hc10 => ?_) (fun hc10 => ?_)
     ·(try simp only [blS] at hc10)
      simp only [e0] at hc10
      refine zR hG [] [] (.tup [(true, [.d (.i 0), .d (.i 0)]), (false, [.d (.b false)])]) [] (by kernel_rfl) conj0 ?_ ?_
      ·obtain ⟨g1, g2, g3⟩ := j_end hk0 hk6 hq hq1 hq2 (by omega) hsg
       obtain ⟨rfl, rfl, rfl⟩ := j_no hj hk0 hk6 g2 g1 (by omega)
       rfl
      ·rfl
     ·(try simp only [blS] at hc10)
      simp only [e0] at hc10
      refine zR hG [] [] (.tup [(true, [.d (.i ((((w + (Int.tdiv p 1000000)) - 1) * (tensL.getD (0 + (k : Int).toNat * 1) 0)) + q)), .d (.i k)]), (false, [.d (.b true)])]) [] (by kernel_rfl) conj0 ?_ ?_
      ·obtain ⟨g1, g2, g3⟩ := j_end hk0 hk6 hq hq1 hq2 (by omega) hsg
       simp only [e0]
       obtain ⟨rfl, rfl, rfl⟩ := j_yes hj (decB_of hk0 hk6 g2 (by omega) (by omega)) g1
       rfl
      ·rfl
 ·(try simp only [blS] at hc1)
  refine zc hG [] [1, 0, 1, 1, 1, 1] ((decide ((w + (Int.tdiv p 1000000) : Int) < 0)) && (decide ((Int.tmod p 1000000 : Int) > 0))) (by kernel_rfl) conj0 (fun hc11 => ?_) (fun hc11 => ?_)
  ·(try simp only [blS] at hc11)
   refine zL hG [] [0, 0, 1, 1, 1, 1, 1, 1] (fun (zz : Int × Int) => match zz with | (q, k) => (k.toNat, ⟨[(0, [], .c (.d (.i ((w + (Int.tdiv p 1000000)) + 1)))), (1, [], .c (.d (.i q))), (4, [], .c (.bx 100 0)), (5, [], .c (.d (.b false))), (6, [], .c (.d (.i k)))], [(100, .box 38 [.d (.i 0), .d (.i 0)])]⟩, 0 ≤ k ∧ k ≤ 6 ∧ decV q k = ((Int.tmod p 1000000) - 1000000) ∧ -tenD k < q ∧ q < tenD k ∧ isJ (1000000 * ((w + (Int.tdiv p 1000000)) + 1) + ((Int.tmod p 1000000) - 1000000)) rn rs rb ∧ ((0 ≤ ((w + (Int.tdiv p 1000000)) + 1 : Int) ∧ 0 ≤ ((Int.tmod p 1000000) - 1000000)) ∨ (((w + (Int.tdiv p 1000000)) + 1 : Int) ≤ 0 ∧ ((Int.tmod p 1000000) - 1000000) ≤ 0)) ∧ -5000000000000000 ≤ ((w + (Int.tdiv p 1000000)) + 1 : Int) ∧ ((w + (Int.tdiv p 1000000)) + 1 : Int) ≤ 5000000000000000)) ((Int.tmod p 1000000) - 1000000, 6) (by kernel_rfl) (conjC (show inR ((w + (Int.tdiv p 1000000)) + 1) from (by intros; first | omega | decide | exact inR_of (by omega) (by omega) | exact ⟨by omega, inR_of (by omega) (by omega)⟩ | exact ⟨by omega, by show _ < ((7 : Nat) : Int); omega⟩ | (simp only [e0]; first | exact inR_of (by omega) (by omega) | exact ⟨hmo.1, inR_of (by omega) (by omega)⟩ | omega))) (conj1 (show inR ((Int.tmod p 1000000) - 1000000) from (by intros; first | omega | decide | exact inR_of (by omega) (by omega) | exact ⟨by omega, inR_of (by omega) (by omega)⟩ | exact ⟨by omega, by show _ < ((7 : Nat) : Int); omega⟩ | (simp only [e0]; first | exact inR_of (by omega) (by omega) | exact ⟨hmo.1, inR_of (by omega) (by omega)⟩ | omega))))) (by kernel_rfl) ?_ ?_
   ·refine ⟨by decide, by decide, Int.mul_one _, by rw [tn6]; omega, by rw [tn6]; omega, ?_, by omega, by omega, by omega⟩
    rw [show 1000000 * ((w + (Int.tdiv p 1000000)) + 1) + ((Int.tmod p 1000000) - 1000000) = 1000000 * w + p by omega]; exact h
   rintro ⟨q, k⟩ ⟨hk0, hk6, hq, hq1, hq2, hj, hsg, hw1, hw2⟩
   have hmo := most_of hk0 hk6
   have e0 := ten_at hk0 hk6
   have htd := td10 q
   have hten := tenD_div hk0 hk6
   have hws := fun a => W_small (W := (w + (Int.tdiv p 1000000)) + 1) (q := q) hk0 hk6 a
   have htl := tdiv_le q (by omega)
   have hwr := neg_wrap (x := Int.tdiv 1000000000000000 (tenD k)) (by omega) (by omega)
   refine zc hG [] [1, 0] ((decide ((k : Int) > 0)) && (decide ((Int.tmod q 10 : Int) = 0))) (by kernel_rfl) (conj1 (show (decide ((k : Int) > 0)) = true → 10 ≠ (0 : Int) from (by intros; first | omega | decide | exact inR_of (by omega) (by omega) | exact ⟨by omega, inR_of (by omega) (by omega)⟩ | exact ⟨by omega, by show _ < ((7 : Nat) : Int); omega⟩ | (simp only [e0]; first | exact inR_of (by omega) (by omega) | exact ⟨hmo.1, inR_of (by omega) (by omega)⟩ | omega)))) (fun hc13 => ?_) (fun hc13 => ?_)
   ·(try simp only [blS] at hc13)
    refine zD hG [] (Int.tdiv q 10, k - 1) (by kernel_rfl) (conjC (show 10 ≠ (0 : Int) ∧ inR (Int.tdiv q 10) from (by intros; first | omega | decide | exact inR_of (by omega) (by omega) | exact ⟨by omega, inR_of (by omega) (by omega)⟩ | exact ⟨by omega, by show _ < ((7 : Nat) : Int); omega⟩ | (simp only [e0]; first | exact inR_of (by omega) (by omega) | exact ⟨hmo.1, inR_of (by omega) (by omega)⟩ | omega))) (conj1 (show inR (k - 1) from (by intros; first | omega | decide | exact inR_of (by omega) (by omega) | exact ⟨by omega, inR_of (by omega) (by omega)⟩ | exact ⟨by omega, by show _ < ((7 : Nat) : Int); omega⟩ | (simp only [e0]; first | exact inR_of (by omega) (by omega) | exact ⟨hmo.1, inR_of (by omega) (by omega)⟩ | omega))))) ?_ ?_
    ·(try dsimp only); omega
    ·obtain ⟨s1, s2, s3, s4, s5⟩ := j_step hk0 hk6 hq hq1 hq2 (by omega) (by omega)
     exact ⟨s1, s2, s3, s4, s5, hj, hsg, hw1, hw2⟩
   ·(try simp only [blS] at hc13)
    refine zE hG [] (.exit 0) (⟨[(0, [], .c (.d (.i ((w + (Int.tdiv p 1000000)) + 1)))), (1, [], .c (.d (.i q))), (4, [], .c (.bx 100 0)), (5, [], .c (.d (.b false))), (6, [], .c (.d (.i k)))], [(100, .box 38 [.d (.i 0), .d (.i 0)])]⟩) (by kernel_rfl) conj0 rfl ?_
    refine zc hG [(13, 2, .elem [.i (tensL.getD (0 + (k : Int).toNat * 1) 0)])] [1, 0, 1, 1, 1, 1, 1, 1, 1, 1] ((decide (((w + (Int.tdiv p 1000000)) + 1 : Int) < (IntKind.wrap .i64 (0 - (Int.tdiv 1000000000000000 (tensL.getD (0 + (k : Int).toNat * 1) 0)))))) || (decide (((w + (Int.tdiv p 1000000)) + 1 : Int) > (Int.tdiv 1000000000000000 (tensL.getD (0 + (k : Int).toNat * 1) 0))))) (by kernel_rfl) (conjC (show (0 : Int) ≤ k ∧ k < ((7 : Nat) : Int) from (by intros; first | omega | decide | exact inR_of (by omega) (by omega) | exact ⟨by omega, inR_of (by omega) (by omega)⟩ | exact ⟨by omega, by show _ < ((7 : Nat) : Int); omega⟩ | (simp only [e0]; first | exact inR_of (by omega) (by omega) | exact ⟨hmo.1, inR_of (by omega) (by omega)⟩ | omega))) (conjC (show (tensL.map (Value.int .i64) : List Value)[0 + (k : Int).toNat * 1]? = some (.int .i64 (tensL.getD (0 + (k : Int).toNat * 1) 0)) from (by intros; exact map_nat 0 (by show _ < 7; omega))) (conj1 (show (tensL.getD (0 + (k : Int).toNat * 1) 0) ≠ (0 : Int) ∧ inR (Int.tdiv 1000000000000000 (tensL.getD (0 + (k : Int).toNat * 1) 0)) from (by intros; first | omega | decide | exact inR_of (by omega) (by omega) | exact ⟨by omega, inR_of (by omega) (by omega)⟩ | exact ⟨by omega, by show _ < ((7 : Nat) : Int); omega⟩ | (simp only [e0]; first | exact inR_of (by omega) (by omega) | exact ⟨hmo.1, inR_of (by omega) (by omega)⟩ | omega)))))) (fun hc14 => ?_) (fun hc14 => ?_)
    ·(try simp only [blS] at hc14)
     simp only [e0, hwr] at hc14
     refine zR hG [] [] (.tup [(true, [.d (.i 0), .d (.i 0)]), (false, [.d (.b false)])]) [] (by kernel_rfl) conj0 ?_ ?_
     ·obtain ⟨g1, g2, g3⟩ := j_end hk0 hk6 hq hq1 hq2 (by omega) hsg
      obtain ⟨rfl, rfl, rfl⟩ := j_no hj hk0 hk6 g2 g1 (g3 hc14)
      rfl
     ·rfl
    ·(try simp only [blS] at hc14)
     simp only [e0, hwr] at hc14
     have hww := hws (by omega)
     refine zC hG [(16, 3, .elem [.i (tensL.getD (0 + (k : Int).toNat * 1) 0)]), (17, 1, .call (.c (.d (.b (decide ((-1000000000000000 : Int) ≤ ((((w + (Int.tdiv p 1000000)) + 1) * (tensL.getD (0 + (k : Int).toNat * 1) 0)) + q)) && decide (((((w + (Int.tdiv p 1000000)) + 1) * (tensL.getD (0 + (k : Int).toNat * 1) 0)) + q) ≤ (1000000000000000 : Int)))))) [] [])] [1, 0, 1, 1, 1, 1, 1, 1, 1, 1, 1, 1] (!(decide ((-1000000000000000 : Int) ≤ ((((w + (Int.tdiv p 1000000)) + 1) * (tensL.getD (0 + (k : Int).toNat * 1) 0)) + q)) && decide (((((w + (Int.tdiv p 1000000)) + 1) * (tensL.getD (0 + (k : Int).toNat * 1) 0)) + q) ≤ (1000000000000000 : Int)))) (⟨[(4, [], .c (.bx 100 0)), (5, [], .c (.d (.b false))), (6, [], .c (.d (.i k))), (8, [], .c (.d (.i ((((w + (Int.tdiv p 1000000)) + 1) * (tensL.getD (0 + (k : Int).toNat * 1) 0)) + q))))], [(100, .box 38 [.d (.i 0), .d (.i 0)])]⟩) (by kernel_rfl) (conjC (show (0 : Int) ≤ k ∧ k < ((7 : Nat) : Int) from (by intros; first | omega | decide | exact inR_of (by omega) (by omega) | exact ⟨by omega, inR_of (by omega) (by omega)⟩ | exact ⟨by omega, by show _ < ((7 : Nat) : Int); omega⟩ | (simp only [e0]; first | exact inR_of (by omega) (by omega) | exact ⟨hmo.1, inR_of (by omega) (by omega)⟩ | omega))) (conjC (show (tensL.map (Value.int .i64) : List Value)[0 + (k : Int).toNat * 1]? = some (.int .i64 (tensL.getD (0 + (k : Int).toNat * 1) 0)) from (by intros; exact map_nat 0 (by show _ < 7; omega))) (conjC (show inR (((w + (Int.tdiv p 1000000)) + 1) * (tensL.getD (0 + (k : Int).toNat * 1) 0)) from (by intros; first | omega | decide | exact inR_of (by omega) (by omega) | exact ⟨by omega, inR_of (by omega) (by omega)⟩ | exact ⟨by omega, by show _ < ((7 : Nat) : Int); omega⟩ | (simp only [e0]; first | exact inR_of (by omega) (by omega) | exact ⟨hmo.1, inR_of (by omega) (by omega)⟩ | omega))) (conjC (show inR ((((w + (Int.tdiv p 1000000)) + 1) * (tensL.getD (0 + (k : Int).toNat * 1) 0)) + q) from (by intros; first | omega | decide | exact inR_of (by omega) (by omega) | exact ⟨by omega, inR_of (by omega) (by omega)⟩ | exact ⟨by omega, by show _ < ((7 : Nat) : Int); omega⟩ | (simp only [e0]; first | exact inR_of (by omega) (by omega) | exact ⟨hmo.1, inR_of (by omega) (by omega)⟩ | omega))) (conj1 ((within_any ((((w + (Int.tdiv p 1000000)) + 1) * (tensL.getD (0 + (k : Int).toNat * 1) 0)) + q) : SpG (gT m) _ _ _ _ _))))))) (fun hc15 => ?_) (fun hc15 => ?_)
     ·(try simp only [blS] at hc15)
      simp only [e0] at hc15
      refine zR hG [] [] (.tup [(true, [.d (.i 0), .d (.i 0)]), (false, [.d (.b false)])]) [] (by kernel_rfl) conj0 ?_ ?_
      ·obtain ⟨g1, g2, g3⟩ := j_end hk0 hk6 hq hq1 hq2 (by omega) hsg
       obtain ⟨rfl, rfl, rfl⟩ := j_no hj hk0 hk6 g2 g1 (by omega)
       rfl
      ·rfl
     ·(try simp only [blS] at hc15)
      simp only [e0] at hc15
      refine zR hG [] [] (.tup [(true, [.d (.i ((((w + (Int.tdiv p 1000000)) + 1) * (tensL.getD (0 + (k : Int).toNat * 1) 0)) + q)), .d (.i k)]), (false, [.d (.b true)])]) [] (by kernel_rfl) conj0 ?_ ?_
      ·obtain ⟨g1, g2, g3⟩ := j_end hk0 hk6 hq hq1 hq2 (by omega) hsg
       simp only [e0]
       obtain ⟨rfl, rfl, rfl⟩ := j_yes hj (decB_of hk0 hk6 g2 (by omega) (by omega)) g1
       rfl
      ·rfl
  ·(try simp only [blS] at hc11)
   refine zL hG [] [0, 0, 1, 1, 1, 1, 1, 1] (fun (zz : Int × Int) => match zz with | (q, k) => (k.toNat, ⟨[(0, [], .c (.d (.i (w + (Int.tdiv p 1000000))))), (1, [], .c (.d (.i q))), (4, [], .c (.bx 100 0)), (5, [], .c (.d (.b false))), (6, [], .c (.d (.i k)))], [(100, .box 38 [.d (.i 0), .d (.i 0)])]⟩, 0 ≤ k ∧ k ≤ 6 ∧ decV q k = (Int.tmod p 1000000) ∧ -tenD k < q ∧ q < tenD k ∧ isJ (1000000 * (w + (Int.tdiv p 1000000)) + (Int.tmod p 1000000)) rn rs rb ∧ ((0 ≤ (w + (Int.tdiv p 1000000) : Int) ∧ 0 ≤ (Int.tmod p 1000000)) ∨ ((w + (Int.tdiv p 1000000) : Int) ≤ 0 ∧ (Int.tmod p 1000000) ≤ 0)) ∧ -5000000000000000 ≤ (w + (Int.tdiv p 1000000) : Int) ∧ (w + (Int.tdiv p 1000000) : Int) ≤ 5000000000000000)) (Int.tmod p 1000000, 6) (by kernel_rfl) conj0 (by kernel_rfl) ?_ ?_
   ·refine ⟨by decide, by decide, Int.mul_one _, by rw [tn6]; omega, by rw [tn6]; omega, ?_, by omega, by omega, by omega⟩
    rw [show 1000000 * (w + (Int.tdiv p 1000000)) + (Int.tmod p 1000000) = 1000000 * w + p by omega]; exact h
   rintro ⟨q, k⟩ ⟨hk0, hk6, hq, hq1, hq2, hj, hsg, hw1, hw2⟩
   have hmo := most_of hk0 hk6
   have e0 := ten_at hk0 hk6
   have htd := td10 q
   have hten := tenD_div hk0 hk6
   have hws := fun a => W_small (W := w + (Int.tdiv p 1000000)) (q := q) hk0 hk6 a
   have htl := tdiv_le q (by omega)
   have hwr := neg_wrap (x := Int.tdiv 1000000000000000 (tenD k)) (by omega) (by omega)
   refine zc hG [] [1, 0] ((decide ((k : Int) > 0)) && (decide ((Int.tmod q 10 : Int) = 0))) (by kernel_rfl) (conj1 (show (decide ((k : Int) > 0)) = true → 10 ≠ (0 : Int) from (by intros; first | omega | decide | exact inR_of (by omega) (by omega) | exact ⟨by omega, inR_of (by omega) (by omega)⟩ | exact ⟨by omega, by show _ < ((7 : Nat) : Int); omega⟩ | (simp only [e0]; first | exact inR_of (by omega) (by omega) | exact ⟨hmo.1, inR_of (by omega) (by omega)⟩ | omega)))) (fun hc17 => ?_) (fun hc17 => ?_)
   ·(try simp only [blS] at hc17)
    refine zD hG [] (Int.tdiv q 10, k - 1) (by kernel_rfl) (conjC (show 10 ≠ (0 : Int) ∧ inR (Int.tdiv q 10) from (by intros; first | omega | decide | exact inR_of (by omega) (by omega) | exact ⟨by omega, inR_of (by omega) (by omega)⟩ | exact ⟨by omega, by show _ < ((7 : Nat) : Int); omega⟩ | (simp only [e0]; first | exact inR_of (by omega) (by omega) | exact ⟨hmo.1, inR_of (by omega) (by omega)⟩ | omega))) (conj1 (show inR (k - 1) from (by intros; first | omega | decide | exact inR_of (by omega) (by omega) | exact ⟨by omega, inR_of (by omega) (by omega)⟩ | exact ⟨by omega, by show _ < ((7 : Nat) : Int); omega⟩ | (simp only [e0]; first | exact inR_of (by omega) (by omega) | exact ⟨hmo.1, inR_of (by omega) (by omega)⟩ | omega))))) ?_ ?_
    ·(try dsimp only); omega
    ·obtain ⟨s1, s2, s3, s4, s5⟩ := j_step hk0 hk6 hq hq1 hq2 (by omega) (by omega)
     exact ⟨s1, s2, s3, s4, s5, hj, hsg, hw1, hw2⟩
   ·(try simp only [blS] at hc17)
    refine zE hG [] (.exit 0) (⟨[(0, [], .c (.d (.i (w + (Int.tdiv p 1000000))))), (1, [], .c (.d (.i q))), (4, [], .c (.bx 100 0)), (5, [], .c (.d (.b false))), (6, [], .c (.d (.i k)))], [(100, .box 38 [.d (.i 0), .d (.i 0)])]⟩) (by kernel_rfl) conj0 rfl ?_
    refine zc hG [(13, 2, .elem [.i (tensL.getD (0 + (k : Int).toNat * 1) 0)])] [1, 0, 1, 1, 1, 1, 1, 1, 1, 1] ((decide ((w + (Int.tdiv p 1000000) : Int) < (IntKind.wrap .i64 (0 - (Int.tdiv 1000000000000000 (tensL.getD (0 + (k : Int).toNat * 1) 0)))))) || (decide ((w + (Int.tdiv p 1000000) : Int) > (Int.tdiv 1000000000000000 (tensL.getD (0 + (k : Int).toNat * 1) 0))))) (by kernel_rfl) (conjC (show (0 : Int) ≤ k ∧ k < ((7 : Nat) : Int) from (by intros; first | omega | decide | exact inR_of (by omega) (by omega) | exact ⟨by omega, inR_of (by omega) (by omega)⟩ | exact ⟨by omega, by show _ < ((7 : Nat) : Int); omega⟩ | (simp only [e0]; first | exact inR_of (by omega) (by omega) | exact ⟨hmo.1, inR_of (by omega) (by omega)⟩ | omega))) (conjC (show (tensL.map (Value.int .i64) : List Value)[0 + (k : Int).toNat * 1]? = some (.int .i64 (tensL.getD (0 + (k : Int).toNat * 1) 0)) from (by intros; exact map_nat 0 (by show _ < 7; omega))) (conj1 (show (tensL.getD (0 + (k : Int).toNat * 1) 0) ≠ (0 : Int) ∧ inR (Int.tdiv 1000000000000000 (tensL.getD (0 + (k : Int).toNat * 1) 0)) from (by intros; first | omega | decide | exact inR_of (by omega) (by omega) | exact ⟨by omega, inR_of (by omega) (by omega)⟩ | exact ⟨by omega, by show _ < ((7 : Nat) : Int); omega⟩ | (simp only [e0]; first | exact inR_of (by omega) (by omega) | exact ⟨hmo.1, inR_of (by omega) (by omega)⟩ | omega)))))) (fun hc18 => ?_) (fun hc18 => ?_)
    ·(try simp only [blS] at hc18)
     simp only [e0, hwr] at hc18
     refine zR hG [] [] (.tup [(true, [.d (.i 0), .d (.i 0)]), (false, [.d (.b false)])]) [] (by kernel_rfl) conj0 ?_ ?_
     ·obtain ⟨g1, g2, g3⟩ := j_end hk0 hk6 hq hq1 hq2 (by omega) hsg
      obtain ⟨rfl, rfl, rfl⟩ := j_no hj hk0 hk6 g2 g1 (g3 hc18)
      rfl
     ·rfl
    ·(try simp only [blS] at hc18)
     simp only [e0, hwr] at hc18
     have hww := hws (by omega)
     refine zC hG [(16, 3, .elem [.i (tensL.getD (0 + (k : Int).toNat * 1) 0)]), (17, 1, .call (.c (.d (.b (decide ((-1000000000000000 : Int) ≤ (((w + (Int.tdiv p 1000000)) * (tensL.getD (0 + (k : Int).toNat * 1) 0)) + q)) && decide ((((w + (Int.tdiv p 1000000)) * (tensL.getD (0 + (k : Int).toNat * 1) 0)) + q) ≤ (1000000000000000 : Int)))))) [] [])] [1, 0, 1, 1, 1, 1, 1, 1, 1, 1, 1, 1] (!(decide ((-1000000000000000 : Int) ≤ (((w + (Int.tdiv p 1000000)) * (tensL.getD (0 + (k : Int).toNat * 1) 0)) + q)) && decide ((((w + (Int.tdiv p 1000000)) * (tensL.getD (0 + (k : Int).toNat * 1) 0)) + q) ≤ (1000000000000000 : Int)))) (⟨[(4, [], .c (.bx 100 0)), (5, [], .c (.d (.b false))), (6, [], .c (.d (.i k))), (8, [], .c (.d (.i (((w + (Int.tdiv p 1000000)) * (tensL.getD (0 + (k : Int).toNat * 1) 0)) + q))))], [(100, .box 38 [.d (.i 0), .d (.i 0)])]⟩) (by kernel_rfl) (conjC (show (0 : Int) ≤ k ∧ k < ((7 : Nat) : Int) from (by intros; first | omega | decide | exact inR_of (by omega) (by omega) | exact ⟨by omega, inR_of (by omega) (by omega)⟩ | exact ⟨by omega, by show _ < ((7 : Nat) : Int); omega⟩ | (simp only [e0]; first | exact inR_of (by omega) (by omega) | exact ⟨hmo.1, inR_of (by omega) (by omega)⟩ | omega))) (conjC (show (tensL.map (Value.int .i64) : List Value)[0 + (k : Int).toNat * 1]? = some (.int .i64 (tensL.getD (0 + (k : Int).toNat * 1) 0)) from (by intros; exact map_nat 0 (by show _ < 7; omega))) (conjC (show inR ((w + (Int.tdiv p 1000000)) * (tensL.getD (0 + (k : Int).toNat * 1) 0)) from (by intros; first | omega | decide | exact inR_of (by omega) (by omega) | exact ⟨by omega, inR_of (by omega) (by omega)⟩ | exact ⟨by omega, by show _ < ((7 : Nat) : Int); omega⟩ | (simp only [e0]; first | exact inR_of (by omega) (by omega) | exact ⟨hmo.1, inR_of (by omega) (by omega)⟩ | omega))) (conjC (show inR (((w + (Int.tdiv p 1000000)) * (tensL.getD (0 + (k : Int).toNat * 1) 0)) + q) from (by intros; first | omega | decide | exact inR_of (by omega) (by omega) | exact ⟨by omega, inR_of (by omega) (by omega)⟩ | exact ⟨by omega, by show _ < ((7 : Nat) : Int); omega⟩ | (simp only [e0]; first | exact inR_of (by omega) (by omega) | exact ⟨hmo.1, inR_of (by omega) (by omega)⟩ | omega))) (conj1 ((within_any (((w + (Int.tdiv p 1000000)) * (tensL.getD (0 + (k : Int).toNat * 1) 0)) + q) : SpG (gT m) _ _ _ _ _))))))) (fun hc19 => ?_) (fun hc19 => ?_)
     ·(try simp only [blS] at hc19)
      simp only [e0] at hc19
      refine zR hG [] [] (.tup [(true, [.d (.i 0), .d (.i 0)]), (false, [.d (.b false)])]) [] (by kernel_rfl) conj0 ?_ ?_
      ·obtain ⟨g1, g2, g3⟩ := j_end hk0 hk6 hq hq1 hq2 (by omega) hsg
       obtain ⟨rfl, rfl, rfl⟩ := j_no hj hk0 hk6 g2 g1 (by omega)
       rfl
      ·rfl
     ·(try simp only [blS] at hc19)
      simp only [e0] at hc19
      refine zR hG [] [] (.tup [(true, [.d (.i (((w + (Int.tdiv p 1000000)) * (tensL.getD (0 + (k : Int).toNat * 1) 0)) + q)), .d (.i k)]), (false, [.d (.b true)])]) [] (by kernel_rfl) conj0 ?_ ?_
      ·obtain ⟨g1, g2, g3⟩ := j_end hk0 hk6 hq hq1 hq2 (by omega) hsg
       simp only [e0]
       obtain ⟨rfl, rfl, rfl⟩ := j_yes hj (decB_of hk0 hk6 g2 (by omega) (by omega)) g1
       rfl
      ·rfl
theorem decAdd_ok (a b c d rn rs : Int) (rb : Bool) (h1 : decB a b = true) (h2 : decB c d = true) (h : isJ (decV a b + decV c d) rn rs rb) :
  SpG (gT m) 204 [.agg [.d (.i a), .d (.i b)], .agg [.d (.i c), .d (.i d)]] [] (.tup [(true, [.d (.i rn), .d (.i rs)]), (false, [.d (.b rb)])]) [] := by
 have s1 := sp_small h1
 have s2 := sp_small h2
 refine enterB 29 Tryz.func204 (by kernel_rfl) fun fr hG => ?_
 exact zr hG [(1, 1, .call (.tup [(false, [.d (.i (spW a b))]), (false, [.d (.i (spP a b))])]) [] []), (2, 1, .call (.tup [(false, [.d (.i (spW c d))]), (false, [.d (.i (spP c d))])]) [] []), (3, 6, .call (.tup [(true, [.d (.i rn), .d (.i rs)]), (false, [.d (.b rb)])]) [] [])] [] (by kernel_rfl) (conjC ((split_ok a b (by assumption) : SpG (gT m) _ _ _ _ _)) (conjC ((split_ok c d (by assumption) : SpG (gT m) _ _ _ _ _)) (conjC (show inR ((spW a b) + (spW c d)) from (by intros; first | omega | decide | exact inR_of (by omega) (by omega))) (conjC (show inR ((spP a b) + (spP c d)) from (by intros; first | omega | decide | exact inR_of (by omega) (by omega))) (conj1 ((decJoin_ok ((spW a b) + (spW c d)) ((spP a b) + (spP c d)) rn rs rb (by omega) (by omega) (by rw [show 1000000 * ((spW a b) + (spW c d)) + ((spP a b) + (spP c d)) = decV a b + decV c d by omega]; exact h) : SpG (gT m) _ _ _ _ _)))))))
theorem decSub_ok (a b c d rn rs : Int) (rb : Bool) (h1 : decB a b = true) (h2 : decB c d = true) (h : isJ (decV a b - decV c d) rn rs rb) :
  SpG (gT m) 205 [.agg [.d (.i a), .d (.i b)], .agg [.d (.i c), .d (.i d)]] [] (.tup [(true, [.d (.i rn), .d (.i rs)]), (false, [.d (.b rb)])]) [] := by
 have s1 := sp_small h1
 have s2 := sp_small h2
 refine enterB 29 Tryz.func205 (by kernel_rfl) fun fr hG => ?_
 exact zr hG [(1, 1, .call (.tup [(false, [.d (.i (spW a b))]), (false, [.d (.i (spP a b))])]) [] []), (2, 1, .call (.tup [(false, [.d (.i (spW c d))]), (false, [.d (.i (spP c d))])]) [] []), (3, 6, .call (.tup [(true, [.d (.i rn), .d (.i rs)]), (false, [.d (.b rb)])]) [] [])] [] (by kernel_rfl) (conjC ((split_ok a b (by assumption) : SpG (gT m) _ _ _ _ _)) (conjC ((split_ok c d (by assumption) : SpG (gT m) _ _ _ _ _)) (conjC (show inR ((spW a b) - (spW c d)) from (by intros; first | omega | decide | exact inR_of (by omega) (by omega))) (conjC (show inR ((spP a b) - (spP c d)) from (by intros; first | omega | decide | exact inR_of (by omega) (by omega))) (conj1 ((decJoin_ok ((spW a b) - (spW c d)) ((spP a b) - (spP c d)) rn rs rb (by omega) (by omega) (by rw [show 1000000 * ((spW a b) - (spW c d)) + ((spP a b) - (spP c d)) = decV a b - decV c d by omega]; exact h) : SpG (gT m) _ _ _ _ _)))))))
theorem dayOk_ok (n : Int) :
  SpG (gT m) 288 [.c (.d (.i n))] [] (.c (.d (.b (decide (0 ≤ n) && decide (n ≤ 3652058))))) [] := by
 refine enterB 9 Tryz.func288 (by kernel_rfl) fun fr hG => ?_
 exact zr hG [] [] (by kernel_rfl) conj0
end Go.Proofs.YtdejnaokkdndeaaGreatDoor
namespace Go.Proofs.YtdejnaokkdndeaaGreatDoor
open Go.RowKit Go.V
open Go.Eng (inR byteAt u8 bytesV)
variable {m : Int}
theorem fit_whole {n : Int} (h : -1000000000000000 ≤ n ∧ n ≤ 1000000000000000) : fitN (decide (n < 0)) n.natAbs 0 = n ∧ fitS n.natAbs 0 = 0 ∧ fitB n.natAbs 0 = true :=
 fit_self (decB_of (Int.le_refl 0) (by decide) (.inl rfl) h.1 h.2)
theorem decOf_ok (n : Int) (h : -1000000000000000 ≤ n ∧ n ≤ 1000000000000000) :
  SpG (gT m) 268 [.c (.d (.i n))] [] (.tup [(true, [.d (.i n), .d (.i 0)]), (false, [.d (.b true)])]) [] := by
 obtain ⟨e1, e2, e3⟩ := fit_whole h
 refine enterB 8 Tryz.func268 (by kernel_rfl) fun fr hG => ?_
 refine zR hG [(1, 1, .call (.tup [(true, [.d (.i (fitN (decide (n < 0)) n.natAbs 0)), .d (.i (fitS n.natAbs 0))]), (false, [.d (.b (fitB n.natAbs 0))])]) [] [])] [] (.tup [(true, [.d (.i (fitN (decide (n < 0)) n.natAbs 0)), .d (.i (fitS n.natAbs 0))]), (false, [.d (.b (fitB n.natAbs 0))])]) [] (by kernel_rfl) (conj1 ((decMake_ok n 0 (by omega) (inR_of (by omega) (by omega)) (by decide) (by decide) : SpG (gT m) _ _ _ _ _))) ?_ ?_
 ·rw [e1, e2, e3]
 ·rfl
theorem textV_ok (t : ByteArray) (h : t.size ≤ 200) :
  SpG (gT m) 188 [.c (.d (.s t))] [] (.tup [(true, [.d (.i 1), .d (.s t), .d (.i 0), .d (.i 0), .d (.i 0), .d (.nil), .d (.nil)]), (false, [.d (.i 0)])]) [] := by
 refine enterB 10 Tryz.func188 (by kernel_rfl) fun fr hG => ?_
 refine zC hG [] [1, 0, 1] (decide ((((t).size : Int) : Int) > 200)) (⟨[(0, [], .c (.d (.s t))), (2, [], .c (.bx 100 0)), (3, [], .c (.d (.i 0)))], [(100, .box 42 [.d (.i 0), .d (.s (S [])), .d (.i 0), .d (.i 0), .d (.i 0), .d (.nil), .d (.nil)])]⟩) (by kernel_rfl) conj0 (fun hc1 => ?_) (fun hc1 => ?_)
 ·(try simp only [blS] at hc1)
  exfalso; omega
 ·(try simp only [blS] at hc1)
  exact zr hG [] [] (by kernel_rfl) conj0
theorem dayAdd_ok (n k : Int) (h : 0 ≤ n ∧ n ≤ 3652058) (hk : 0 ≤ n + k ∧ n + k ≤ 3652058) :
  SpG (gT m) 211 [.c (.d (.i n)), .c (.d (.i k))] [] (.tup [(false, [.d (.i (n + k))]), (false, [.d (.b true)])]) [] := by
 have hwr : IntKind.wrap .i64 (0 - n) = -n := by rw [wrap64 (inR_of (by omega) (by omega))]; omega
 refine enterB 24 Tryz.func211 (by kernel_rfl) fun fr hG => ?_
 refine zC hG [(1, 1, .call (.c (.d (.b (decide (0 ≤ n) && decide (n ≤ 3652058))))) [] [])] [1, 0, 1] (((!(decide (0 ≤ n) && decide (n ≤ 3652058))) || (decide ((k : Int) < (IntKind.wrap .i64 (0 - n))))) || (decide ((k : Int) > (3652058 - n)))) (⟨[(0, [], .c (.d (.i n))), (1, [], .c (.d (.i k))), (4, [], .c (.d (.i 0))), (5, [], .c (.d (.b false)))], []⟩) (by kernel_rfl) (conjC ((dayOk_ok n : SpG (gT m) _ _ _ _ _)) (conj1 (show ((!(decide (0 ≤ n) && decide (n ≤ 3652058))) || (decide ((k : Int) < (IntKind.wrap .i64 (0 - n))))) = false → inR (3652058 - n) from (by intros; first | omega | decide | exact inR_of (by omega) (by omega))))) (fun hc1 => ?_) (fun hc1 => ?_)
 ·(try simp only [blS] at hc1)
  exfalso; simp only [hwr] at hc1; simp at hc1; omega
 ·(try simp only [blS] at hc1)
  exact zr hG [] [] (by kernel_rfl) (conj1 (show inR (n + k) from (by intros; first | omega | decide | exact inR_of (by omega) (by omega))))
end Go.Proofs.YtdejnaokkdndeaaGreatDoor
namespace Go.V
open Go.RowKit
def RecDoes (P : Program) (fr : Fr) (n : Nat) (ops : Array Oper) (i : Nat) (r : Rec) (envi : Env) (owni : Own) : Prop :=
 ∀ (env : Env) (own : Own) (a : Act) (w : World) (pl : Pl), Ok fr n env own a w pl → (∀ u ∈ r.uses, env u = envi u) → (∀ j ∈ r.touch, own j = owni j) →
  (∀ t, r.dst = some t → ∀ u q sv, env u = some (q, sv) → u ≠ t → ∀ x ∈ q, x.1 ≠ t) → ∀ K : Act → World → Prop, (∀ a' w' pl', Ok fr n (putR env r) (updL own r.upd) a' w' pl' → K a' w') → wpOpX P ops i K a w
structure RecsOk (P : Program) (fr : Fr) (n : Nat) (ops : Array Oper) (rs : List Rec) (env : Env) (own : Own) (env' : Env) (own' : Own) : Prop where
 len : rs.length = ops.size
 envE : env' = envD rs (fun _ => true) 0 env
 ownE : own' = ownD rs (fun _ => true) 0 own
 each : ∀ (i : Nat) (r : Rec), rs[i]? = some r → ∃ envi owni, RecDoes P fr n ops i r envi owni ∧ envi = envD rs (fun j => decide (j < i)) 0 env ∧ owni = ownD rs (fun j => decide (j < i)) 0 own
 keysT : ∀ (i : Nat) (r : Rec), rs[i]? = some r → ∀ x ∈ keys r.upd, x ∈ r.touch
 sub : ∀ (i : Nat) (r : Rec), rs[i]? = some r → ∀ x, x ∈ slots r → x ∈ r.uses
def okB : Nat → List Rec → List Nat → Bool
 | _, [], _ => true
 | i, a :: r, _ :: ms => okA1 a i r ms && okB (i + 1) r ms
 | _, _ :: _, [] => false
theorem okB_get : ∀ {l : List Rec} {ms : List Nat} {k i j : Nat} {a b : Rec}, okB k l ms = true → l[i]? = some a → l[j]? = some b → i < j → ∃ m, ms[j]? = some m ∧ (m.testBit (k + i) = true ∨ indep a b = true)
 | [], ms, k, i, j, a, b, _, h, _, _ => by simp at h
 | x :: r, [], k, i, j, a, b, h, _, _, _ => by simp [okB] at h
 | x :: r, m :: ms, k, 0, j, a, b, h, hi, hj, hlt => by
  simp only [okB, Bool.and_eq_true] at h
  obtain ⟨j, rfl⟩ : ∃ j', j = j' + 1 := ⟨j - 1, by omega⟩
  simp only [List.getElem?_cons_zero, Option.some.injEq] at hi
  subst hi
  simpa using okA1_get h.1 (by simpa using hj)
 | x :: r, m :: ms, k, i + 1, j, a, b, h, hi, hj, hlt => by
  simp only [okB, Bool.and_eq_true] at h
  obtain ⟨j, rfl⟩ : ∃ j', j = j' + 1 := ⟨j - 1, by omega⟩
  obtain ⟨m', h1, h2⟩ := okB_get h.2 (by simpa using hi) (by simpa using hj) (by omega)
  exact ⟨m', by simpa using h1, by rw [show k + (i + 1) = k + 1 + i by omega]; exact h2⟩
theorem envD_none : ∀ (rs : List Rec) (D : Nat → Bool) (_ : ∀ j, D j = false) (k : Nat) (e : Env), envD rs D k e = e
 | [], _, _, _, _ => rfl
 | y :: ys, D, h, k, e => by simp only [envD, h k, Bool.false_eq_true, if_false]; exact envD_none ys D h (k + 1) e
theorem ownD_none : ∀ (rs : List Rec) (D : Nat → Bool) (_ : ∀ j, D j = false) (k : Nat) (e : Own), ownD rs D k e = e
 | [], _, _, _, _ => rfl
 | y :: ys, D, h, k, e => by simp only [ownD, h k, Bool.false_eq_true, if_false]; exact ownD_none ys D h (k + 1) e
section
variable {P : Program} {fr : Fr} {n : Nat} {ops : Array Oper}
theorem recs_dstX {env env' : Env} {own own' : Own} {rs : List Rec} (h : RecsOk P fr n ops rs env own env' own') {i : Nat} (hi : i < ops.size) : ∃ r, rs[i]? = some r := ⟨rs[i]'(by rw [h.len]; exact hi), List.getElem?_eq_getElem _⟩
theorem stepX {env env' : Env} {own own' own0 : Own} {rs : List Rec} (h : RecsOk P fr n ops rs env own env' own') (hag : ∀ (i : Nat) (r : Rec), rs[i]? = some r → ∀ x ∈ r.touch, own0 x = own x) (henv : ∀ u q sv, env u = some (q, sv) → q = [])
  {D : Nat → Bool} {i : Nat} {r : Rec} (hr : rs[i]? = some r) (hDi : D i = false)
  (hlow : ∀ j b, j < i → rs[j]? = some b → (b.dst.any (fun t => r.uses.contains t) || (keys b.upd).any (fun x => r.touch.contains x)) = true → D j = true)
  (hhigh : ∀ j b, i < j → rs[j]? = some b → (b.dst.any (fun t => r.uses.contains t || r.dst == some t) || (keys b.upd).any (fun x => r.touch.contains x || (keys r.upd).contains x) || r.dst.any (fun t => (slots b).contains t)) = true → D j = false)
  (hpath : ∀ j b, j < i → rs[j]? = some b → r.dst.any (fun t => (slots b).contains t) = false)
  {a : Act} {w : World} {pl : Pl} (hok : Ok fr n (envD rs D 0 env) (ownD rs D 0 own0) a w pl) {K : Act → World → Prop}
  (hK : ∀ a' w' pl', Ok fr n (envD rs (mark1 D i) 0 env) (ownD rs (mark1 D i) 0 own0) a' w' pl' → K a' w') : wpOpX P ops i K a w := by
 obtain ⟨h1, h2, h3, h4, _⟩ := h
 obtain ⟨envi, owni, hrec, he, hw⟩ := h4 i r hr
 have hDu : ∀ u ∈ r.uses, ∀ j b, rs[j]? = some b → b.dst = some u → D (0 + j) = decide (0 + j < i) := by
  intro u hu j b hj hb
  rw [Nat.zero_add]
  rcases Nat.lt_trichotomy j i with hlt | rfl | hgt
  ·rw [decide_eq_true hlt]
   exact hlow j b hlt hj (by simp [hb, hu])
  ·rw [hDi, decide_eq_false (by omega)]
  ·rw [decide_eq_false (by omega)]
   exact hhigh j b hgt hj (by simp [hb, hu])
 refine hrec _ _ a w pl hok (fun u hu => ?_) (fun x hx => ?_) (fun t ht u q sv hq hne x hx hxt => ?_) K (fun a' w' pl' hok' => hK a' w' pl' ?_)
 ·rw [he]
  exact envD_congr rs _ _ 0 _ _ u rfl (hDu u hu)
 ·rw [hw]
  refine ownD_congr rs _ _ 0 _ _ x (hag i r hr x hx) (fun j b hj hb => ?_)
  rw [Nat.zero_add]
  rcases Nat.lt_trichotomy j i with hlt | rfl | hgt
  ·rw [decide_eq_true hlt]
   exact hlow j b hlt hj (by simp only [Bool.or_eq_true, List.any_eq_true]; exact .inr ⟨x, hb, by simpa using hx⟩)
  ·rw [hDi, decide_eq_false (by omega)]
  ·rw [decide_eq_false (by omega)]
   exact hhigh j b hgt hj (by simp only [Bool.or_eq_true, List.any_eq_true]; exact .inl (.inr ⟨x, hb, .inl (by simpa using hx)⟩))
 ·rcases envD_from rs D 0 _ u q sv hq with h5 | ⟨j, b, h5, h6, h7, rfl⟩
  ·rw [henv u q sv h5] at hx; cases hx
  ·rw [Nat.zero_add] at h6
   have hsl : (slots b).contains t = true := by
    simp only [slots, List.contains_iff_mem, List.mem_map]
    exact ⟨x, hx, hxt⟩
   rcases Nat.lt_trichotomy j i with hlt | rfl | hgt
   ·have := hpath j b hlt h5
    rw [ht] at this
    simp only [Option.any_some, hsl] at this
    cases this
   ·rw [hDi] at h6; cases h6
   ·have := hhigh j b hgt h5 (by rw [ht]; simp only [Option.any_some, hsl, Bool.or_true])
    rw [this] at h6; cases h6
 ·
  have e1 : putR (envD rs D 0 env) r = envD rs (mark1 D i) 0 env := by
   funext u
   by_cases hu : r.dst = some u
   ·rw [envD_last rs (mark1 D i) 0 _ u i r hr hu (by simp [mark1]) (fun j b hj hb hbu => by
     rw [Nat.zero_add]
     simp only [mark1, if_neg (show j ≠ i by omega)]
     exact hhigh j b hj hb (by simp [hbu, hu]))]
    simp only [putR, hu]
    exact upd_same _ _ _
   ·have hp : putR (envD rs D 0 env) r u = envD rs D 0 env u := by
     unfold putR
     cases hd' : r.dst with
     | none => rfl
     | some t => exact upd_ne _ _ (fun e => hu (by rw [hd', e]))
    rw [hp]
    refine envD_congr rs _ _ 0 _ _ u rfl (fun j b hj hb => ?_)
    rw [Nat.zero_add]
    have : j ≠ i := fun e => by subst e; rw [hr] at hj; injection hj with hj; rw [hj] at hu; exact hu hb
    simp [mark1, this]
  have e2 : updL (ownD rs D 0 own0) r.upd = ownD rs (mark1 D i) 0 own0 := by
   funext x
   by_cases hu : x ∈ keys r.upd
   ·exact (ownD_last rs (mark1 D i) 0 _ _ x i r hr hu (by simp [mark1]) (fun j b hj hb hbu => by
     rw [Nat.zero_add]
     simp only [mark1, if_neg (show j ≠ i by omega)]
     exact hhigh j b hj hb (by simp only [Bool.or_eq_true, List.any_eq_true]; exact .inl (.inr ⟨x, hbu, .inr (by simpa using hu)⟩)))).symm
   ·rw [updL_notin _ _ x hu]
    refine ownD_congr rs _ _ 0 _ _ x rfl (fun j b hj hb => ?_)
    rw [Nat.zero_add]
    have : j ≠ i := fun e => by subst e; rw [hr] at hj; injection hj with hj; rw [hj] at hu; exact hu hb
    simp [mark1, this]
  rw [← e1, ← e2]
  exact hok'
theorem textX {K : Act → World → Prop} {env env' : Env} {own own' own0 : Own} {rs : List Rec} (h : RecsOk P fr n ops rs env own env' own') (hag : ∀ (i : Nat) (r : Rec), rs[i]? = some r → ∀ x ∈ r.touch, own0 x = own x) (henv : ∀ u q sv, env u = some (q, sv) → q = []) (hT : okT rs = true)
  (hQ : ∀ a w pl, Ok fr n (env') ((ownD rs (fun _ => true) 0 own0)) a w pl → K a w) : ∀ (m i : Nat), i + m = ops.size → ∀ a w pl, Ok fr n (envD rs (fun j => decide (j < i)) 0 env) (ownD rs (fun j => decide (j < i)) 0 own0) a w pl → wpOpsX P ops K (List.range' i m) a w := by
 intro m
 obtain ⟨h1, h2, h3, h4, _⟩ := id h
 induction m with
 | zero =>
  intro i hi a w pl hok
  simp only [List.range'_zero, wpOpsX]
  refine hQ a w pl ?_
  have hlt : ∀ j r, rs[j]? = some r → (0 + j) < i := by
   intro j r hj
   have := (List.getElem?_eq_some_iff.1 hj).1
   omega
  have e1 : envD rs (fun j => decide (j < i)) 0 env = env' := by
   rw [h2]
   funext u
   exact envD_congr rs _ _ 0 _ _ u rfl (fun j r hj _ => decide_eq_true (hlt j r hj))
  have e2 : ownD rs (fun j => decide (j < i)) 0 own0 = (ownD rs (fun _ => true) 0 own0) := by
   funext u
   exact ownD_congr rs _ _ 0 _ _ u rfl (fun j r hj _ => decide_eq_true (hlt j r hj))
  rw [← e1, ← e2]
  exact hok
 | succ m ih =>
  intro i hi a w pl hok
  rw [List.range'_succ, wpOpsX]
  obtain ⟨r, hr⟩ := recs_dstX h (i := i) (by omega)
  refine stepX h hag henv hr (D := fun j => decide (j < i)) (by simp) (fun j b hj _ _ => by simpa using hj) (fun j b hj _ _ => by simp; omega) (fun j b hj hb => ?_) hok (fun a' w' pl' hok' => ?_)
  ·have := okT_get hT hb hr hj
   unfold okPair at this
   cases hd : r.dst with
   | none => rfl
   | some t =>
    rw [hd] at this
    simp only [Option.any_some]
    simpa using this
  ·have e : mark1 (fun j => decide (j < i)) i = fun j => decide (j < i + 1) := by
    funext j
    by_cases hj : j = i
    ·subst hj; simp [mark1]
    ·simp only [mark1, if_neg hj]
     congr 1
     simp only [eq_iff_iff]
     omega
   rw [e] at hok'
   exact ih (i + 1) (by omega) a' w' pl' hok'
theorem anyX {K : Act → World → Prop} {env env' : Env} {own own' own0 : Own} {rs : List Rec} (h : RecsOk P fr n ops rs env own env' own') (hag : ∀ (i : Nat) (r : Rec), rs[i]? = some r → ∀ x ∈ r.touch, own0 x = own x) (henv : ∀ u q sv, env u = some (q, sv) → q = []) (hT : okT rs = true) (hA : okB 0 rs (bef ops) = true) (hE : edgesOk 0 ops.toList = true)
  (hQ : ∀ a w pl, Ok fr n (env') ((ownD rs (fun _ => true) 0 own0)) a w pl → K a w) : ∀ (fuel : Nat) (listed : Array Bool), listed.size = ops.size → (List.range ops.size).countP (fun i => !listed.getD i false) ≤ fuel →
   (∀ i o, ops[i]? = some o → listed.getD i false = true → ∀ e ∈ o.after, Region.binds .any e = true → listed.getD e.on false = true) →
   ∀ a w pl, Ok fr n (envD rs (fun j => listed.getD j false) 0 env) (ownD rs (fun j => listed.getD j false) 0 own0) a w pl → wpAnyX P .any ops K fuel listed a w := by
 obtain ⟨h1, h2, h3, h4, hkt, hsl⟩ := id h
 have hlen : rs.length = ops.size := h1
 have fin : ∀ (listed : Array Bool), (∀ i, i < ops.size → listed.getD i false = true) → ∀ a w pl, Ok fr n (envD rs (fun j => listed.getD j false) 0 env) (ownD rs (fun j => listed.getD j false) 0 own0) a w pl → K a w := by
  intro listed hall a w pl hok
  refine hQ a w pl ?_
  have hlt : ∀ j r, rs[j]? = some r → listed.getD (0 + j) false = true := by
   intro j r hj
   have := (List.getElem?_eq_some_iff.1 hj).1
   rw [Nat.zero_add]
   exact hall j (by omega)
  have e1 : envD rs (fun j => listed.getD j false) 0 env = env' := by
   rw [h2]
   funext u
   exact envD_congr rs _ _ 0 _ _ u rfl (fun j r hj _ => hlt j r hj)
  have e2 : ownD rs (fun j => listed.getD j false) 0 own0 = (ownD rs (fun _ => true) 0 own0) := by
   funext u
   exact ownD_congr rs _ _ 0 _ _ u rfl (fun j r hj _ => hlt j r hj)
  rw [← e1, ← e2]
  exact hok
 have rdy : ∀ (listed : Array Bool), listed.size = ops.size → Region.ready .any ops listed = [] → ∀ i, i < ops.size → listed.getD i false = true := by
  intro listed hsz hr i
  induction i using Nat.strongRecOn with
  | _ i ih =>
   intro hi
   cases hb : listed.getD i false with
   | true => rfl
   | false =>
    exfalso
    have hmem : i ∈ Region.ready .any ops listed := by
     rw [mem_ready]
     refine ⟨?_, ops[i], Array.getElem?_eq_getElem hi, fun e he hbd => ?_⟩
     ·have : i < listed.size := by omega
      simp only [Array.getD, this, dif_pos] at hb ⊢
      exact hb
     ·have := edgesOk_get hE (i := i) (o := ops[i]) (by simp [hi]) e he hbd
      exact ih e.on (by omega) (by omega)
    rw [hr] at hmem
    cases hmem
 intro fuel
 induction fuel with
 | zero =>
  intro listed hsz hcnt hcl a w pl hok
  have hall : ∀ i, i < ops.size → listed.getD i false = true := by
   intro i hi
   have h0 : (List.range ops.size).countP (fun i => !listed.getD i false) = 0 := by omega
   rw [List.countP_eq_zero] at h0
   have := h0 i (List.mem_range.2 hi)
   simpa using this
  refine ⟨?_, fin listed hall a w pl hok⟩
  rw [List.eq_nil_iff_forall_not_mem]
  intro i hi
  obtain ⟨h5, o, ho, _⟩ := mem_ready.1 hi
  have hlt := (Array.getElem?_eq_some_iff.1 ho).1
  have h6 := hall i hlt
  have : i < listed.size := by omega
  simp only [Array.getD, this, dif_pos] at h5 h6
  rw [h5] at h6
  cases h6
 | succ fuel ih =>
  intro listed hsz hcnt hcl a w pl hok
  refine ⟨fun hr => fin listed (rdy listed hsz hr) a w pl hok, fun i hi => ?_⟩
  obtain ⟨h5, o, ho, hedge⟩ := mem_ready.1 hi
  have hlt := (Array.getElem?_eq_some_iff.1 ho).1
  have hltl : i < listed.size := by omega
  have hDi : listed.getD i false = false := by
   simp only [Array.getD, hltl, dif_pos] at h5 ⊢
   exact h5
  obtain ⟨r, hr⟩ := recs_dstX h hlt
  have hmarked : (fun j => (listed.setIfInBounds i true).getD j false) = mark1 (fun j => listed.getD j false) i := by
   funext j
   by_cases hj : j = i
   ·subst hj; simp [mark1, hltl]
   ·simp only [mark1, if_neg hj]; exact getD_set_ne false (Ne.symm hj)
  have hbef : ∀ b, (bef ops)[i]? = some b → ∀ j, b.testBit j = true → listed.getD j false = true :=
   fun b hb => bef_closed (D := fun j => listed.getD j false) hcl i o b ho hb hedge
  have haft : ∀ j m, (bef ops)[j]? = some m → m.testBit i = true → listed.getD j false = false := by
   intro j m hm hbit
   cases hb : listed.getD j false with
   | false => rfl
   | true =>
    exfalso
    have hjl : j < ops.size := by
     rcases Nat.lt_or_ge j listed.size with h' | h'
     ·omega
     ·simp [Array.getD, Nat.not_lt.2 h'] at hb
    have := bef_closed (D := fun j => listed.getD j false) hcl j ops[j] m (Array.getElem?_eq_getElem hjl) hm (hcl j _ (Array.getElem?_eq_getElem hjl) hb) i hbit
    rw [hDi] at this
    cases this
  refine stepX h hag henv hr (D := fun j => listed.getD j false) hDi (fun j b hj hb hd => ?_) (fun j b hj hb hd => ?_) (fun j b hj hb => ?_) hok (fun a' w' pl' hok' => ?_)
  ·obtain ⟨m, hm, hor⟩ := okB_get hA hb hr hj
   rw [Nat.zero_add] at hor
   rcases hor with hbit | hind
   ·exact hbef m hm j hbit
   ·exfalso
    simp only [indep, Bool.and_eq_true] at hind
    obtain ⟨⟨⟨hi1, hi2⟩, hi3⟩, hi4⟩ := hind
    simp only [Bool.or_eq_true] at hd
    rcases hd with hd | hd
    ·cases hbd : b.dst with
     | none => rw [hbd] at hd; cases hd
     | some t =>
      rw [hbd] at hd hi1
      simp only [Option.any_some] at hd
      simp at hi1
      exact hi1.1 (by simpa using hd)
    ·obtain ⟨x, hx, hxt⟩ := List.any_eq_true.1 hd
     have := List.all_eq_true.1 hi3 x hx
     rw [hxt] at this
     cases this
  ·obtain ⟨m, hm, hor⟩ := okB_get hA hr hb hj
   rw [Nat.zero_add] at hor
   rcases hor with hbit | hind
   ·exact haft j m hm hbit
   ·exfalso
    simp only [indep, Bool.and_eq_true] at hind
    obtain ⟨⟨⟨hi1, hi2⟩, hi3⟩, hi4⟩ := hind
    simp only [Bool.or_eq_true] at hd
    rcases hd with (hd | hd) | hd
    ·cases hbd : b.dst with
     | none => rw [hbd] at hd; cases hd
     | some t =>
      rw [hbd] at hd hi2
      simp only [Option.any_some, Bool.or_eq_true] at hd
      rcases hd with hd | hd
      ·simp only [hd] at hi2; cases hi2
      ·simp only [beq_iff_eq] at hd
       rw [hd, hbd] at hi1
       simp at hi1
    ·obtain ⟨x, hx, hxt⟩ := List.any_eq_true.1 hd
     have h7 := List.all_eq_true.1 hi4 x hx
     simp only [Bool.or_eq_true] at hxt
     rcases hxt with hxt | hxt
     ·rw [hxt] at h7; cases h7
     ·have h8 : x ∈ keys r.upd := by simpa using hxt
      have h9 := hkt i r hr x h8
      have : r.touch.contains x = true := by simpa using h9
      rw [this] at h7
      cases h7
    ·cases hrd : r.dst with
     | none => rw [hrd] at hd; cases hd
     | some t =>
      rw [hrd] at hd hi1
      simp only [Option.any_some] at hd
      simp only [Bool.and_eq_true] at hi1
      have hsub : ∀ x, x ∈ slots b → x ∈ b.uses := hsl j b hb
      have := hsub t (by simpa using hd)
      have h7 : b.uses.contains t = true := by simpa using this
      rw [h7] at hi1
      cases hi1.1
  ·have := okT_get hT hb hr hj
   unfold okPair at this
   cases hd : r.dst with
   | none => rfl
   | some t =>
    rw [hd] at this
    simp only [Option.any_some]
    simpa using this
  ·refine ih _ (by simp [hsz]) ?_ ?_ a' w' pl' ?_
   ·have hsplit : (List.range ops.size).countP (fun j => !(listed.setIfInBounds i true).getD j false) + 1 = (List.range ops.size).countP (fun j => !listed.getD j false) := by
     have hm : ∀ (l : List Nat), l.Nodup → i ∈ l → l.countP (fun j => !(listed.setIfInBounds i true).getD j false) + 1 = l.countP (fun j => !listed.getD j false) := by
      intro l
      induction l with
      | nil => intro _ h; cases h
      | cons x r ihl =>
       intro hn hi
       rw [List.nodup_cons] at hn
       by_cases hx : x = i
       ·subst hx
        have hsame : r.countP (fun j => !(listed.setIfInBounds x true).getD j false) = r.countP (fun j => !listed.getD j false) := by
         refine List.countP_congr (fun j hj => ?_)
         have : x ≠ j := fun e => hn.1 (by rw [e]; exact hj)
         rw [getD_set_ne false this]
        have hs : (listed.setIfInBounds x true).getD x false = true := by simp [hltl]
        rw [List.countP_cons_of_neg (by simp [hs]), List.countP_cons_of_pos (by simp [hDi]), hsame]
       ·have hir : i ∈ r := (List.mem_cons.1 hi).resolve_left (fun e => hx e.symm)
        have := ihl hn.2 hir
        rw [List.countP_cons, List.countP_cons, getD_set_ne false (fun e => hx e.symm)]
        omega
     exact hm _ List.nodup_range (List.mem_range.2 hlt)
    omega
   ·intro j o' hj hdone e he hbd
    by_cases hji : j = i
    ·subst hji
     rw [ho] at hj
     injection hj with hj
     subst hj
     exact getD_set_true (hedge e he hbd)
    ·rw [getD_set_ne false (Ne.symm hji)] at hdone
     exact getD_set_true (hcl j o' hj hdone e he hbd)
   ·rw [hmarked]; exact hok'
theorem regionOps_X {env env' : Env} {own own' own0 : Own} {rs : List Rec} (h : RecsOk P fr n ops rs env own env' own') (hag : ∀ (i : Nat) (r : Rec), rs[i]? = some r → ∀ x ∈ r.touch, own0 x = own x) (henv : ∀ u q sv, env u = some (q, sv) → q = [])
  (hT : okT rs = true) {K : Act → World → Prop} {a : Act} {w : World} {pl : Pl} (hok : Ok fr n env own0 a w pl)
  (hQ : ∀ a w pl, Ok fr n env' (ownD rs (fun _ => true) 0 own0) a w pl → K a w) : wpOpsX P ops K (List.range ops.size) a w := by
 have h0 : ∀ e : Env, envD rs (fun j => decide (j < 0)) 0 e = e := fun e => envD_none rs _ (fun j => by simp) 0 e
 have h0' : ∀ e : Own, ownD rs (fun j => decide (j < 0)) 0 e = e := fun e => ownD_none rs _ (fun j => by simp) 0 e
 rw [List.range_eq_range']
 exact textX h hag henv hT hQ ops.size 0 (by omega) a w pl (by rw [h0, h0']; exact hok)
theorem region_X {R : Wp P} {id : Nat} {draw : Bool} (hm : P.follows .mixedOrders = true) {env env' : Env} {own own' own0 : Own} {rs : List Rec} (h : RecsOk P fr n ops rs env own env' own') (hag : ∀ (i : Nat) (r : Rec), rs[i]? = some r → ∀ x ∈ r.touch, own0 x = own x) (henv : ∀ u q sv, env u = some (q, sv) → q = [])
  (hT : okT rs = true) (hA : draw = true → okB 0 rs (bef ops) = true ∧ edgesOk 0 ops.toList = true) (hnd : noDefer ops = true) {Q : Exit → Act → World → Prop} {a : Act} {w : World} {pl : Pl} (hok : Ok fr n env own0 a w pl)
  (hQ : ∀ a w pl, Ok fr n env' (ownD rs (fun _ => true) 0 own0) a w pl → Q .normal a w) : R.wp (Code.region id ops draw) Q a w := by
 have h0 : ∀ e : Env, envD rs (fun j => decide (j < 0)) 0 e = e := fun e => envD_none rs _ (fun j => by simp) 0 e
 have h0' : ∀ e : Own, ownD rs (fun j => decide (j < 0)) 0 e = e := fun e => ownD_none rs _ (fun j => by simp) 0 e
 cases draw with
 | false =>
  refine R.region hnd ?_
  rw [List.range_eq_range']
  exact textX h hag henv hT hQ ops.size 0 (by omega) a w pl (by rw [h0, h0']; exact hok)
 | true =>
  obtain ⟨hA, hE⟩ := hA rfl
  refine R.any hm hnd ?_
  have hz : ∀ j, (Array.replicate ops.size false).getD j false = false := by
   intro j
   simp only [Array.getD_eq_getD_getElem?, Array.getElem?_replicate]
   split <;> rfl
  have hg : w.grownBy { w with drawn := w.drawn + 1 } none := ⟨rfl, rfl, rfl, Nat.le_refl _, fun _ _ _ => rfl⟩
  obtain ⟨m', L⟩ := hok.mem.ext hg
  refine anyX h hag henv hT hA hE hQ ops.size _ (by simp) ?_ (fun i o _ hd => by rw [hz] at hd; cases hd) a _ pl ?_
  ·exact Nat.le_trans List.countP_le_length (by simp)
  ·rw [envD_none rs _ hz 0, ownD_none rs _ hz 0]
   exact hok.later m' L
end
end Go.V
namespace Go.V
open Go.RowKit
inductive Tr (α : Type) where
 | e
 | n (v : Option α) (l r : Tr α)
def Tr.get {α : Type} : Tr α → Nat → Option α
 | .e, _ => none
 | .n v l r, i => bif Nat.beq i 0 then v else bif Nat.beq (i % 2) 1 then l.get (i / 2) else r.get (i / 2 - 1)
def Tr.put {α : Type} (x : Option α) : Nat → Tr α → Nat → Tr α
 | 0, t, _ => t
 | f + 1, .e, i => bif Nat.beq i 0 then .n x .e .e else bif Nat.beq (i % 2) 1 then .n none (Tr.put x f .e (i / 2)) .e else .n none .e (Tr.put x f .e (i / 2 - 1))
 | f + 1, .n v l r, i => bif Nat.beq i 0 then .n x l r else bif Nat.beq (i % 2) 1 then .n v (Tr.put x f l (i / 2)) r else .n v l (Tr.put x f r (i / 2 - 1))
theorem beq_t {i j : Nat} : (Nat.beq i j = true) = (i = j) := by simp [Nat.beq_eq]
theorem cond_nat {α : Type} {i j : Nat} {x y : α} : (bif Nat.beq i j then x else y) = if i = j then x else y := by
 by_cases h : i = j
 ·subst h; simp [Nat.beq_refl]
 ·have : Nat.beq i j = false := by
   cases hb : Nat.beq i j with
   | false => rfl
   | true => exact absurd (Nat.eq_of_beq_eq_true hb) h
  rw [this, if_neg h]; rfl
theorem Tr.get_put {α : Type} (x : Option α) : ∀ (f : Nat) (t : Tr α) (i j : Nat), i + 1 < 2 ^ f → (Tr.put x f t i).get j = if j = i then x else t.get j
 | 0, t, i, j, h => by simp at h
 | f + 1, t, i, j, h => by
  have h2 : 2 ^ (f + 1) = 2 * 2 ^ f := by rw [Nat.pow_succ]; omega
  cases t with
  | e =>
   simp only [Tr.put, cond_nat]
   split
   ·rename_i hi
    subst hi
    simp only [Tr.get, cond_nat]
    split
    ·rename_i hj; simp [hj]
    ·rename_i hj; simp [hj, Tr.get]
   ·rename_i hi
    split
    ·rename_i ho
     simp only [Tr.get, cond_nat]
     by_cases hj : j = 0
     ·simp only [hj, if_true]; rw [if_neg (by omega)]
     ·rw [if_neg hj]
      by_cases hjo : j % 2 = 1
      ·rw [if_pos hjo, Tr.get_put x f .e (i / 2) (j / 2) (by omega)]
       by_cases hji : j = i
       ·simp [hji]
       ·rw [if_neg (show ¬ j / 2 = i / 2 by omega), if_neg hji]; simp [Tr.get]
      ·rw [if_neg hjo, if_neg (by omega)]
    ·rename_i ho
     simp only [Tr.get, cond_nat]
     by_cases hj : j = 0
     ·simp only [hj, if_true]; rw [if_neg (by omega)]
     ·rw [if_neg hj]
      by_cases hjo : j % 2 = 1
      ·rw [if_pos hjo, if_neg (by omega)]
      ·rw [if_neg hjo, Tr.get_put x f .e (i / 2 - 1) (j / 2 - 1) (by omega)]
       by_cases hji : j = i
       ·simp [hji]
       ·rw [if_neg (show ¬ j / 2 - 1 = i / 2 - 1 by omega), if_neg hji]; simp [Tr.get]
  | n v l r =>
   simp only [Tr.put, cond_nat]
   split
   ·rename_i hi
    subst hi
    simp only [Tr.get, cond_nat]
    split
    ·rename_i hj; simp [hj]
    ·rename_i hj; simp [hj]
   ·rename_i hi
    split
    ·rename_i ho
     simp only [Tr.get, cond_nat]
     by_cases hj : j = 0
     ·simp only [hj, if_true]; rw [if_neg (by omega)]
     ·rw [if_neg hj, if_neg hj]
      by_cases hjo : j % 2 = 1
      ·rw [if_pos hjo, if_pos hjo, Tr.get_put x f l (i / 2) (j / 2) (by omega)]
       by_cases hji : j = i
       ·simp [hji]
       ·rw [if_neg (show ¬ j / 2 = i / 2 by omega), if_neg hji]
      ·rw [if_neg hjo, if_neg hjo, if_neg (by omega)]
    ·rename_i ho
     simp only [Tr.get, cond_nat]
     by_cases hj : j = 0
     ·simp only [hj, if_true]; rw [if_neg (by omega)]
     ·rw [if_neg hj, if_neg hj]
      by_cases hjo : j % 2 = 1
      ·rw [if_pos hjo, if_pos hjo, if_neg (by omega)]
      ·rw [if_neg hjo, if_neg hjo, Tr.get_put x f r (i / 2 - 1) (j / 2 - 1) (by omega)]
       by_cases hji : j = i
       ·simp [hji]
       ·rw [if_neg (show ¬ j / 2 - 1 = i / 2 - 1 by omega), if_neg hji]
def few (i : Nat) : Bool := Nat.ble (i + 2) 1099511627776
theorem Tr.get_put40 {α : Type} {x : Option α} {t : Tr α} {i : Nat} (h : few i = true) (j : Nat) : (Tr.put x 40 t i).get j = if j = i then x else t.get j :=
 Tr.get_put x 40 t i j (by
  have := Nat.le_of_ble_eq_true h
  have e : (2 : Nat) ^ 40 = 1099511627776 := by decide
  omega)
def setL : Tr Ob → List (Nat × Ob) → Option (Tr Ob)
 | t, [] => some t
 | t, (i, o) :: r => if few i then setL (Tr.put (some o) 40 t i) r else none
theorem setL_get : ∀ {l : List (Nat × Ob)} {t t' : Tr Ob}, setL t l = some t' → t'.get = updL t.get l
 | [], t, t', h => by simp only [setL, Option.some.injEq] at h; subst h; rfl
 | (i, o) :: r, t, t', h => by
  simp only [setL] at h
  split at h
  ·rename_i hf
   rw [setL_get h]
   simp only [updL]
   congr 1
   funext j
   rw [Tr.get_put40 hf]
   rfl
  ·cases h
theorem updL_congr : ∀ (l : List (Nat × Ob)) {own own' : Own} {i : Nat}, own i = own' i → updL own l i = updL own' l i
 | [], _, _, _, h => h
 | (j, o) :: r, own, own', i, h => updL_congr r (by by_cases hi : i = j <;> simp [upd, hi, h])
theorem updL_append : ∀ (l m : List (Nat × Ob)) (own : Own), updL own (l ++ m) = updL (updL own l) m
 | [], _, _ => rfl
 | (j, o) :: r, m, own => updL_append r m _
def envF (loc : EnvL) (tr : Tr SV) : Env := fun t => match findE loc t with
 | some x => some x
 | none => (tr.get t).map fun s => ([], s)
def flushE : EnvL → Tr SV → Tr SV
 | [], tr => tr
 | (t, p, sv) :: r, tr => Tr.put (bif p.isEmpty then some sv else none) 40 (flushE r tr) t
theorem flushE_get : ∀ {loc : EnvL} {tr : Tr SV}, (loc.all fun e => few e.1) = true → ∀ {u : Nat} {q : Path} {sv : SV}, envF [] (flushE loc tr) u = some (q, sv) → q = [] ∧ envF loc tr u = some (q, sv)
 | [], tr, _, u, q, sv, h => by
  refine ⟨?_, h⟩
  simp only [envF, findE, flushE, Option.map_eq_some_iff, Prod.mk.injEq] at h
  obtain ⟨_, _, h, _⟩ := h
  exact h.symm
 | (t, p, s) :: r, tr, hf, u, q, sv, h => by
  simp only [List.all_cons, Bool.and_eq_true] at hf
  simp only [envF, findE, flushE] at h ⊢
  rw [Tr.get_put40 hf.1] at h
  by_cases hu : t = u
  ·subst hu
   simp only [if_true, beq_self_eq_true] at h ⊢
   cases p with
   | nil =>
    simp only [List.isEmpty_nil, cond_true, Option.map_some, Option.some.injEq, Prod.mk.injEq] at h
    obtain ⟨rfl, rfl⟩ := h
    exact ⟨rfl, rfl⟩
   | cons x y => simp at h
  ·have hne : (t == u) = false := by simpa using hu
   rw [if_neg (Ne.symm hu)] at h
   rw [hne]
   simp only [Bool.false_eq_true, if_false]
   exact flushE_get (loc := r) hf.2 (by simpa only [envF, findE] using h)
structure Ent (P : Program) (G : List (Nat × List Value)) where
 f : FuncId
 ask : Nat → List SV → List (Nat × Ob) → Option (SV × List (Nat × Ob) × List Prop)
 ok : ∀ {k : Nat} {ins : List SV} {refs post : List (Nat × Ob)} {out : SV} {cs : List Prop}, ask k ins refs = some (out, post, cs) → conj cs → Spec P G f ins refs out post
def entOf {P : Program} {G : List (Nat × List Value)} : List (Ent P G) → FuncId → Option (Ent P G)
 | [], _ => none
 | e :: r, f => bif Nat.beq e.f f then some e else entOf r f
theorem entOf_f {P : Program} {G : List (Nat × List Value)} : ∀ {T : List (Ent P G)} {f : FuncId} {e : Ent P G}, entOf T f = some e → e.f = f
 | [], f, e, h => by simp [entOf] at h
 | x :: r, f, e, h => by
  simp only [entOf, cond_nat] at h
  split at h
  ·rename_i hx; simp only [Option.some.injEq] at h; rw [← h]; exact hx
  ·exact entOf_f h
def idsC : C → List Nat
 | .bx i _ => [i]
 | .fn _ l m => (l ++ m).map (·.1)
 | .mp i => [i]
 | .yl i => [i]
 | _ => []
def idsCA : C → List Nat
 | .ar i _ => [i]
 | c => idsC c
def idsS : SV → List Nat
 | .c x => idsC x
 | .agg xs => xs.flatMap idsC
 | .tup xs => xs.flatMap fun p => p.2.flatMap idsC
def idsO : Option Ob → List Nat
 | some (.box _ cells) => cells.flatMap idsCA
 | some (.arr _ e _ _) => e.ov.flatMap fun x => idsCA x.2
 | none => []
def reach (ob : Own) : Nat → List Nat → List Nat → List Nat
 | 0, _, acc => acc
 | _ + 1, [], acc => acc
 | f + 1, i :: r, acc => if acc.contains i then reach ob f r acc else reach ob f (idsO (ob i) ++ r) (acc ++ [i])
structure OpR where
 sv : SV
 upd : List (Nat × Ob)
 touch : List Nat
 own : Tr Ob
 k : Nat
 cs : List Prop
def OpR.eff (r : OpR) : Eff := ⟨r.sv, r.upd, r.touch, []⟩
def effR (own : Tr Ob) (k : Nat) (cs : List Prop) (e : Eff) : Option OpR := match setL own e.upd with
 | some own' => some ⟨e.sv, e.upd, keys e.upd ++ e.touch, own', k, cs⟩
 | none => none
def callT {P : Program} {G : List (Nat × List Value)} (e : Ent P G) (k : Nat) (svs : List SV) (own : Tr Ob) : Option OpR :=
 match argsG own.get (reach own.get 1000 (svs.flatMap idsS) []) svs, handL own.get (reach own.get 1000 (svs.flatMap idsS) []) 0 (reach own.get 1000 (svs.flatMap idsS) []) with
 | some (ins, _), some refs => match e.ask k ins refs with
  | some (out, post, cs) => match callGS (Spec P G e.f) own.get (some svs) k out (reach own.get 1000 (svs.flatMap idsS) []) post with
   | some ef => if ef.obs.all (fun o => o.k || o.b) then effR own (k + 1 + post.length) cs ef else none
   | none => none
  | none => none
 | _, _ => none
def OpOk (P : Program) (G : List (Nat × List Value)) (lk : Lk) (p : Path) (o : Oper) (own : Tr Ob) (r : OpR) : Prop :=
 r.own.get = updL own.get r.upd ∧ (∀ x ∈ keys r.upd, x ∈ r.touch) ∧
 ∀ (fr : Fr) (own0 : Own) (a : Act) (w : World) (pl : Pl), fr.G = G → conj r.cs → (∀ i ∈ r.touch, own0 i = own.get i) → Mem fr own0 w pl → LkOk a w pl own0 p lk → Eng.Holds a p → DoesX P fr own0 a w pl o r.eff
section
variable {P : Program} {G : List (Nat × List Value)} {lk : Lk} {p : Path} {o : Oper}
theorem does_eff {fr : Fr} {own : Own} {a : Act} {w : World} {pl : Pl} {e e' : Eff} (h1 : e'.sv = e.sv) (h2 : e'.upd = e.upd) (h : DoesX P fr own a w pl o e) : DoesX P fr own a w pl o e' := by
 unfold DoesX at h ⊢
 rw [h1, h2]
 exact h
theorem effR_ok {own : Tr Ob} {k : Nat} {cs : List Prop} {e : Eff} {r : OpR} (h : effR own k cs e = some r)
  (hd : ∀ (fr : Fr) (own0 : Own) (a : Act) (w : World) (pl : Pl), fr.G = G → conj cs → (∀ i ∈ e.touch, own0 i = own.get i) → Mem fr own0 w pl → LkOk a w pl own0 p lk → Eng.Holds a p → DoesX P fr own0 a w pl o e) : OpOk P G lk p o own r := by
 unfold effR at h
 split at h
 ·rename_i own' hs
  simp only [Option.some.injEq] at h
  subst h
  refine ⟨setL_get hs, fun x hx => by simp [hx], fun fr own0 a w pl hG hc ht m hl hp => ?_⟩
  exact does_eff (e := e) rfl rfl (hd fr own0 a w pl hG hc (fun i hi => ht i (by simp [hi])) m hl hp)
 ·cases h
theorem conj_of_all : ∀ {l : List Prop}, (∀ c ∈ l, c) → conj l
 | [], _ => trivial
 | [c], h => h c (by simp)
 | c :: d :: r, h => ⟨h c (by simp), conj_of_all fun x hx => h x (by simp [hx])⟩
theorem callGS_obs {S : List SV → List (Nat × Ob) → SV → List (Nat × Ob) → Prop} {ob : Own} {osv : Option (List SV)} {nid : Nat} {out : SV} {rs : List Nat} {post : List (Nat × Ob)} {e : Eff} (h : callGS S ob osv nid out rs post = some e) :
  ∃ svs ins ars refs, osv = some svs ∧ argsG ob rs svs = some (ins, ars) ∧ handL ob rs 0 rs = some refs ∧ ∀ x ∈ e.obs, x.p = S ins refs out post ∨ x.k = false := by
 unfold callGS at h
 split at h
 ·rename_i svs
  split at h
  ·rename_i ins ars refs hargs hrefs
   split at h
   ·split at h
    ·simp only [Option.some.injEq] at h
     subst h
     refine ⟨svs, ins, ars, refs, rfl, hargs, hrefs, fun x hx => ?_⟩
     rcases List.mem_cons.1 hx with rfl | hx
     ·exact .inl rfl
     ·right
      split at hx
      ·cases hx
      ·obtain ⟨y, hy, hx⟩ := List.mem_flatMap.1 hx
       unfold flatQ at hx
       split at hx
       ·cases hx
       ·simp only [List.mem_singleton] at hx
        subst hx; rfl
    ·cases h
   ·cases h
  ·cases h
 ·cases h
theorem callT_ok {T : Ent P G} {k : Nat} {svs : List SV} {own : Tr Ob} {r : OpR} (h : callT T k svs own = some r)
  (hrun : ∀ (own0 : Own) (a : Act) (w : World) (pl : Pl) , LkOk a w pl own0 p lk → Eng.Holds a p → ∃ vals, All2 (SvOk w pl own0) svs vals ∧ RunsBy P G a w o vals (Spec P G T.f)) : OpOk P G lk p o own r := by
 unfold callT at h
 generalize hrs : reach own.get 1000 (svs.flatMap idsS) [] = rs at h
 split at h
 ·rename_i ins ars refs hargs hrefs
  split at h
  ·rename_i out post cs hask
   split at h
   ·rename_i ef hef
    split at h
    ·rename_i hall
     refine effR_ok h fun fr own0 a w pl hG hc ht m hl hp => ?_
     subst hG
     obtain ⟨vals, hv, hr⟩ := hrun own0 a w pl hl hp
     obtain ⟨svs', ins', ars', refs', h1, h2, h3, h4⟩ := callGS_obs hef
     simp only [Option.some.injEq] at h1
     subst h1
     rw [hargs] at h2
     rw [hrefs] at h3
     simp only [Option.some.injEq, Prod.mk.injEq] at h2 h3
     obtain ⟨rfl, rfl⟩ := h2
     subst h3
     refine callGS_ok m (vals := vals) (fun s hs => by simp only [Option.some.injEq] at hs; subst hs; exact hv) hr hef ht (conj_of_all fun c hcm => ?_)
     simp only [Eff.obl, pOf, List.mem_map] at hcm
     obtain ⟨x, hx, rfl⟩ := hcm
     rcases h4 x hx with h5 | h5
     ·rw [h5]; exact T.ok hask hc
     ·have := List.all_eq_true.1 hall x hx
      rw [h5, Bool.false_or] at this
      exact x.h this
    ·cases h
   ·cases h
  ·cases h
 ·cases h
end
end Go.V
namespace Go.V
open Go.RowKit
def viewC (ov : List (Nat × C)) : Nat → List D → List C
 | _, [] => []
 | p, d :: r => (match ov.lookup p with
  | some c => c
  | none => .d d) :: viewC ov (p + 1) r
def flatC : List C → List D
 | [] => []
 | .d x :: r => x :: flatC r
 | _ :: r => .v undef :: flatC r
def ovOf : Nat → List C → List (Nat × C)
 | _, [] => []
 | p, .d _ :: r => ovOf (p + 1) r
 | p, c :: r => (p, c) :: ovOf (p + 1) r
section
variable {P : Program} {fr : Fr} {own : Own} {a : Act} {w w' : World} {pl : Pl} {o : Oper} {p : Path} {lk : Lk}
theorem viewC_len (ov : List (Nat × C)) : ∀ (ds : List D) (p : Nat), (viewC ov p ds).length = ds.length
 | [], _ => rfl
 | d :: r, p => by simp [viewC, viewC_len ov r]
theorem viewC_get (ov : List (Nat × C)) : ∀ (ds : List D) (p j : Nat), (viewC ov p ds)[j]? = (ds[j]?).map fun d => match ov.lookup (p + j) with
  | some c => c
  | none => .d d
 | [], _, j => by simp [viewC]
 | d :: r, p, 0 => by simp [viewC]
 | d :: r, p, j + 1 => by
  simp only [viewC, List.getElem?_cons_succ]
  rw [viewC_get ov r (p + 1) j, show p + 1 + j = p + (j + 1) by omega]
theorem view_ok {ov : List (Nat × C)} {ds : List D} {xs : List Value} (h : AllO w pl own ov ds xs) : All2 (COk w pl own) (viewC ov 0 ds) xs := by
 refine ⟨by rw [viewC_len]; exact h.1, fun j c x hc hx => ?_⟩
 rw [viewC_get] at hc
 simp only [Option.map_eq_some_iff, Nat.zero_add] at hc
 obtain ⟨d, hd, rfl⟩ := hc
 have := h.2 j d x hd hx
 cases ho : ov.lookup j with
 | none => rw [ho] at this; exact this
 | some c => rw [ho] at this; exact this
theorem flatC_len : ∀ cs : List C, (flatC cs).length = cs.length
 | [] => rfl
 | c :: r => by cases c <;> simp [flatC, flatC_len r]
theorem ovOf_ge : ∀ (cs : List C) (p j : Nat), j < p → (ovOf p cs).lookup j = none
 | [], _, _, _ => rfl
 | c :: r, p, j, h => by
  cases c with
  | d x => exact ovOf_ge r (p + 1) j (by omega)
  | _ =>
   simp only [ovOf, List.lookup]
   have : (j == p) = false := by simp; omega
   rw [this]
   exact ovOf_ge r (p + 1) j (by omega)
theorem split_ok : ∀ {cs : List C} {xs : List Value} (p : Nat), All2 (COk w pl own) cs xs → ∀ (j : Nat) (d : D) (x : Value), (flatC cs)[j]? = some d → xs[j]? = some x → OvOk w pl own d x ((ovOf p cs).lookup (p + j))
 | [], xs, p, h, j, d, x, hd, hx => by simp [flatC] at hd
 | c :: r, xs, p, h, j, d, x, hd, hx => by
  obtain ⟨y, ys, rfl, h1, h2⟩ := h.uncons
  cases j with
  | zero =>
   simp only [List.getElem?_cons_zero, Option.some.injEq] at hx
   subst hx
   cases c with
   | d z =>
    simp only [flatC, List.getElem?_cons_zero, Option.some.injEq] at hd
    subst hd
    simp only [ovOf, Nat.add_zero]
    rw [ovOf_ge r (p + 1) p (by omega)]
    exact h1
   | _ => simp only [ovOf, Nat.add_zero, List.lookup, beq_self_eq_true]; exact h1
  | succ j =>
   have ih := split_ok (p + 1) h2 j d x (by cases c <;> simpa [flatC] using hd) (by simpa using hx)
   rw [show p + 1 + j = p + (j + 1) by omega] at ih
   cases c with
   | d z => exact ih
   | _ =>
    simp only [ovOf, List.lookup]
    have : (p + (j + 1) == p) = false := by simp
    rw [this]
    exact ih
theorem allO_of {cs : List C} {xs : List Value} (h : All2 (COk w pl own) cs xs) : AllO w pl own (ovOf 0 cs) (flatC cs) xs :=
 ⟨by rw [flatC_len]; exact h.1, fun j d x hd hx => by have := split_ok 0 h j d x hd hx; rwa [Nat.zero_add] at this⟩
theorem mkd_ovOf : ∀ (cs : List C) (p : Nat), p + cs.length ≤ 4611686018427387904 → mkd (ovOf p cs) = false
 | [], _, _ => rfl
 | c :: r, p, h => by
  simp only [List.length_cons] at h
  have ih := mkd_ovOf r (p + 1) (by omega)
  cases c with
  | d x => exact ih
  | _ =>
   simp only [mkd, ovOf, List.any_cons, Bool.or_eq_false_iff] at ih ⊢
   exact ⟨by simp; omega, ih⟩
def arrOf (k : Nat) (e : TypeId) (sz n : Nat) (cs : List C) : Ob := .arr k ⟨e, ovOf 0 cs⟩ sz (chunks sz n (flatC cs))
theorem arr_view {i k : Nat} {e : AT} {sz : Nat} {es : List (List D)} (h : ObOk 0 w pl own i (.arr k e sz es)) : ∃ xs, ownsQ (mkd e.ov) w 0 e.e sz (.slice (pl.sl i).1 es.length (pl.sl i).2) es.length xs ∧ All2 (COk w pl own) (viewC e.ov 0 es.flatten) xs ∧ es.flatten.length = es.length * sz := by
 obtain ⟨xs, hx, hr, hs⟩ := h
 exact ⟨xs, hx, view_ok hr, flatten_len hs⟩
def loadG (P : Program) (lk : Lk) (ob : Own) (t : TypeId) (x : Operand) : Option Eff :=
 match lk [] x with
 | some (.c (.ea i k idx off)) => match ob i with
  | some (.arr k' ⟨e, y :: ov⟩ sz es) => match es[idx]? with
   | some ds => bif Nat.beq k' k && Nat.beq ds.length sz then (match loadC P t (viewC (y :: ov) (idx * sz) ds) off with
    | some s => some ⟨s, [], [i], []⟩
    | none => none) else none
   | none => none
  | _ => none
 | _ => none
theorem loadG_ok (m : Mem fr own w pl) (hl : LkOk a w pl own p lk) (hp : Eng.Holds a p) {t : TypeId} {x : Operand} (hop : o.op = .load t x) {ob : Own} {e : Eff} (h : loadG P lk ob t x = some e) (hob : ∀ i ∈ e.touch, own i = ob i) : Does P fr own a w pl o e := by
 unfold loadG at h
 split at h
 ·rename_i i k idx off hx
  split at h
  ·rename_i k' el y ov sz es hbx
   split at h
   ·rename_i ds hds
    cases hc : (Nat.beq k' k && Nat.beq ds.length sz) with
    | false => rw [hc] at h; cases h
    | true =>
     rw [hc] at h
     simp only [cond_true] at h
     simp only [Bool.and_eq_true, beq_t] at hc
     obtain ⟨rfl, hdl⟩ := hc
     split at h
     ·rename_i s hs
      simp only [Option.some.injEq] at h
      subst h
      have hi : own i = some (.arr k' ⟨el, y :: ov⟩ sz es) := by rw [hob i (by simp), hbx]
      obtain ⟨k2, e2, sz2, es2, hi2, _, hv, _⟩ := hl [] x _ hx holds_nil hp
      rw [hi] at hi2
      injection hi2 with hi2
      injection hi2 with h1 h2 h3 h4
      subst h1; subst h2; subst h3; subst h4
      obtain ⟨hlt, b, hA, hv⟩ := hv rfl
      obtain ⟨xs, hxs, hr, hss⟩ := m.obj i _ hi
      rcases hxs.all.2 with ⟨_, h0⟩ | ⟨g, cap, cur, fz, hvv, hB, hg, hn, hsz, htk⟩
      ·omega
      ·injection hvv with hA1 hA2 hA3
       rw [hA] at hA1
       simp only [Option.some.injEq, Addr.mk.injEq, and_true] at hA1
       subst hA1
       have hL : Lies w pl own (viewC (y :: ov) (idx * sz) ds) cur.toList (idx * sz) := by
        intro j c hj
        rw [viewC_get] at hj
        simp only [Option.map_eq_some_iff] at hj
        obtain ⟨d, hd, rfl⟩ := hj
        have hfd := flatten_get hss hds hd
        have hlt2 : idx * sz + j < xs.length := by rw [← hr.1]; exact (List.getElem?_eq_some_iff.1 hfd).1
        obtain ⟨u, hxj⟩ : ∃ u, xs[idx * sz + j]? = some u := ⟨_, List.getElem?_eq_getElem hlt2⟩
        have hok := hr.2 _ d _ hfd hxj
        refine ⟨u, ?_, ?_⟩
        ·rw [← htk, List.getElem?_take] at hxj
         split at hxj
         ·exact hxj
         ·cases hxj
        ·cases ho : (y :: ov).lookup (idx * sz + j) with
         | none => rw [show (AT.mk el (y :: ov)).ov = y :: ov from rfl, ho] at hok; exact hok
         | some c => rw [show (AT.mk el (y :: ov)).ov = y :: ov from rfl, ho] at hok; exact hok
       obtain ⟨v, hv2, hok⟩ := loadC_ok hs hL
       exact does_load (L := cur.toList) hop m hv (by simpa using hg) hv2 hok
     ·cases h
   ·cases h
  ·cases h
 ·cases h
def allD : List C → Bool
 | [] => true
 | .d _ :: r => allD r
 | _ => false
def storeG (P : Program) (lk : Lk) (ob : Own) (ty : TypeId) (x v : Operand) : Option Eff :=
 match lk [] x, lk [] v, P.info? ty with
 | some (.c (.ea i k idx off)), some s, some ti => match ob i, cellsS s with
  | some (.arr k' ⟨e, ov⟩ sz es), some cs =>
   bif ov.isEmpty && (Nat.beq off 0 && (allD cs && Nat.beq cs.length sz)) then none else
   bif Nat.beq k' k && (Nat.beq cs.length ti.size && (Nat.ble (idx * sz + off + cs.length) (es.length * sz) && (!(mkd ov) && Nat.ble (es.length * sz) 4611686018427387904))) then
    some ⟨.c .any, [(i, arrOf k e sz es.length (spliceC (viewC ov 0 es.flatten) (idx * sz + off) cs))], [i], []⟩ else none
  | _, _ => none
 | _, _, _ => none
theorem storeG_ok (m : Mem fr own w pl) (hl : LkOk a w pl own p lk) (hp : Eng.Holds a p) {ty : TypeId} {x v : Operand} (hop : o.op = .store ty x v) (hd : o.dst = none) {ob : Own} {e : Eff} (h : storeG P lk ob ty x v = some e) (hob : ∀ i ∈ e.touch, own i = ob i) : Does P fr own a w pl o e := by
 unfold storeG at h
 split at h
 ·rename_i i k idx off s ti hx hs hti
  split at h
  ·rename_i k' el ov sz es cs hbx hcs
   cases hc0 : (ov.isEmpty && (Nat.beq off 0 && (allD cs && Nat.beq cs.length sz))) with
   | true => rw [hc0] at h; cases h
   | false =>
    rw [hc0] at h
    simp only [cond_false] at h
    cases hc : (Nat.beq k' k && (Nat.beq cs.length ti.size && (Nat.ble (idx * sz + off + cs.length) (es.length * sz) && (!(mkd ov) && Nat.ble (es.length * sz) 4611686018427387904)))) with
    | false => rw [hc] at h; cases h
    | true =>
     rw [hc] at h
     simp only [cond_true, Option.some.injEq] at h
     simp only [Bool.and_eq_true, beq_t, Nat.ble_eq, Bool.not_eq_true'] at hc
     obtain ⟨rfl, hc1, hc2, hmk, hbig⟩ := hc
     subst h
     have hi : own i = some (.arr k' ⟨el, ov⟩ sz es) := by rw [hob i (by simp), hbx]
     obtain ⟨k2, e2, sz2, es2, hi2, _, hv, _⟩ := hl [] x _ hx holds_nil hp
     rw [hi] at hi2
     injection hi2 with hi2
     injection hi2 with h1 h2 h3 h4
     subst h1; subst h2; subst h3; subst h4
     obtain ⟨hlt, b, hA, hv⟩ := hv rfl
     have hcv := cellsS_ok hcs (hl [] v s hs holds_nil hp)
     obtain ⟨xs, hxs, hview, hfl⟩ := arr_view (m.obj i _ hi)
     rw [show mkd (AT.mk el ov).ov = false from hmk] at hxs
     have hview : All2 (COk w pl own) (viewC ov 0 es.flatten) xs := hview
     have hxl : xs.length = es.length * sz := by rw [← hview.1, viewC_len, hfl]
     have hvl : (a.eval v).cells.toList.length = cs.length := hcv.1.symm
     have hlen1 : (a.eval v).cells.size = ti.size := by simp at hvl; omega
     generalize hcl : (a.eval v).cells.toList = cells at hcv hvl
     generalize hpl : idx * sz + off = q at hc2 hv ⊢
     have hsplC : All2 (COk w pl own) (spliceC (viewC ov 0 es.flatten) q cs) (spliceC xs q cells) := spliceC_ok hview hcv q
     have hslen : (spliceC (viewC ov 0 es.flatten) q cs).length = es.length * sz := by
      unfold spliceC
      simp only [List.length_append, List.length_take, List.length_drop, viewC_len, hfl]
      omega
     rcases hxs.2 with ⟨_, h0⟩ | ⟨g, cap, cur, hvv, hB, hg, hn, hcap, hsz, htk⟩
     ·omega
     ·injection hvv with hA1 hA2 hA3
      rw [hA] at hA1
      simp only [Option.some.injEq, Addr.mk.injEq, and_true] at hA1
      subst hA1
      have hcl2 : es.length * sz ≤ cur.size := by rw [hsz]; exact Nat.mul_le_mul_right _ hn
      have hsp : (spliceC cur.toList q cells).take (es.length * sz) = spliceC xs q cells := by
       have e1 : (cur.toList.take q).length = q := by rw [List.length_take, Array.length_toList]; omega
       have e2 : (cur.toList.take q ++ cells).length = q + cells.length := by rw [List.length_append, e1]
       have e3 : (cur.toList.take q ++ cells).take (es.length * sz) = cur.toList.take q ++ cells := List.take_of_length_le (by rw [e2]; omega)
       have e4 : xs.take q = cur.toList.take q := by rw [← htk, List.take_take, Nat.min_eq_left (by omega)]
       have e5 : xs.drop (q + cells.length) = (cur.toList.drop (q + cells.length)).take (es.length * sz - (q + cells.length)) := by rw [← htk, List.drop_take]
       unfold spliceC
       rw [List.take_append, e3, e2, e4, e5]
      have hsl : (spliceC cur.toList q cells).length = cur.size := by
       unfold spliceC
       simp only [List.length_append, List.length_take, List.length_drop, Array.length_toList]
       omega
      have hrun : (execOp a.eval o).run P w = .ok .skip (w.setRow b (spliceC cur.toList q cells).toArray) := by
       unfold execOp
       simp only [hop, hv]
       have := run_storeCells_at (P := P) b q el cells 0 cur w hg (by simp; omega) (all2_one hcv)
       simp only [Nat.add_zero] at this ⊢
       simp only [Instr.storeAt, Instr.sureAddr, storeVar, sizeOf, typeInfo]
       simp [hti, hlen1, hcl, this, spliceC]
      have hgr : w.grownBy (w.setRow b (spliceC cur.toList q cells).toArray) ((pl.sl i).1.map (·.block)) := by
       refine ⟨rfl, rfl, rfl, by simp [World.setRow], fun q hq hne => heap_setRow_ne _ _ _ (fun he => hne ?_)⟩
       rw [hA, he]; rfl
      intro K Q hK
      obtain ⟨hch1, hch2, hch3⟩ := chunks_flatten sz es.length (flatC (spliceC (viewC ov 0 es.flatten) q cs)) (by rw [flatC_len]; exact hslen)
      have hmk2 : mkd (ovOf 0 (spliceC (viewC ov 0 es.flatten) q cs)) = false := mkd_ovOf _ 0 (by rw [hslen]; omega)
      obtain ⟨pl', m', L, hA'⟩ := m.turnArrO (k' := k') (e' := ⟨el, ovOf 0 (spliceC (viewC ov 0 es.flatten) q cs)⟩) (es' := chunks sz es.length (flatC (spliceC (viewC ov 0 es.flatten) q cs))) (A := some ⟨b, 0, none⟩) (cap := cap) (xs := spliceC xs q cells) hi hgr
       (by
        rw [show mkd (AT.mk el (ovOf 0 (spliceC (viewC ov 0 es.flatten) q cs))).ov = false from hmk2, hch2]
        exact ⟨by rw [← hsp]; simp only [List.length_take, hsl]; omega, .inr ⟨b, cap, (spliceC cur.toList q cells).toArray, rfl, hB, setRow_heap w _ cur _ el (0, 0) hg, hn, hcap, by simp [hsl, hsz], hsp⟩⟩)
       (.inl (by rw [hA])) (by rw [hch1]; exact allO_of hsplC) hch3 (.inr ⟨rfl, hch2, by rw [← hA3, ← hA]⟩)
      unfold Oper.wp
      rw [hrun, Oper.upon_skip]
      exact hK undef _ pl' m' L (.inl hd)
  ·cases h
 ·cases h
def bslG (P : Program) (lk : Lk) (ob : Own) (T : TypeId) (len : Nat) (parts : Array (Nat × Operand)) (nid : Nat) : Option Eff :=
 match ob nid, partsE lk parts.toList, P.underlying T with
 | none, some ps, some (.slice e) => match P.info? e with
  | some i => match i.zero with
   | some z => bif Nat.ble (len * i.size) 16777216 && (Nat.ble 1 i.size && Nat.beq z.cells.size i.size) then
     (match ofCells ((Array.range (len * i.size)).map ((if len * i.size = 0 then #[] else z.cells)[· % (if len * i.size = 0 then #[] else z.cells).size]!)).toList with
     | some zc => match fillC (fun k => some (k * i.size, i.size)) zc ps with
      | some cs => bif allD cs then none else bif Nat.beq cs.length (len * i.size) then some ⟨.c (.ar nid 0), [(nid, arrOf 0 e i.size len cs)], [nid], []⟩ else none
      | none => none
     | none => none) else none
   | none => none
  | none => none
 | _, _, _ => none
theorem bslG_ok (m : Mem fr own w pl) (hl : LkOk a w pl own p lk) (hp : Eng.Holds a p) {T : TypeId} {len : Nat} {parts : Array (Nat × Operand)} (hop : o.op = .buildSlice T len parts) {ob : Own} {nid : Nat} {e : Eff} (h : bslG P lk ob T len parts nid = some e) (hob : ∀ i ∈ e.touch, own i = ob i) : Does P fr own a w pl o e := by
 unfold bslG at h
 split at h
 ·rename_i ps el hnone hps hu
  have hparts := partsE_ok hl hp hps
  split at h
  ·rename_i i hi
   split at h
   ·rename_i z hz
    cases hc : (Nat.ble (len * i.size) 16777216 && (Nat.ble 1 i.size && Nat.beq z.cells.size i.size)) with
    | false => rw [hc] at h; cases h
    | true =>
     rw [hc] at h
     simp only [cond_true] at h
     simp only [Bool.and_eq_true, beq_t, Nat.ble_eq] at hc
     obtain ⟨hc1, hc2, hc3⟩ := hc
     split at h
     ·rename_i zc hzc
      split at h
      ·rename_i cs hf
       cases hall : allD cs with
       | true => rw [hall] at h; cases h
       | false =>
        rw [hall] at h
        simp only [cond_false] at h
        cases hcl : Nat.beq cs.length (len * i.size) with
        | false => rw [hcl] at h; cases h
        | true =>
         rw [hcl] at h
         simp only [cond_true, Option.some.injEq] at h
         have hcl := Nat.eq_of_beq_eq_true hcl
         subst h
         obtain ⟨cells', h1, h2⟩ := fillC_ok hf (ofCells_ok hzc) hparts
         obtain ⟨hfl, hln, hsz⟩ := chunks_flatten i.size len (flatC cs) (by rw [flatC_len]; exact hcl)
         have hcs : cells'.size = len * i.size := by have := h2.1; simp at this; omega
         have hlen : len ≤ maxLen := by
          have : len ≤ len * i.size := Nat.le_mul_of_pos_right len hc2
          unfold maxLen; omega
         have hg : w.grownBy (w.alloc (.cells cells' el)) none := ⟨rfl, rfl, rfl, by simp, fun k hk _ => Below.heap_alloc _ _ _ hk⟩
         have hr : (execOp a.eval o).run P w = .ok (.value (.slice (some ⟨w.heap.size, 0, none⟩) len len)) (w.alloc (.cells cells' el)) := by
          unfold execOp
          simp only [hop, Instr.buildSlice]
          have hsz2 : ¬ len * i.size > 2 ^ 24 := by omega
          by_cases h0 : len * i.size = 0
          ·simp only [h0, if_true] at h1 hsz2 ⊢
           simp at h1
           simp [run_underlying hu, sizeOf, typeInfo, hi, h0, h1, newRow, newObj]
           rfl
          ·simp only [h0, if_false] at h1
           simp [run_underlying hu, sizeOf, typeInfo, hi, h0, h1, newRow, newObj, zeroValue, hz, hsz2]
           rfl
         intro K Q hK
         have hmk : mkd (ovOf 0 cs) = false := mkd_ovOf _ 0 (by omega)
         obtain ⟨pl', m', L, hA⟩ := m.newArr (i := nid) (e := ⟨el, ovOf 0 cs⟩) (sz := i.size) (es := chunks i.size len (flatC cs)) (xs := cells'.toList) (A := some ⟨w.heap.size, 0, none⟩) (cap := len) (by rw [hob nid (by simp), hnone]) hg
          (by
           rw [show mkd (AT.mk el (ovOf 0 cs)).ov = false from hmk]
           exact ⟨by rw [hln]; simp [hcs], .inr ⟨w.heap.size, len, cells', by rw [hln], Nat.zero_le _, heap_alloc_new w _, by omega, hlen, hcs, by rw [hln, List.take_of_length_le (by simp [hcs])]⟩⟩)
          (fun ad h => by injection h with h; rw [← h]; exact Nat.le_refl _) (by rw [hfl]; exact allO_of h2) hsz
         unfold Oper.wp
         rw [hr, Oper.upon_value]
         exact hK _ _ pl' m' L (.inr ⟨0, _, i.size, _, upd_same _ _ _, Nat.le_refl _, fun _ => by rw [hA, hln], rfl⟩)
      ·cases h
     ·cases h
   ·cases h
  ·cases h
 ·cases h
def readX (lk : Lk) (ob : Own) (x : Operand) : Option (Nat × Nat × List C × List Nat) :=
 match lk [] x with
 | some (.c (.d (.sl sz es))) => some (sz, es.length, es.flatten.map .d, [])
 | some (.c (.ar i k)) => match ob i with
  | some (.arr k' ⟨_, ov⟩ sz es) => bif Nat.beq k' k && !(mkd ov) then some (sz, es.length, viewC ov 0 es.flatten, [i]) else none
  | _ => none
 | _ => none
theorem readX_ok (m : Mem fr own w pl) (hl : LkOk a w pl own p lk) (hp : Eng.Holds a p) {ob : Own} {x : Operand} {sz n : Nat} {cs : List C} {t : List Nat} (h : readX lk ob x = some (sz, n, cs, t)) (hob : ∀ i ∈ t, own i = ob i) :
  ∃ A c xs, a.eval x = .slice A n c ∧ All2 (COk w pl own) cs xs ∧ cs.length = n * sz ∧ ((n = 0 ∧ c = 0) ∨ ∃ b off, A = some ⟨b, off, none⟩ ∧ ∀ (j : Nat) (u : Value), xs[j]? = some u → w.cell? ⟨b, off + j, none⟩ = some u) := by
 unfold readX at h
 split at h
 ·rename_i sz' es hx
  simp only [Option.some.injEq, Prod.mk.injEq] at h
  obtain ⟨rfl, rfl, rfl, rfl⟩ := h
  obtain ⟨A, c, xs, h1, h2, h3, h4, h5⟩ := readS_ok (ob := own) m hl hp (show readS lk own x = some (sz', es, []) by unfold readS; rw [hx]) (fun i hi => by cases hi)
  refine ⟨A, c, xs, h1, all2_mapG (f := C.d) (S := COk w pl own) (fun x y h => h) h2, by rw [List.length_map]; exact flatten_len h3, h5.imp (fun h => ⟨by rw [h.1]; rfl, h.2⟩) id⟩
 ·rename_i i k hx
  split at h
  ·rename_i k' el ov sz' es hi
   cases hc : (Nat.beq k' k && !(mkd ov)) with
   | false => rw [hc] at h; cases h
   | true =>
    rw [hc] at h
    simp only [cond_true, Option.some.injEq, Prod.mk.injEq] at h
    obtain ⟨rfl, rfl, rfl, rfl⟩ := h
    simp only [Bool.and_eq_true, beq_t, Bool.not_eq_true'] at hc
    obtain ⟨rfl, hmk⟩ := hc
    have hi' : own i = some (.arr k' ⟨el, ov⟩ sz' es) := by rw [hob i (by simp), hi]
    have hv := ar_cur (w := w) (hl [] x _ hx holds_nil hp) hi'
    obtain ⟨xs, hxs, hview, hfl⟩ := arr_view (m.obj i _ hi')
    rw [show mkd (AT.mk el ov).ov = false from hmk] at hxs
    refine ⟨_, _, xs, hv, hview, by rw [viewC_len]; exact hfl, ?_⟩
    rcases hxs.2 with ⟨h0, h1⟩ | ⟨g, cap, cur, hvv, hB, hg, hn, hcap, hsz, htk⟩
    ·injection h0 with _ _ h2
     exact .inl ⟨h1, h2⟩
    ·injection hvv with hA1 hA2 hA3
     refine .inr ⟨g, 0, hA1, fun j u hj => ?_⟩
     rw [cell_of_row w g _ cur el (0, 0) hg]
     rw [← htk, List.getElem?_take] at hj
     split at hj
     ·simpa using hj
     ·cases hj
  ·cases h
 ·cases h
def appG (P : Program) (lk : Lk) (ob : Own) (T : TypeId) (s x : Operand) (nid : Nat) : Option Eff :=
 match P.underlying T, readX lk ob x with
 | some (.slice e), some (szx, nx, news, tx) => match P.info? e with
  | some i => match i.zero with
   | some z => bif Nat.beq z.cells.size i.size && (Nat.ble 1 i.size && Nat.beq szx i.size) then
     (match lk [] s with
     | some (.c (.ar j k)) => match ob j with
      | some (.arr k' ⟨e', ov⟩ sz es) => bif allD news && ov.isEmpty then none else
       bif Nat.beq k' k && (Nat.beq e' e && (Nat.beq sz i.size && (!(mkd ov) && Nat.ble ((es.length + nx) * (i.bytes + 1)) 140737488355328))) && Nat.ble ((es.length + nx) * i.size) 4611686018427387904 then
        some ⟨.c (.ar j (k + 1)), [(j, arrOf (k + 1) e i.size (es.length + nx) (viewC ov 0 es.flatten ++ news))], j :: tx, []⟩ else none
      | _ => none
     | some (.c (.d (.v (.slice none 0 0)))) => match ob nid with
      | none => bif allD news then none else bif Nat.ble (nx * (i.bytes + 1)) 140737488355328 && Nat.ble (nx * i.size) 4611686018427387904 then some ⟨.c (.ar nid 0), [(nid, arrOf 0 e i.size nx news)], nid :: tx, []⟩ else none
      | some _ => none
     | _ => none) else none
   | none => none
  | none => none
 | _, _ => none
theorem appG_ok (m : Mem fr own w pl) (hl : LkOk a w pl own p lk) (hp : Eng.Holds a p) {T : TypeId} {s x : Operand} (hop : o.op = .call { callee := .builtin .append, args := #[s, x], argTypes := #[T, T] }) {ob : Own} {nid : Nat} {e : Eff} (h : appG P lk ob T s x nid = some e) (hob : ∀ i ∈ e.touch, own i = ob i) : Does P fr own a w pl o e := by
 unfold appG at h
 have hrun : ∀ {v w'}, (Builtin.append_ #[T, T] o.type #[a.eval s, a.eval x]).run P w = .ok v w' → (execOp a.eval o).run P w = .ok (.value v) w' := by
  intro v w' hr
  unfold execOp
  simp only [hop, resolve, invoke, builtin, Sem.run_bind, Sem.run_pure, Result.andThen_ok, List.map_toArray, List.map_cons, List.map_nil, hr]
 split at h
 ·rename_i el szx nx news tx hu hrx
  split at h
  ·rename_i i hi
   split at h
   ·rename_i z hz
    cases hc : (Nat.beq z.cells.size i.size && (Nat.ble 1 i.size && Nat.beq szx i.size)) with
    | false => rw [hc] at h; cases h
    | true =>
     rw [hc] at h
     simp only [cond_true] at h
     simp only [Bool.and_eq_true, beq_t, Nat.ble_eq] at hc
     obtain ⟨hc1, hc2, rfl⟩ := hc
     split at h
     ·rename_i j k hs
      split at h
      ·rename_i k' e' ov sz es hbx
       cases hc0 : (allD news && ov.isEmpty) with
       | true => rw [hc0] at h; cases h
       | false =>
        rw [hc0] at h
        simp only [cond_false] at h
        cases hk : (Nat.beq k' k && (Nat.beq e' el && (Nat.beq sz i.size && (!(mkd ov) && Nat.ble ((es.length + nx) * (i.bytes + 1)) 140737488355328))) && Nat.ble ((es.length + nx) * i.size) 4611686018427387904) with
        | false => rw [hk] at h; cases h
        | true =>
         rw [hk] at h
         simp only [cond_true, Option.some.injEq] at h
         simp only [Bool.and_eq_true, beq_t, Nat.ble_eq, Bool.not_eq_true'] at hk
         obtain ⟨⟨rfl, rfl, rfl, hmk, hbig⟩, hbig2⟩ := hk
         subst h
         have hj : own j = some (.arr k' ⟨e', ov⟩ i.size es) := by rw [hob j (by simp), hbx]
         have hv := ar_cur (w := w) (hl [] s _ hs holds_nil hp) hj
         obtain ⟨A2, c2, xs2, hx2, hr2, hl2, hA2⟩ := readX_ok m hl hp hrx (fun i hi => hob i (by simp [hi]))
         obtain ⟨xs, hxs, hview, hfl⟩ := arr_view (m.obj j _ hj)
         rw [show mkd (AT.mk e' ov).ov = false from hmk] at hxs
         have hview : All2 (COk w pl own) (viewC ov 0 es.flatten) xs := hview
         have hl2' : xs2.length = nx * i.size := by rw [← hr2.1, hl2]
         obtain ⟨A', c', w', h1, h2, h3, h4⟩ := run_append2 (P := P) (w := w) 0 T o.type e' i z hu hi hz hc1 hc2 hxs hl2' (all2_one hr2) hA2 hbig (Nat.zero_le _)
         intro K Q hK
         have hall := hview.append hr2
         have hcl : (viewC ov 0 es.flatten ++ news).length = (es.length + nx) * i.size := by rw [List.length_append, viewC_len, hfl, hl2, Nat.add_mul]
         obtain ⟨hch1, hch2, hch3⟩ := chunks_flatten i.size (es.length + nx) (flatC (viewC ov 0 es.flatten ++ news)) (by rw [flatC_len]; exact hcl)
         have hmk2 : mkd (ovOf 0 (viewC ov 0 es.flatten ++ news)) = false := mkd_ovOf _ 0 (by omega)
         obtain ⟨pl', m', L, hA⟩ := m.turnArrO (k' := k' + 1) (e' := ⟨e', ovOf 0 (viewC ov 0 es.flatten ++ news)⟩) (es' := chunks i.size (es.length + nx) (flatC (viewC ov 0 es.flatten ++ news))) (A := A') (cap := c') (xs := xs ++ xs2) hj h3 (by
           rw [show mkd (AT.mk e' (ovOf 0 (viewC ov 0 es.flatten ++ news))).ov = false from hmk2, hch2]; exact h2)
          (h4.imp id (fun h ad had => by rw [had] at h; simp only [Option.map_some, Option.some.injEq] at h; omega))
          (by rw [hch1]; exact allO_of hall) hch3 (.inl (by omega))
         have := hrun (v := .slice A' (es.length + nx) c') (w' := w') (by rw [hv, hx2]; exact h1)
         unfold Oper.wp
         rw [this, Oper.upon_value]
         exact hK _ _ pl' m' L (.inr ⟨k' + 1, _, i.size, _, upd_same _ _ _, Nat.le_refl _, fun _ => by rw [hA, hch2], rfl⟩)
      ·cases h
     ·rename_i hs
      split at h
      ·rename_i hnone
       cases hc0 : allD news with
       | true => rw [hc0] at h; cases h
       | false =>
        rw [hc0] at h
        simp only [cond_false] at h
        cases hk : (Nat.ble (nx * (i.bytes + 1)) 140737488355328 && Nat.ble (nx * i.size) 4611686018427387904) with
        | false => rw [hk] at h; cases h
        | true =>
         rw [hk] at h
         simp only [cond_true, Option.some.injEq] at h
         simp only [Bool.and_eq_true, Nat.ble_eq] at hk
         obtain ⟨hbig, hbig2⟩ := hk
         subst h
         have hv : a.eval s = .slice none 0 0 := Rd.exact (hl [] s _ hs holds_nil hp)
         obtain ⟨A2, c2, xs2, hx2, hr2, hl2, hA2⟩ := readX_ok m hl hp hrx (fun i hi => hob i (by simp [hi]))
         have hl2' : xs2.length = nx * i.size := by rw [← hr2.1, hl2]
         obtain ⟨A', c', w', h1, h2, h3, h4⟩ := run_append2 (P := P) (w := w) 0 T o.type el i z hu hi hz hc1 hc2 (World.ownsRow_nil w _ _ _) hl2' (all2_one hr2) hA2 (by rw [Nat.zero_add]; exact hbig) (Nat.zero_le _)
         rw [Nat.zero_add] at h1 h2
         intro K Q hK
         obtain ⟨hch1, hch2, hch3⟩ := chunks_flatten i.size nx (flatC news) (by rw [flatC_len]; exact hl2)
         have hmk2 : mkd (ovOf 0 news) = false := mkd_ovOf _ 0 (by omega)
         obtain ⟨pl', m', L, hA⟩ := m.newArr (i := nid) (e := ⟨el, ovOf 0 news⟩) (sz := i.size) (es := chunks i.size nx (flatC news)) (xs := xs2) (A := A') (cap := c') (by rw [hob nid (by simp), hnone]) h3 (by
           rw [show mkd (AT.mk el (ovOf 0 news)).ov = false from hmk2, hch2]; simp only [List.nil_append] at h2; exact h2)
          (fun ad had => by
           rw [had] at h4
           rcases h4 with h | h
           ·simp at h
           ·simp only [Option.map_some, Option.some.injEq] at h; omega) (by rw [hch1]; exact allO_of hr2) hch3
         have := hrun (v := .slice A' nx c') (w' := w') (by rw [hv, hx2]; exact h1)
         unfold Oper.wp
         rw [this, Oper.upon_value]
         exact hK _ _ pl' m' L (.inr ⟨0, _, i.size, _, upd_same _ _ _, Nat.le_refl _, fun _ => by rw [hA, hch2], rfl⟩)
      ·cases h
     ·cases h
   ·cases h
  ·cases h
 ·cases h
end
end Go.V
