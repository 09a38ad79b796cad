/- Part 32 of the proof: texts D4, D5, D6, D7, TryzShelf, D8, D9, M2, F1, D11, D12, G3, L1, H0, L3, R1, G6, H1, H2, X1, X2, XO, X3, XF. -/
import Derived.Test.YtdejnaokkdndeaaGreatDoorP26
import Derived.Test.YtdejnaokkdndeaaGreatDoorP27
import Derived.Test.YtdejnaokkdndeaaGreatDoorP29
import Derived.Shelf.Strings.Builder1
import Derived.Shelf.Strings.Builder2
import Derived.Shelf.Strings.OnBuilder
import Derived.Shelf.Small.Utf8
import Derived.Shelf.Small.Bits
import Derived.Shelf.Small.Strs
import Derived.Shelf.Small.Wraps
import Derived.Shelf.Strings.BuilderF
import Derived.Shelf.Strings.BuilderK
import Derived.Shelf.Utf8.RuneCount
import Derived.Shelf.Strconv.Atoi
import Derived.Shelf.Strconv.Itoa0
import Derived.Shelf.Strconv.Itoa1
import Derived.Shelf.LaysM
import Derived.Shelf.Strconv.Itoa2
import Derived.Shelf.Strconv.Itoa3
import Derived.Shelf.Strconv.AtoiErrFast
import Derived.Shelf.Strconv.ParseIntEmpty
import Derived.Shelf.Strconv.AtoiFail
import Derived.Shelf.Strconv.Clone
import Derived.Shelf.Strconv.SyntaxError
import Derived.Shelf.LaysC
import Derived.Shelf.Strconv.ToError
import Derived.Shelf.Strconv.Lower
import Derived.Shelf.Strconv.ParseUint10
import Derived.Shelf.Strconv.ParseUint10Empty
import Derived.Shelf.Strconv.ParseUint10Any
import Derived.Shelf.Strconv.ParseInt10
import Derived.Shelf.Strconv.AtoiLong
import Derived.Shelf.Strconv.AtoiInnerAll
import Derived.Shelf.Strconv.RangeError
import Derived.Shelf.Strconv.ToErrorRange
import Derived.Shelf.Strconv.AtoiAll
import Derived.Shelf.Strconv.ErrVarAll
import Derived.Shelf.Strings.Search1
import Derived.Shelf.Strings.Search2
import Derived.Shelf.Strings.Search3
import Derived.Shelf.Strings.Cut
import Derived.Shelf.Strings.Count
import Derived.Shelf.Strings.Shaped
import Derived.Shelf.Strings.Prefix
import Derived.Shelf.Strings.Split
import Derived.Shelf.Strings.Replace
import Derived.Shelf.Strings.SplitShaped
import Derived.Shelf.Unicode.Latin
import Derived.Shelf.Unicode.Decode
import Derived.Shelf.Strings.Runes
import Derived.Shelf.Strings.RuneCount
import Derived.Shelf.Strings.AsciiSet
import Derived.Shelf.Strings.Explode
import Derived.Shelf.Bits.Mul64
import Derived.Shelf.Strings.Repeat
import Derived.Shelf.Unicode.DecodeSlow
import Derived.Shelf.Unicode.DecodeAny
import Derived.Shelf.Unicode.DecodeLast
import Derived.Shelf.Unicode.CaseLookup
import Derived.Shelf.Unicode.CaseConvert
import Derived.Shelf.Unicode.CaseTo
import Derived.Shelf.Unicode.CaseLaid
import Derived.Shelf.Slices.Turned
import Derived.Shelf.Slices.Equal
import Derived.Ground.Names2Prog
import Derived.Shelf.Slices.Clone
import Derived.Shelf.Slices.SearchI
import Derived.Ground.SlgnProg
import Derived.Shelf.SlicesE.Clone
import Derived.Test.YtdejnaokkdndeaaGreatDoorProg
import Derived.Lib.AppendIntMem
import Derived.WalkKit
import Derived.WalkSpells
import Derived.WalkLawsBesides
import Derived.Deep.QuietTactic
import Derived.BigQuiet
import Derived.KernelRfl
import Derived.Lib.AppendZerosOnto
set_option linter.all false
namespace Go.Proofs.YtdejnaokkdndeaaGreatDoor
open Go.RowKit Go.V
open Go.Eng (inR byteAt u8 bytesV)
variable {g : Gv}
end Go.Proofs.YtdejnaokkdndeaaGreatDoor
namespace Go.Proofs.YtdejnaokkdndeaaGreatDoor
open Go.RowKit Go.V
open Go.Eng (inR byteAt u8 bytesV)
variable {g : Gv}
theorem isTextL_len {l : List UInt8} (h : isTextL l = true) : l.length ≤ 200 := by
 simp only [isTextL, isTextB, Bool.and_eq_true, decide_eq_true_eq, S_size] at h; omega
end Go.Proofs.YtdejnaokkdndeaaGreatDoor
namespace Go.Proofs.YtdejnaokkdndeaaGreatDoor
open Go.RowKit Go.V
open Go.Eng (inR byteAt u8 bytesV)
variable {g : Gv}
end Go.Proofs.YtdejnaokkdndeaaGreatDoor
namespace Go.Proofs.YtdejnaokkdndeaaGreatDoor
open Go.RowKit Go.V
open Go.Eng (inR byteAt u8 bytesV)
variable {g : Gv}
end Go.Proofs.YtdejnaokkdndeaaGreatDoor
namespace Go.Proofs
open Go.Shelf
def Tryz.lays122_ren : Go.Shelf.Ren := ⟨fun | 122 => 281 | 215 => 340 | n => n, fun | 3 => 3 | 4 => 4 | n => n, fun | n => n⟩
theorem Tryz.lays122 : Go.Proofs.Lays.n122 Tryz.prog Tryz.lays122_ren := {
 mixed := by kernel_rfl
 f122 := Tryz.func281.trans (congrArg some (by kernel_rfl))
 f215 := Tryz.func340.trans (congrArg some (by kernel_rfl))
 t3 := Tryz.underlying3
 a3 := Tryz.isAgg3
 z3 := Tryz.sizeOf3
 v3 := Tryz.zeroValue3
 t4 := Tryz.underlying4
 a4 := Tryz.isAgg4
 z4 := Tryz.sizeOf4
 v4 := Tryz.zeroValue4 }
open Go.RowKit in
theorem Tryz.cmp_Compare_int (x y : Int) (w : World) :
  Calls Tryz.prog 281 #[.int .i64 x, .int .i64 y] w fun e w' => e = .returned (.int .i64 (Lib.compareInt x y)) ∧ w' = w := Any.cmp_Compare_int Tryz.lays122 x y w
def Tryz.lays283_ren : Go.Shelf.Ren := ⟨fun | 283 => 373 | n => n, fun | 3 => 3 | 9 => 9 | 4 => 4 | n => n, fun | n => n⟩
theorem Tryz.lays283 : Go.Proofs.Lays.n283 Tryz.prog Tryz.lays283_ren := {
 mixed := by kernel_rfl
 f283 := Tryz.func373.trans (congrArg some (by kernel_rfl))
 t3 := Tryz.underlying3
 a3 := Tryz.isAgg3
 z3 := Tryz.sizeOf3
 v3 := Tryz.zeroValue3
 t4 := Tryz.underlying4
 a4 := Tryz.isAgg4
 z4 := Tryz.sizeOf4
 v4 := Tryz.zeroValue4
 t9 := Tryz.underlying9
 a9 := Tryz.isAgg9
 z9 := Tryz.sizeOf9
 v9 := Tryz.zeroValue9 }
open Go.Lib in
theorem Tryz.internal_strconv_small (i : Nat) (h : i < 100) (w : World) :
  Calls Tryz.prog 373 #[.int .i64 i] w fun e w' => e = .returned (.string ⟨(Lib.decDigits i).toArray⟩) ∧ w' = w := Any.internal_strconv_small Tryz.lays283 i h w
def Tryz.laysM284_ren : Go.Shelf.Ren := ⟨fun | 284 => 374 | 129 => 377 | 317 => 392 | 318 => 393 | n => n, fun | 53 => 250 | 3 => 3 | 212 => 342 | 0 => 0 | 4 => 4 | 46 => 276 | 5 => 5 | 9 => 9 | n => n, fun | 17 => 10 | n => n⟩
theorem Tryz.laysM284 : Go.Proofs.LaysM.n284 Tryz.prog Tryz.laysM284_ren := {
 mixed := by kernel_rfl
 f129 := Tryz.func377.trans (congrArg some (by kernel_rfl))
 f284 := Tryz.func374.trans (congrArg some (by kernel_rfl))
 f317 := Tryz.func392.trans (congrArg some (by kernel_rfl))
 f318 := Tryz.func393.trans (congrArg some (by kernel_rfl))
 t0 := Tryz.underlying0
 a0 := Tryz.isAgg0
 z0 := Tryz.sizeOf0
 v0 := Tryz.zeroValue0
 t3 := Tryz.underlying3
 a3 := Tryz.isAgg3
 z3 := Tryz.sizeOf3
 v3 := Tryz.zeroValue3
 t4 := Tryz.underlying4
 a4 := Tryz.isAgg4
 z4 := Tryz.sizeOf4
 v4 := Tryz.zeroValue4
 t5 := Tryz.underlying5
 a5 := Tryz.isAgg5
 z5 := Tryz.sizeOf5
 v5 := Tryz.zeroValue5
 t9 := Tryz.underlying9
 a9 := Tryz.isAgg9
 z9 := Tryz.sizeOf9
 v9 := Tryz.zeroValue9
 t46 := Tryz.underlying276
 a46 := Tryz.isAgg276
 z46 := Tryz.sizeOf276
 v46 := Tryz.zeroValue276
 t53 := Tryz.underlying250
 a53 := Tryz.isAgg250
 z53 := Tryz.sizeOf250
 v53 := Tryz.zeroValue250
 t212 := Tryz.underlying342
 a212 := Tryz.isAgg342
 z212 := Tryz.sizeOf342
 v212 := Tryz.zeroValue342
 g17 := by kernel_rfl
 i0 := by kernel_rfl
 i3 := by kernel_rfl
 i4 := by kernel_rfl
 i5 := by kernel_rfl
 i9 := by kernel_rfl
 i46 := by kernel_rfl
 i53 := by kernel_rfl
 i212 := by kernel_rfl
 m17 := by kernel_rfl }
open Go.Lib in
theorem Tryz.internal_strconv_numDigits (u : Nat) (h1 : 1 ≤ u) (h2 : u < 18446744073709551616) (w : World) (htab : Lib.TabIs Tryz.prog w "internal/strconv.uint64pow10" .u64 Lib.pow10Tab) :
  Calls Tryz.prog 374 #[.int .u64 u] w fun e w' => e = .returned (.int .i64 (Lib.nDigits u)) ∧ w' = w := Any.internal_strconv_numDigits Tryz.laysM284 u h1 h2 w htab
def Tryz.lays285_ren : Go.Shelf.Ren := ⟨fun | 285 => 375 | n => n, fun | 37 => 130 | 53 => 250 | 3 => 3 | 4 => 4 | 51 => 299 | 9 => 9 | 5 => 5 | 0 => 0 | n => n, fun | n => n⟩
theorem Tryz.lays285 : Go.Proofs.Lays.n285 Tryz.prog Tryz.lays285_ren := {
 mixed := by kernel_rfl
 f285 := Tryz.func375.trans (congrArg some (by kernel_rfl))
 t0 := Tryz.underlying0
 a0 := Tryz.isAgg0
 z0 := Tryz.sizeOf0
 v0 := Tryz.zeroValue0
 t3 := Tryz.underlying3
 a3 := Tryz.isAgg3
 z3 := Tryz.sizeOf3
 v3 := Tryz.zeroValue3
 t4 := Tryz.underlying4
 a4 := Tryz.isAgg4
 z4 := Tryz.sizeOf4
 v4 := Tryz.zeroValue4
 t5 := Tryz.underlying5
 a5 := Tryz.isAgg5
 z5 := Tryz.sizeOf5
 v5 := Tryz.zeroValue5
 t9 := Tryz.underlying9
 a9 := Tryz.isAgg9
 z9 := Tryz.sizeOf9
 v9 := Tryz.zeroValue9
 t37 := Tryz.underlying130
 a37 := Tryz.isAgg130
 z37 := Tryz.sizeOf130
 v37 := Tryz.zeroValue130
 t51 := Tryz.underlying299
 a51 := Tryz.isAgg299
 z51 := Tryz.sizeOf299
 v51 := Tryz.zeroValue299
 t53 := Tryz.underlying250
 a53 := Tryz.isAgg250
 z53 := Tryz.sizeOf250
 v53 := Tryz.zeroValue250 }
open Go.RowKit Go.Sort Go.Lib in
theorem Tryz.internal_strconv_formatBase10 (blk off cap : Nat) (u : Nat) (d : Array UInt8) (w : World) (hH : Holds (fun (b : UInt8) => Value.int .u8 (b.toNat : Int)) w blk off d) (hu : u < 10 ^ d.size) (hu64 : u < 18446744073709551616) (hsz : d.size < 4611686018427387904) :
  Calls Tryz.prog 375 #[.slice (some ⟨blk, off, none⟩) d.size cap, .int .u64 u] w fun e w' =>
   e = .returned (.tuple #[]) ∧ ∃ (n v' : Nat) (dk : Array UInt8), w' = (putRow (fun (b : UInt8) => Value.int .u8 (b.toNat : Int)) w blk off dk).drewN n ∧ FmtInv d.size u 0 v' dk := Any.internal_strconv_formatBase10 Tryz.lays285 blk off cap u d w hH hu hu64 hsz
def Tryz.laysM171_ren : Go.Shelf.Ren := ⟨fun | 171 => 264 | 243 => 325 | 246 => 368 | 283 => 373 | 284 => 374 | 285 => 375 | 286 => 376 | 129 => 377 | 317 => 392 | 318 => 393 | 319 => 394 | 320 => 395 | 337 => 401 | 338 => 402 | n => n, fun | 3 => 3 | 9 => 9 | 2 => 2 | 4 => 4 | 171 => 318 | 0 => 0 | 53 => 250 | 37 => 130 | 5 => 5 | 173 => 320 | 212 => 342 | 51 => 299 | 20 => 20 | 213 => 343 | 46 => 276 | 232 => 358 | 233 => 359 | n => n, fun | 17 => 10 | 18 => 11 | 19 => 12 | n => n⟩
theorem Tryz.laysM171 : Go.Proofs.LaysM.n171 Tryz.prog Tryz.laysM171_ren := {
 mixed := by kernel_rfl
 f129 := Tryz.func377.trans (congrArg some (by kernel_rfl))
 f171 := Tryz.func264.trans (congrArg some (by kernel_rfl))
 f243 := Tryz.func325.trans (congrArg some (by kernel_rfl))
 f246 := Tryz.func368.trans (congrArg some (by kernel_rfl))
 f283 := Tryz.func373.trans (congrArg some (by kernel_rfl))
 f284 := Tryz.func374.trans (congrArg some (by kernel_rfl))
 f285 := Tryz.func375.trans (congrArg some (by kernel_rfl))
 f286 := Tryz.func376.trans (congrArg some (by kernel_rfl))
 f317 := Tryz.func392.trans (congrArg some (by kernel_rfl))
 f318 := Tryz.func393.trans (congrArg some (by kernel_rfl))
 f319 := Tryz.func394.trans (congrArg some (by kernel_rfl))
 f320 := Tryz.func395.trans (congrArg some (by kernel_rfl))
 f337 := Tryz.func401.trans (congrArg some (by kernel_rfl))
 f338 := Tryz.func402.trans (congrArg some (by kernel_rfl))
 t0 := Tryz.underlying0
 a0 := Tryz.isAgg0
 z0 := Tryz.sizeOf0
 v0 := Tryz.zeroValue0
 t2 := Tryz.underlying2
 a2 := Tryz.isAgg2
 z2 := Tryz.sizeOf2
 v2 := Tryz.zeroValue2
 t3 := Tryz.underlying3
 a3 := Tryz.isAgg3
 z3 := Tryz.sizeOf3
 v3 := Tryz.zeroValue3
 t4 := Tryz.underlying4
 a4 := Tryz.isAgg4
 z4 := Tryz.sizeOf4
 v4 := Tryz.zeroValue4
 t5 := Tryz.underlying5
 a5 := Tryz.isAgg5
 z5 := Tryz.sizeOf5
 v5 := Tryz.zeroValue5
 t9 := Tryz.underlying9
 a9 := Tryz.isAgg9
 z9 := Tryz.sizeOf9
 v9 := Tryz.zeroValue9
 t20 := Tryz.underlying20
 a20 := Tryz.isAgg20
 z20 := Tryz.sizeOf20
 v20 := Tryz.zeroValue20
 t37 := Tryz.underlying130
 a37 := Tryz.isAgg130
 z37 := Tryz.sizeOf130
 v37 := Tryz.zeroValue130
 t46 := Tryz.underlying276
 a46 := Tryz.isAgg276
 z46 := Tryz.sizeOf276
 v46 := Tryz.zeroValue276
 t51 := Tryz.underlying299
 a51 := Tryz.isAgg299
 z51 := Tryz.sizeOf299
 v51 := Tryz.zeroValue299
 t53 := Tryz.underlying250
 a53 := Tryz.isAgg250
 z53 := Tryz.sizeOf250
 v53 := Tryz.zeroValue250
 t171 := Tryz.underlying318
 a171 := Tryz.isAgg318
 z171 := Tryz.sizeOf318
 v171 := Tryz.zeroValue318
 t173 := Tryz.underlying320
 a173 := Tryz.isAgg320
 z173 := Tryz.sizeOf320
 v173 := Tryz.zeroValue320
 t212 := Tryz.underlying342
 a212 := Tryz.isAgg342
 z212 := Tryz.sizeOf342
 v212 := Tryz.zeroValue342
 t213 := Tryz.underlying343
 a213 := Tryz.isAgg343
 z213 := Tryz.sizeOf343
 t232 := Tryz.underlying358
 a232 := Tryz.isAgg358
 z232 := Tryz.sizeOf358
 v232 := Tryz.zeroValue358
 t233 := Tryz.underlying359
 a233 := Tryz.isAgg359
 z233 := Tryz.sizeOf359
 v233 := Tryz.zeroValue359
 g17 := by kernel_rfl
 g18 := by kernel_rfl
 g19 := by kernel_rfl
 i0 := by kernel_rfl
 i2 := by kernel_rfl
 i3 := by kernel_rfl
 i4 := by kernel_rfl
 i5 := by kernel_rfl
 i9 := by kernel_rfl
 i20 := by kernel_rfl
 i37 := by kernel_rfl
 i46 := by kernel_rfl
 i51 := by kernel_rfl
 i53 := by kernel_rfl
 i171 := by kernel_rfl
 i173 := by kernel_rfl
 i212 := by kernel_rfl
 i232 := by kernel_rfl
 i233 := by kernel_rfl
 m17 := by kernel_rfl
 m18 := by kernel_rfl
 m19 := by kernel_rfl }
open Go.RowKit Go.Sort Go.Lib in
theorem Tryz.strconv_Itoa (n : Int) (h0 : -9223372036854775808 ≤ n) (h1 : n ≤ 9223372036854775807) (w : World) (htab : Lib.TabIs Tryz.prog w "internal/strconv.uint64pow10" .u64 Lib.pow10Tab) :
  Calls Tryz.prog 264 #[.int .i64 n] w fun e w' => e = .returned (.string ⟨(Lib.itoa n).toArray⟩) ∧ ∃ k os, w' = grow (w.drewN k) os := Any.strconv_Itoa Tryz.laysM171 n h0 h1 w htab
def Tryz.lays217_ren : Go.Shelf.Ren := ⟨fun | 217 => 305 | 266 => 353 | n => n, fun | 9 => 9 | 5 => 5 | 3 => 3 | n => n, fun | n => n⟩
theorem Tryz.lays217 : Go.Proofs.Lays.n217 Tryz.prog Tryz.lays217_ren := {
 mixed := by kernel_rfl
 f217 := Tryz.func305.trans (congrArg some (by kernel_rfl))
 f266 := Tryz.func353.trans (congrArg some (by kernel_rfl))
 t3 := Tryz.underlying3
 a3 := Tryz.isAgg3
 z3 := Tryz.sizeOf3
 v3 := Tryz.zeroValue3
 t5 := Tryz.underlying5
 a5 := Tryz.isAgg5
 z5 := Tryz.sizeOf5
 v5 := Tryz.zeroValue5
 t9 := Tryz.underlying9
 a9 := Tryz.isAgg9
 z9 := Tryz.sizeOf9
 v9 := Tryz.zeroValue9 }
open Go.RowKit Go.Lib in
theorem Tryz.stringslite_IndexByte (s : ByteArray) (c : Int) (w : World) :
  Calls Tryz.prog 305 #[.string s, .int .u8 c] w fun e w' => e = .returned (.int .i64 (Lib.indexByte s.data.toList c.toNat.toUInt8)) ∧ w' = w := Any.stringslite_IndexByte Tryz.lays217 s c w
def Tryz.lays145_ren : Go.Shelf.Ren := ⟨fun | 145 => 101 | 220 => 183 | 219 => 241 | 217 => 305 | 225 => 306 | 224 => 307 | 267 => 308 | 266 => 353 | 314 => 354 | n => n, fun | 9 => 9 | 4 => 4 | 59 => 145 | 3 => 3 | 5 => 5 | 46 => 276 | 146 => 300 | 51 => 299 | n => n, fun | 1 => 1 | n => n⟩
theorem Tryz.lays145 : Go.Proofs.Lays.n145 Tryz.prog Tryz.lays145_ren := {
 mixed := by kernel_rfl
 f145 := Tryz.func101.trans (congrArg some (by kernel_rfl))
 f217 := Tryz.func305.trans (congrArg some (by kernel_rfl))
 f219 := Tryz.func241.trans (congrArg some (by kernel_rfl))
 f220 := Tryz.func183.trans (congrArg some (by kernel_rfl))
 f224 := Tryz.func307.trans (congrArg some (by kernel_rfl))
 f225 := Tryz.func306.trans (congrArg some (by kernel_rfl))
 f266 := Tryz.func353.trans (congrArg some (by kernel_rfl))
 f267 := Tryz.func308.trans (congrArg some (by kernel_rfl))
 f314 := Tryz.func354.trans (congrArg some (by kernel_rfl))
 t3 := Tryz.underlying3
 a3 := Tryz.isAgg3
 z3 := Tryz.sizeOf3
 v3 := Tryz.zeroValue3
 t4 := Tryz.underlying4
 a4 := Tryz.isAgg4
 z4 := Tryz.sizeOf4
 v4 := Tryz.zeroValue4
 t5 := Tryz.underlying5
 a5 := Tryz.isAgg5
 z5 := Tryz.sizeOf5
 v5 := Tryz.zeroValue5
 t9 := Tryz.underlying9
 a9 := Tryz.isAgg9
 z9 := Tryz.sizeOf9
 v9 := Tryz.zeroValue9
 t46 := Tryz.underlying276
 a46 := Tryz.isAgg276
 z46 := Tryz.sizeOf276
 v46 := Tryz.zeroValue276
 t51 := Tryz.underlying299
 a51 := Tryz.isAgg299
 z51 := Tryz.sizeOf299
 v51 := Tryz.zeroValue299
 t59 := Tryz.underlying145
 a59 := Tryz.isAgg145
 z59 := Tryz.sizeOf145
 v59 := Tryz.zeroValue145
 t146 := Tryz.underlying300
 a146 := Tryz.isAgg300
 z146 := Tryz.sizeOf300
 v146 := Tryz.zeroValue300
 g1 := by kernel_rfl }
open Go.RowKit Go.Lib in
theorem Tryz.strings_Cut (s sep : ByteArray) (m : Int) (w : World) (hs : s.size < 4294967281) (hm : w.cell? ⟨1, 0, none⟩ = some (.int .i64 m)) :
  Calls Tryz.prog 101 #[.string s, .string sep] w fun e w' => e = .returned (.tuple #[.string ⟨(Lib.cut s.data.toList sep.data.toList).1.toArray⟩, .string ⟨(Lib.cut s.data.toList sep.data.toList).2.1.toArray⟩, .bool (Lib.cut s.data.toList sep.data.toList).2.2]) ∧ ∃ n, w' = w.drewN n := Any.strings_Cut Tryz.lays145 s sep m w hs hm
def Tryz.lays146_ren : Go.Shelf.Ren := ⟨fun | 146 => 102 | 221 => 184 | 268 => 242 | 138 => 243 | 143 => 244 | 195 => 309 | 197 => 310 | 218 => 311 | 219 => 241 | 260 => 355 | 217 => 305 | 225 => 306 | 224 => 307 | 267 => 308 | 266 => 353 | 314 => 354 | n => n, fun | 9 => 9 | 31 => 39 | 3 => 3 | 4 => 4 | 0 => 0 | 105 => 279 | 21 => 21 | 5 => 5 | 46 => 276 | 119 => 328 | 139 => 331 | 138 => 330 | 146 => 300 | 51 => 299 | n => n, fun | 1 => 1 | 3 => 6 | 4 => 7 | n => n⟩
theorem Tryz.lays146 : Go.Proofs.Lays.n146 Tryz.prog Tryz.lays146_ren := {
 mixed := by kernel_rfl
 f138 := Tryz.func243.trans (congrArg some (by kernel_rfl))
 f143 := Tryz.func244.trans (congrArg some (by kernel_rfl))
 f146 := Tryz.func102.trans (congrArg some (by kernel_rfl))
 f195 := Tryz.func309.trans (congrArg some (by kernel_rfl))
 f197 := Tryz.func310.trans (congrArg some (by kernel_rfl))
 f217 := Tryz.func305.trans (congrArg some (by kernel_rfl))
 f218 := Tryz.func311.trans (congrArg some (by kernel_rfl))
 f219 := Tryz.func241.trans (congrArg some (by kernel_rfl))
 f221 := Tryz.func184.trans (congrArg some (by kernel_rfl))
 f224 := Tryz.func307.trans (congrArg some (by kernel_rfl))
 f225 := Tryz.func306.trans (congrArg some (by kernel_rfl))
 f260 := Tryz.func355.trans (congrArg some (by kernel_rfl))
 f266 := Tryz.func353.trans (congrArg some (by kernel_rfl))
 f267 := Tryz.func308.trans (congrArg some (by kernel_rfl))
 f268 := Tryz.func242.trans (congrArg some (by kernel_rfl))
 f314 := Tryz.func354.trans (congrArg some (by kernel_rfl))
 t0 := Tryz.underlying0
 a0 := Tryz.isAgg0
 z0 := Tryz.sizeOf0
 v0 := Tryz.zeroValue0
 t3 := Tryz.underlying3
 a3 := Tryz.isAgg3
 z3 := Tryz.sizeOf3
 v3 := Tryz.zeroValue3
 t4 := Tryz.underlying4
 a4 := Tryz.isAgg4
 z4 := Tryz.sizeOf4
 v4 := Tryz.zeroValue4
 t5 := Tryz.underlying5
 a5 := Tryz.isAgg5
 z5 := Tryz.sizeOf5
 v5 := Tryz.zeroValue5
 t9 := Tryz.underlying9
 a9 := Tryz.isAgg9
 z9 := Tryz.sizeOf9
 v9 := Tryz.zeroValue9
 t21 := Tryz.underlying21
 a21 := Tryz.isAgg21
 z21 := Tryz.sizeOf21
 v21 := Tryz.zeroValue21
 t31 := Tryz.underlying39
 a31 := Tryz.isAgg39
 z31 := Tryz.sizeOf39
 v31 := Tryz.zeroValue39
 t46 := Tryz.underlying276
 a46 := Tryz.isAgg276
 z46 := Tryz.sizeOf276
 v46 := Tryz.zeroValue276
 t51 := Tryz.underlying299
 a51 := Tryz.isAgg299
 z51 := Tryz.sizeOf299
 v51 := Tryz.zeroValue299
 t105 := Tryz.underlying279
 a105 := Tryz.isAgg279
 z105 := Tryz.sizeOf279
 v105 := Tryz.zeroValue279
 t119 := Tryz.underlying328
 a119 := Tryz.isAgg328
 z119 := Tryz.sizeOf328
 t138 := Tryz.underlying330
 a138 := Tryz.isAgg330
 z138 := Tryz.sizeOf330
 v138 := Tryz.zeroValue330
 t139 := Tryz.underlying331
 a139 := Tryz.isAgg331
 z139 := Tryz.sizeOf331
 v139 := Tryz.zeroValue331
 t146 := Tryz.underlying300
 a146 := Tryz.isAgg300
 z146 := Tryz.sizeOf300
 v146 := Tryz.zeroValue300
 g1 := by kernel_rfl
 g3 := by kernel_rfl
 g4 := by kernel_rfl }
open Go.RowKit Go.Lib in
theorem Tryz.strings_Split (s sep : ByteArray) (m : Int) (w : World) (hs : s.size < 4294967281) (hm : w.cell? ⟨1, 0, none⟩ = some (.int .i64 m)) (h1 : 1 ≤ sep.size) :
  Calls Tryz.prog 102 #[.string s, .string sep] w fun e w' =>
   e = .returned (.slice (some ⟨w.heap.size, 0, none⟩) (Lib.countB s sep + 1) (Lib.countB s sep + 1)) ∧ w' = w.alloc (.cells ((Lib.splitB sep 0 (Lib.countB s sep) s).map Value.string).toArray 9) := Any.strings_Split Tryz.lays146 (by kernel_rfl) s sep m w hs hm h1
end Go.Proofs
namespace Go.Proofs.YtdejnaokkdndeaaGreatDoor
open Go.RowKit Go.V
open Go.Eng (inR byteAt u8 bytesV)
variable {g : Gv}
theorem u8_nat (k : Nat) : u8 (k : Int) = UInt8.ofNat k := by
 have e : ((k : Int) % 256).toNat = k % 256 := by omega
 rw [u8, e]
 apply UInt8.toNat_inj.1
 simp
end Go.Proofs.YtdejnaokkdndeaaGreatDoor
namespace Go.Proofs.YtdejnaokkdndeaaGreatDoor
open Go.RowKit Go.V
open Go.Eng (inR byteAt u8 bytesV)
variable {g : Gv}
end Go.Proofs.YtdejnaokkdndeaaGreatDoor
namespace Go.Proofs.YtdejnaokkdndeaaGreatDoor
open Go.RowKit Go.V
open Go.Eng (inR byteAt u8 bytesV)
variable {g : Gv}
end Go.Proofs.YtdejnaokkdndeaaGreatDoor
namespace Go.Proofs.YtdejnaokkdndeaaGreatDoor
open Go.RowKit Go.Sort Go.Lib
set_option maxRecDepth 100000 in
theorem formatUint_in (u : Nat) (hu64 : u < 18446744073709551616) (w : World) (htab : Lib.TabIs Tryz.prog w "internal/strconv.uint64pow10" .u64 Lib.pow10Tab) :
  Calls Tryz.prog 338 #[.int .u64 u, .int .i64 10] w fun e w' => e = .returned (.string ⟨(Lib.decDigits u).toArray⟩) ∧ ∃ k os, w' = grow (w.drewN k) os := by
 by_cases hs : u < 100
 ·have hw : IntKind.i64.wrap (u : Int) = (u : Int) := by rw [IntKind.wrap_i64]; omega
  go_enter Tryz.func338, Tryz.ntmps338
  go_wp2_with (go_at_call 373; refine (Tryz.internal_strconv_small u hs _).mono ?_; rintro e w' ⟨rfl, rfl⟩)
  go_ret
  exact ⟨rfl, 0, #[], by simp [World.drewN_zero]⟩
 ·have hu1 : 1 ≤ u := by omega
  have hnd20 : Lib.nDigits u ≤ 20 := by have := Lib.numDigits_eq u hu1 hu64; split at this <;> omega
  have hb3 : Lib.nDigits u ≤ 24 := by omega
  have e1 : Tryz.prog.arrayLen 318 = 24 := by kernel_rfl
  have hsl1 : ∀ W, (Instr.sliceAt 318 (.pointer (some ⟨w.heap.size, 0, none⟩)) none (some (.int .i64 ((Lib.nDigits u : Int)))) none).run Tryz.prog W = .ok (.slice (some ⟨w.heap.size, 0, none⟩) (Lib.nDigits u) 24) W := fun W => by
   rw [run_sliceAt_array_h W 318 ⟨w.heap.size, 0, none⟩ (by kernel_rfl) .i64 (Lib.nDigits u : Int) (by omega) (by rw [e1]; omega)]
   have e2 : (sizeOf (Tryz.prog.elem 318)).run Tryz.prog W = .ok 1 W := by kernel_rfl
   rw [e2]
   simp [slicedAt, e1, Lib.add_plain]
  have hH0 := Lib.holds_zero0 w 318 (Lib.nDigits u) (by omega)
  have hfmt := Tryz.internal_strconv_formatBase10 w.heap.size 0 24 u (Array.replicate (Lib.nDigits u) 0) (w.alloc (.cells Lib.zeros24 318)) hH0 (by rw [Array.size_replicate]; exact Lib.lt_pow_nDigits u) hu64 (by rw [Array.size_replicate]; omega)
  rw [Array.size_replicate] at hfmt
  have HH0 := Lib.hid hH0
  clear hH0 e1
  go_enter Tryz.func338, Tryz.ntmps338
  go_wp2_with (first
   | (go_at_call 374; refine (Tryz.internal_strconv_numDigits u hu1 hu64 _ (Lib.tabIs_alloc htab _)).mono ?_; rintro e w' ⟨rfl, rfl⟩))
  go_at_call 375
  refine hfmt.mono ?_
  rintro e w' ⟨rfl, k, v', dk, rfl, hF⟩
  have hcv : (convert 130 9 (.slice (some ⟨w.heap.size, 0, none⟩) (Lib.nDigits u) 24)).run Tryz.prog ((putRow (fun (b : UInt8) => Value.int .u8 (b.toNat : Int)) (w.alloc (.cells Lib.zeros24 318)) w.heap.size 0 dk).drewN k) = .ok (.string ⟨(Lib.decDigits u).toArray⟩) ((putRow (fun (b : UInt8) => Value.int .u8 (b.toNat : Int)) (w.alloc (.cells Lib.zeros24 318)) w.heap.size 0 dk).drewN k) := by
   have h := run_convert_bytes_back (P := Tryz.prog) ((putRow (fun (b : UInt8) => Value.int .u8 (b.toNat : Int)) (w.alloc (.cells Lib.zeros24 318)) w.heap.size 0 dk).drewN k) 130 9 (Tryz.prog.elem 130) ⟨w.heap.size, 0, none⟩ 24 (Lib.decDigits u) (by kernel_rfl) (by kernel_rfl) (by kernel_rfl) (fun j hj => by
    rw [Lib.row_is_numeral hF j hj, Lib.add_plain, World.cell?_drewN]
    exact cell?_putRow (fun (b : UInt8) => Value.int .u8 (b.toNat : Int)) _ w.heap.size 0 _ dk HH0.out (by rw [hF.size, Array.size_replicate]) j (by rw [hF.size]; rw [Lib.decDigits_length] at hj; exact hj))
   rw [Lib.decDigits_length] at h
   exact h
  go_wp2
  go_ret
  refine ⟨rfl, k, ?_⟩
  rw [alloc_eq_grow]
  obtain ⟨os', _, e⟩ := putRow_grow_new (fun (b : UInt8) => Value.int .u8 (b.toNat : Int)) w #[.cells Lib.zeros24 318] w.heap.size 0 dk (Nat.le_refl _)
  exact ⟨os', by rw [e]; rfl⟩
theorem formatUint_any (u : Nat) (hu64 : u < 18446744073709551616) (w : World) (htab : Lib.TabIs Tryz.prog w "internal/strconv.uint64pow10" .u64 Lib.pow10Tab) :
  Calls Tryz.prog 274 #[.int .u64 u, .int .i64 10] w fun e w' => e = .returned (.string ⟨(Lib.decDigits u).toArray⟩) ∧ ∃ k os, w' = grow (w.drewN k) os := by
 go_enter Tryz.func274, Tryz.ntmps274
 go_wp2_with (go_at_call 338; refine (formatUint_in u hu64 _ htab).mono ?_; rintro e w' ⟨rfl, k, os, rfl⟩)
 go_ret
 exact ⟨rfl, k, os, rfl⟩
end Go.Proofs.YtdejnaokkdndeaaGreatDoor
namespace Go.Proofs.YtdejnaokkdndeaaGreatDoor
open Go.RowKit Go.V
open Go.Eng (inR byteAt u8 bytesV)
open Go.Sort (grow)
variable {g : Gv}
theorem below_grow (w : World) (q : Nat) (os : Array Obj) : Below w.heap.size w (grow (w.drewN q) os) :=
 ⟨rfl, rfl, rfl, by simp [grow, World.drewN], fun i hi => by
  show ((w.drewN q).heap ++ os)[i]? = _
  rw [Array.getElem?_append_left (by show i < w.heap.size; omega)]
  rfl⟩
theorem tab_of {w : World} (hG : ∀ b cs, (b, cs) ∈ Gl g → ∃ ty fz, w.heap[b]? = some (.cells cs.toArray ty fz)) : Lib.TabIs Tryz.prog w "internal/strconv.uint64pow10" .u64 Lib.pow10Tab := by
 obtain ⟨ty, fz, h⟩ := hG 10 (powL.map (Value.int .u64)) (by simp [Gl])
 have hn : Tryz.prog.globalNamed "internal/strconv.uint64pow10" = some 10 := by kernel_rfl
 unfold Lib.TabIs World.var?
 rw [hn]
 simp only [Option.bind_some, h]
 rfl
theorem natT_dec (u : Nat) : Lib.decDigits u = natT u := by
 induction u using Nat.strongRecOn with
 | ind u ih =>
  rw [Lib.decDigits]
  by_cases h : u < 10
  ·rw [dif_pos h, natT]
   by_cases h0 : u = 0
   ·subst h0; rfl
   ·rw [if_neg h0, natD_pos h0, show u / 10 = 0 by omega, natD_zero, show u % 10 = u by omega, ← u8_nat]; rfl
  ·rw [dif_neg h, ih (u / 10) (by omega), natT, natT, if_neg (by omega), if_neg (by omega), natD_pos (n := u) (by omega), ← u8_nat]; rfl
theorem itoa_ok (n : Int) (h0 : 0 ≤ n) (h1 : n ≤ 9223372036854775807) : SpG g 264 [.c (.d (.i n))] [] (.c (.d (.s (S (natT n.toNat))))) [] := by
 refine spec_of (args := [.int .i64 n]) rfl rfl rfl fun w hG => ?_
 have h := Tryz.strconv_Itoa n (by omega) h1 w (tab_of hG)
 refine h.mono ?_
 rintro e w' ⟨rfl, k, os, rfl⟩
 refine ⟨?_, below_grow _ _ _⟩
 obtain ⟨u, rfl⟩ : ∃ u : Nat, n = u := ⟨n.toNat, by omega⟩
 rw [Lib.itoa_nonneg, natT_dec, Int.toNat_natCast]; rfl
end Go.Proofs.YtdejnaokkdndeaaGreatDoor
namespace Go.Proofs.YtdejnaokkdndeaaGreatDoor
open Go.RowKit Go.V
open Go.Eng (inR byteAt u8 bytesV)
variable {g : Gv}
theorem formatUint_ok (u : Nat) (h : u < 18446744073709551616) : SpG g 274 [.c (.d (.v (.int .u64 (u : Int)))), .c (.d (.i 10))] [] (.c (.d (.s (S (natT u))))) [] := by
 refine spec_of (args := [.int .u64 u, .int .i64 10]) rfl rfl rfl fun w hG => ?_
 refine (formatUint_any u h w (tab_of hG)).mono ?_
 rintro e w' ⟨rfl, k, os, rfl⟩
 exact ⟨by rw [natT_dec]; rfl, below_grow _ _ _⟩
theorem decValue_ok (n s : Int) (h : decB n s = true) :
  SpG g 273 [.agg [.d (.i n), .d (.i s)]] [] (.agg [.d (.i n), .d (.i s)]) [] := by
 refine enterB 7 Tryz.func273 (by kernel_rfl) fun fr hG => ?_
 refine zC hG [(1, 1, .call (.c (.d (.b (decB n s)))) [] [])] [1, 0, 1] (decB n s) (⟨[(1, [], .c (.bx 100 0)), (2, [], .c (.bx 101 0))], [(100, .box 38 [.d (.i n), .d (.i s)]), (101, .box 38 [.d (.i 0), .d (.i 0)])]⟩) (by kernel_rfl) (conj1 ((decRight_ok n s : SpG g _ _ _ _ _))) (fun hc1 => ?_) (fun hc1 => ?_)
 ·(try simp only [blS] at hc1)
  exact zr hG [] [] (by kernel_rfl) conj0
 ·(try simp only [blS] at hc1)
  exact absurd (h.symm.trans hc1) (by decide)
end Go.Proofs.YtdejnaokkdndeaaGreatDoor
namespace Go.Proofs.YtdejnaokkdndeaaGreatDoor
open Go.RowKit Go.V
open Go.Eng (inR byteAt u8 bytesV)
def gT (m : Int) : Gv := ⟨m, [(0, tensL.map (Value.int .i64))]⟩
variable {m : Int}
theorem cmpInt_ok (x y : Int) : SpG (gT m) 281 [.c (.d (.i x)), .c (.d (.i y))] [] (.c (.d (.i (Lib.compareInt x y)))) [] :=
 of_exact (args := [.int .i64 x, .int .i64 y]) rfl rfl rfl fun w => (Tryz.cmp_Compare_int x y w).mono fun _ _ ⟨a, b⟩ => ⟨a, b.symm⟩
def tenD (s : Int) : Int := tensL.getD s.toNat 0
def spW (n s : Int) : Int := Int.tdiv n (tenD s)
def spP (n s : Int) : Int := Int.tmod n (tenD s) * Int.tdiv 1000000 (tenD s)
theorem tenD_cases {s : Int} (h0 : 0 ≤ s) (h1 : s ≤ 6) : tenD s = 1 ∨ tenD s = 10 ∨ tenD s = 100 ∨ tenD s = 1000 ∨ tenD s = 10000 ∨ tenD s = 100000 ∨ tenD s = 1000000 := by
 have : s = 0 ∨ s = 1 ∨ s = 2 ∨ s = 3 ∨ s = 4 ∨ s = 5 ∨ s = 6 := by omega
 rcases this with rfl | rfl | rfl | rfl | rfl | rfl | rfl <;> simp [tenD, tensL]
theorem tenD_div {s : Int} (h0 : 0 ≤ s) (h1 : s ≤ 6) : 1 ≤ tenD s ∧ tenD s ≤ 1000000 ∧ 1 ≤ Int.tdiv 1000000 (tenD s) ∧ tenD s * Int.tdiv 1000000 (tenD s) = 1000000 := by
 rcases tenD_cases h0 h1 with h | h | h | h | h | h | h <;> rw [h] <;> decide
theorem sp_bd {n s : Int} (h0 : 0 ≤ s) (h1 : s ≤ 6) (hn : -1000000000000000 ≤ n) (hm : n ≤ 1000000000000000) : tenD s ≠ 0 ∧ inR (Int.tdiv n (tenD s)) ∧ inR (Int.tdiv 1000000 (tenD s)) ∧ inR (Int.tmod n (tenD s) * Int.tdiv 1000000 (tenD s)) := by
 obtain ⟨a, b, c, d⟩ := tenD_div h0 h1
 have e1 : (Int.tdiv n (tenD s)).natAbs ≤ n.natAbs := by rw [Int.natAbs_tdiv]; exact Nat.div_le_self _ _
 have e2 := tmod_in (x := n) (n := tenD s) a
 have e3 : Int.tdiv 1000000 (tenD s) ≤ 1000000 := by
  have := Int.mul_le_mul_of_nonneg_right a (show 0 ≤ Int.tdiv 1000000 (tenD s) by omega)
  rw [d, Int.one_mul] at this; exact this
 have e4 : (Int.tmod n (tenD s) * Int.tdiv 1000000 (tenD s)).natAbs ≤ 1000000 * 1000000 := by
  rw [Int.natAbs_mul]
  exact Nat.mul_le_mul (by omega) (by omega)
 unfold inR
 refine ⟨by omega, by omega, by omega, by omega⟩
def decCmp (a b c d : Int) : Int := if Lib.compareInt (spW a b) (spW c d) = 0 then Lib.compareInt (spP a b) (spP c d) else Lib.compareInt (spW a b) (spW c d)
theorem split_ok (n s : Int) (h : decB n s = true) :
  SpG (gT m) 276 [.agg [.d (.i n), .d (.i s)]] [] (.tup [(false, [.d (.i (spW n s))]), (false, [.d (.i (spP n s))])]) [] := by
 obtain ⟨b0, b1, b2, b3, b4⟩ := decB_bd h
 obtain ⟨c0, c1, c2, c3⟩ := sp_bd b0 b1 b2 b3
 have e0 : tensL.getD (0 + s.toNat * 1) 0 = tenD s := by rw [Nat.zero_add, Nat.mul_one]; rfl
 refine enterB 22 Tryz.func276 (by kernel_rfl) fun fr hG => ?_
 refine zR hG [(1, 1, .call (.agg [.d (.i n), .d (.i s)]) [] []), (2, 3, .elem [.i (tensL.getD (0 + (s : Int).toNat * 1) 0)])] [] (.tup [(false, [.d (.i (Int.tdiv n (tensL.getD (0 + (s : Int).toNat * 1) 0)))]), (false, [.d (.i ((Int.tmod n (tensL.getD (0 + (s : Int).toNat * 1) 0)) * (Int.tdiv 1000000 (tensL.getD (0 + (s : Int).toNat * 1) 0))))])]) [] (by kernel_rfl) (conjC ((decValue_ok n s h : SpG (gT m) _ _ _ _ _)) (conjC (show (0 : Int) ≤ s ∧ s < ((7 : Nat) : Int) from (by intros; first | omega | exact ⟨by omega, by show _ < ((7 : Nat) : Int); omega⟩ | (simp only [e0]; first | exact ⟨c0, c1⟩ | exact ⟨c0, c2⟩ | exact c0 | exact c1 | exact c2 | exact c3))) (conjC (show (tensL.map (Value.int .i64) : List Value)[0 + (s : Int).toNat * 1]? = some (.int .i64 (tensL.getD (0 + (s : Int).toNat * 1) 0)) from (by intros; exact map_nat 0 (by show _ < 7; omega))) (conjC (show (tensL.getD (0 + (s : Int).toNat * 1) 0) ≠ (0 : Int) ∧ inR (Int.tdiv n (tensL.getD (0 + (s : Int).toNat * 1) 0)) from (by intros; first | omega | exact ⟨by omega, by show _ < ((7 : Nat) : Int); omega⟩ | (simp only [e0]; first | exact ⟨c0, c1⟩ | exact ⟨c0, c2⟩ | exact c0 | exact c1 | exact c2 | exact c3))) (conjC (show (tensL.getD (0 + (s : Int).toNat * 1) 0) ≠ (0 : Int) from (by intros; first | omega | exact ⟨by omega, by show _ < ((7 : Nat) : Int); omega⟩ | (simp only [e0]; first | exact ⟨c0, c1⟩ | exact ⟨c0, c2⟩ | exact c0 | exact c1 | exact c2 | exact c3))) (conjC (show (tensL.getD (0 + (s : Int).toNat * 1) 0) ≠ (0 : Int) ∧ inR (Int.tdiv 1000000 (tensL.getD (0 + (s : Int).toNat * 1) 0)) from (by intros; first | omega | exact ⟨by omega, by show _ < ((7 : Nat) : Int); omega⟩ | (simp only [e0]; first | exact ⟨c0, c1⟩ | exact ⟨c0, c2⟩ | exact c0 | exact c1 | exact c2 | exact c3))) (conj1 (show inR ((Int.tmod n (tensL.getD (0 + (s : Int).toNat * 1) 0)) * (Int.tdiv 1000000 (tensL.getD (0 + (s : Int).toNat * 1) 0))) from (by intros; first | omega | exact ⟨by omega, by show _ < ((7 : Nat) : Int); omega⟩ | (simp only [e0]; first | exact ⟨c0, c1⟩ | exact ⟨c0, c2⟩ | exact c0 | exact c1 | exact c2 | exact c3)))))))))) ?_ ?_
 ·simp only [e0, spW, spP]
 ·rfl
theorem or_ok {x y : Int} :
  SpG (gT m) 280 [.c (.d (.sl 1 (([[.i x], [.i y]] : List (List D)))))] [] (.c (.d (.i (if x = 0 then y else x)))) [] := by
 refine enterB 18 Tryz.func280 (by kernel_rfl) fun fr hG => ?_
 refine stepL hG hmix [] [0, 1, 0, 1, 1] ((fun (zz : Nat) => match zz with | 0 => ⟨[(2, [], .c (.d (.i 0))), (3, [], .c (.d (.i 0))), (6, [], .c (.d (.sl 1 (([[.i x], [.i y]] : List (List D)))))), (7, [], .c (.d (.i 2))), (8, [], .c (.d (.i 0)))], []⟩ | 1 => ⟨[(2, [], .c (.d (.i 0))), (3, [], .c (.d (.i 0))), (6, [], .c (.d (.sl 1 (([[.i x], [.i y]] : List (List D)))))), (7, [], .c (.d (.i 2))), (8, [], .c (.d (.i 1)))], []⟩ | _ => ⟨[(2, [], .c (.d (.i 0))), (3, [], .c (.d (.i 0))), (6, [], .c (.d (.sl 1 (([[.i x], [.i y]] : List (List D)))))), (7, [], .c (.d (.i 2))), (8, [], .c (.d (.i 2)))], []⟩) 0) _ (by kernel_rfl) conj0 ?_
 refine loopR (σ := Nat) (fun (zz : Nat) => match zz with | k => 3 - k) (fun (zz : Nat) => match zz with | 0 => ⟨[(2, [], .c (.d (.i 0))), (3, [], .c (.d (.i 0))), (6, [], .c (.d (.sl 1 (([[.i x], [.i y]] : List (List D)))))), (7, [], .c (.d (.i 2))), (8, [], .c (.d (.i 0)))], []⟩ | 1 => ⟨[(2, [], .c (.d (.i 0))), (3, [], .c (.d (.i 0))), (6, [], .c (.d (.sl 1 (([[.i x], [.i y]] : List (List D)))))), (7, [], .c (.d (.i 2))), (8, [], .c (.d (.i 1)))], []⟩ | _ => ⟨[(2, [], .c (.d (.i 0))), (3, [], .c (.d (.i 0))), (6, [], .c (.d (.sl 1 (([[.i x], [.i y]] : List (List D)))))), (7, [], .c (.d (.i 2))), (8, [], .c (.d (.i 2)))], []⟩) (fun (zz : Nat) => match zz with | k => k ≤ 2 ∧ (1 ≤ k → x = 0) ∧ (2 ≤ k → y = 0)) 0 (by kernel_rfl) ?_ ?_
 ·exact ⟨Nat.zero_le _, by omega, by omega⟩
 rintro k ⟨hI, hx, hy⟩
 rcases (by omega : k = 0 ∨ k = 1 ∨ k = 2) with rfl | rfl | rfl
 ·skip
  refine zc hG [] [0, 1] (true) (by kernel_rfl) conj0 (fun _ => ?_) (fun hc2 => absurd hc2 (by decide))
  refine zC hG [(4, 0, .elem ([.i x]))] [1, 1, 0, 0, 1, 1] (!decide ((x : Int) = 0)) (⟨[(2, [], .c (.d (.i 0))), (3, [], .c (.d (.i 0))), (5, [], .c (.d (.i x))), (6, [], .c (.d (.sl 1 (([[.i x], [.i y]] : List (List D)))))), (7, [], .c (.d (.i 2))), (8, [], .c (.d (.i 0)))], []⟩) (by kernel_rfl) (conj1 (show (0 : Int) ≤ 0 ∧ (([[.i x], [.i y]] : List (List D)))[0]? = some ([.i x]) from ⟨by decide, rfl⟩)) (fun hc3 => ?_) (fun hc3 => ?_)
  ·(try simp only [blS] at hc3)
   refine zE hG [] .ret (⟨[(2, [], .c (.d (.i x))), (3, [], .c (.d (.i 0)))], []⟩) (by kernel_rfl) conj0 rfl ?_
   refine zR hG [] [] (.c (.d (.i x))) [] (by kernel_rfl) conj0 ?_ ?_
   ·have e1 := hx; have e2 := hy
    by_cases h0 : x = 0 <;> by_cases h1 : y = 0 <;> simp_all
   ·rfl
  ·(try simp only [blS] at hc3)
   refine zD hG [] 1 (by kernel_rfl) (conj1 (show inR (0 + 1) from (by unfold inR; decide))) ?_ ?_
   ·(try dsimp only); decide
   ·exact ⟨by decide, by intros; omega, by intros; omega⟩
 ·skip
  refine zc hG [] [0, 1] (true) (by kernel_rfl) conj0 (fun _ => ?_) (fun hc4 => absurd hc4 (by decide))
  refine zC hG [(4, 0, .elem ([.i y]))] [1, 1, 0, 0, 1, 1] (!decide ((y : Int) = 0)) (⟨[(2, [], .c (.d (.i 0))), (3, [], .c (.d (.i 0))), (5, [], .c (.d (.i y))), (6, [], .c (.d (.sl 1 (([[.i x], [.i y]] : List (List D)))))), (7, [], .c (.d (.i 2))), (8, [], .c (.d (.i 1)))], []⟩) (by kernel_rfl) (conj1 (show (0 : Int) ≤ 1 ∧ (([[.i x], [.i y]] : List (List D)))[1]? = some ([.i y]) from ⟨by decide, rfl⟩)) (fun hc5 => ?_) (fun hc5 => ?_)
  ·(try simp only [blS] at hc5)
   refine zE hG [] .ret (⟨[(2, [], .c (.d (.i y))), (3, [], .c (.d (.i 0)))], []⟩) (by kernel_rfl) conj0 rfl ?_
   refine zR hG [] [] (.c (.d (.i y))) [] (by kernel_rfl) conj0 ?_ ?_
   ·have e1 := hx; have e2 := hy
    by_cases h0 : x = 0 <;> by_cases h1 : y = 0 <;> simp_all
   ·rfl
  ·(try simp only [blS] at hc5)
   refine zD hG [] 2 (by kernel_rfl) (conj1 (show inR (1 + 1) from (by unfold inR; decide))) ?_ ?_
   ·(try dsimp only); decide
   ·exact ⟨by decide, by intros; omega, by intros; omega⟩
 ·skip
  refine zc hG [] [0, 1] (false) (by kernel_rfl) conj0 (fun hc6 => absurd hc6 (by decide)) (fun _ => ?_)
  refine zE hG [] (.exit 0) (⟨[(2, [], .c (.d (.i 0))), (3, [], .c (.d (.i 0)))], []⟩) (by kernel_rfl) conj0 rfl ?_
  refine zR hG [] [] (.c (.d (.i 0))) [] (by kernel_rfl) conj0 ?_ ?_
  ·have e1 := hx; have e2 := hy
   by_cases h0 : x = 0 <;> by_cases h1 : y = 0 <;> simp_all
  ·rfl
theorem decCmp_ok (a b c d : Int) (h1 : decB a b = true) (h2 : decB c d = true) :
  SpG (gT m) 208 [.agg [.d (.i a), .d (.i b)], .agg [.d (.i c), .d (.i d)]] [] (.c (.d (.i (decCmp a b c d)))) [] := by
 refine enterB 27 Tryz.func208 (by kernel_rfl) fun fr hG => ?_
 exact zr hG [(1, 1, .call (.tup [(false, [.d (.i (spW a b))]), (false, [.d (.i (spP a b))])]) [] []), (2, 1, .call (.tup [(false, [.d (.i (spW c d))]), (false, [.d (.i (spP c d))])]) [] []), (3, 2, .call (.c (.d (.i (Lib.compareInt (spW a b) (spW c d))))) [] []), (3, 5, .call (.c (.d (.i (Lib.compareInt (spP a b) (spP c d))))) [] []), (3, 7, .call (.c (.d (.i (decCmp a b c d)))) [] [])] [] (by kernel_rfl) (conjC ((split_ok a b (by assumption) : SpG (gT m) _ _ _ _ _)) (conjC ((split_ok c d (by assumption) : SpG (gT m) _ _ _ _ _)) (conjC ((cmpInt_ok (spW a b) (spW c d) : SpG (gT m) _ _ _ _ _)) (conjC ((cmpInt_ok (spP a b) (spP c d) : SpG (gT m) _ _ _ _ _)) (conj1 ((or_ok (x := Lib.compareInt (spW a b) (spW c d)) (y := Lib.compareInt (spP a b) (spP c d)) : SpG (gT m) _ _ _ _ _)))))))
end Go.Proofs.YtdejnaokkdndeaaGreatDoor
namespace Go.Proofs.YtdejnaokkdndeaaGreatDoor
open Go.RowKit Go.V
open Go.Eng (inR byteAt u8 bytesV)
theorem isTextL_of {l : List UInt8} (h : l.all okByte = true) (hl : l.length ≤ 200) : isTextL l = true := by
 have e : bs (S l) = l := by simp [bs, S]
 simp only [isTextL, isTextB, Bool.and_eq_true, decide_eq_true_eq, S_size, e]
 exact ⟨h, by omega⟩
theorem okByte_ch (l : List Int) (k : Int) : okByte (u8 (32 + nxV l k 95)) = true := by
 have := nxV_bd l k (n := 95) (by decide)
 simp only [okByte, u8, Bool.and_eq_true, decide_eq_true_eq, UInt8.toNat_ofNat']
 omega
theorem ch_all (l : List Int) : ∀ (n : Nat) (k : Int), (chM l n k).1.all okByte = true
 | 0, k => rfl
 | n + 1, k => by simp only [chM, List.all_cons, okByte_ch, ch_all l n, Bool.and_true]
theorem words_all : ∀ i, i < 15 → (wordsL.getD i []).all okByte = true ∧ (wordsL.getD i []).length ≤ 200 := by decide
theorem tx_right (l : List Int) (k : Int) : isTextL (txM l k).1 = true := by
 unfold txM; split
 ·have := nxV_bd l k (n := 18) (by decide)
  have h := words_all (nxV l k 18).toNat (by omega)
  exact isTextL_of h.1 h.2
 ·exact isTextL_of (ch_all l _ _) (by rw [ch_len]; have := txN_bd l k; omega)
theorem fit_right (neg : Bool) (m : Nat) (s : Int) : decB (fitN neg m s) (fitS m s) = true := by
 unfold fitN fitS
 cases hb : fitB m s with
 | false => simp [decB]
 | true =>
  have h := hb
  simp only [fitB, decide_eq_true_eq] at h
  have ho := fitL_odd s.toNat m
  generalize (fitL m s.toNat).1 = a at *
  generalize (fitL m s.toNat).2 = b at *
  have ht : ((a : Int).tmod 10 = ((a % 10 : Nat) : Int)) := by rw [Int.tmod_eq_emod_of_nonneg (by omega)]; omega
  have hn : ((-(a : Int)).tmod 10 = -((a % 10 : Nat) : Int)) := by rw [Int.neg_tmod, ht]
  cases neg
  ·simp only [if_true, if_false, Bool.false_eq_true, decB, ht, Bool.and_eq_true, Bool.or_eq_true, decide_eq_true_eq]; omega
  ·simp only [if_true, decB, hn, Bool.and_eq_true, Bool.or_eq_true, decide_eq_true_eq]; omega
theorem dc_right (l : List Int) (k : Int) : decB (dcM l k).1 (dcM l k).2.1 = true := fit_right _ _ _
structure Cl.good (c : Cl) : Prop where
 kind : ¬ c.kind = 5
 right : rightK false c.toV = true
 len : c.s.length ≤ 200
theorem Cl.z_good : Cl.z.good := ⟨by decide, by decide, by decide⟩
theorem right3 (n : Int) (h0 : 0 ≤ n) (h1 : n ≤ 3652058) : rightK false ⟨3, [], 0, 0, n, [], []⟩ = true := by simp [rightK, bareB, h0, h1]
theorem right4 (n : Int) (h0 : 0 ≤ n) (h1 : n < 2) : rightK false ⟨4, [], 0, 0, n, [], []⟩ = true := by
 have : n = 0 ∨ n = 1 := by omega
 rcases this with rfl | rfl <;> decide
theorem right0 (n : Int) (h0 : 0 ≤ n) (h1 : n ≤ 99) : rightK false ⟨0, [], 0, 0, n, [], []⟩ = true := by simp [rightK, bareB, h0, h1]
theorem cv_good (l : List Int) (k kind : Int) : (cvM l k kind).1.good := by
 unfold cvM
 split
 ·exact ⟨by simp, by simp [rightK, Cl.toV, bareB, tx_right], isTextL_len (tx_right l k)⟩
 ·split
  ·exact ⟨by simp, by simp [rightK, Cl.toV, bareB, dc_right], by simp⟩
  ·split
   ·have h1 := nxV_bd l k (n := 1000) (by decide)
    have h2 := nxV_bd l (nxK l (nxK l k 1000) 8) (n := 3652059) (by decide)
    split
    ·exact ⟨by simp, right3 _ (by dsimp only; omega) (by dsimp only; omega), by simp⟩
    ·exact ⟨by simp, right3 _ (by dsimp only; omega) (by dsimp only; omega), by simp⟩
   ·split
    ·have h1 := nxV_bd l k (n := 2) (by decide)
     exact ⟨by simp, right4 _ (by dsimp only; omega) (by dsimp only; omega), by simp⟩
    ·have h1 := nxV_bd l k (n := 100) (by decide)
     exact ⟨by simp, right0 _ (by dsimp only; omega) (by dsimp only; omega), by simp⟩
theorem cv_kind (l : List Int) (k kind : Int) (h0 : 0 ≤ kind) (h1 : kind ≤ 4) : (cvM l k kind).1.kind = kind := by
 unfold cvM
 split
 ·simp; omega
 ·split
  ·simp; omega
  ·split
   ·split <;> (simp; omega)
   ·split <;> (simp; omega)
theorem ce_good (l : List Int) (kind k : Int) : (ceM l kind k).1.good := by
 unfold ceM; split
 ·exact Cl.z_good
 ·exact cv_good _ _ _
theorem kd_len (l : List Int) : ∀ (n : Nat) (k : Int), (kdM l n k).1.length = n
 | 0, k => rfl
 | n + 1, k => by simp [kdM, kd_len l n]
theorem rw_len (l : List Int) : ∀ (r : List Int) (k : Int), (rwM l r k).1.length = r.length
 | [], k => rfl
 | x :: r, k => by simp [rwM, rw_len l r]
theorem rw_good (l : List Int) : ∀ (r : List Int) (k : Int), ∀ c, c ∈ (rwM l r k).1 → c.good
 | [], k, c, h => by cases h
 | x :: r, k, c, h => by
  simp only [rwM, List.mem_cons] at h
  rcases h with rfl | h
  ·exact ce_good _ _ _
  ·exact rw_good l r _ c h
theorem rs_len (l kds : List Int) : ∀ (n : Nat) (k : Int), (rsM l kds n k).1.length = n
 | 0, k => rfl
 | n + 1, k => by simp [rsM, rs_len l kds n]
theorem rs_good (l kds : List Int) : ∀ (n : Nat) (k : Int), ∀ r, r ∈ (rsM l kds n k).1 → r.length = kds.length ∧ ∀ c, c ∈ r → c.good
 | 0, k, r, h => by cases h
 | n + 1, k, r, h => by
  simp only [rsM, List.mem_cons] at h
  rcases h with rfl | h
  ·exact ⟨rw_len l kds k, rw_good l kds k⟩
  ·exact rs_good l kds n _ r h
theorem names_abc : ∀ n, n < 4 → allR (abcL.take n).length (nameAt (abcL.take n)) = true := by decide
theorem tableB_good {cols : List (List UInt8)} {rows : List (List Cl)} (h1 : cols.length ≤ 8) (h2 : rows.length ≤ 100) (hn : allR cols.length (nameAt cols) = true) (hr : ∀ r, r ∈ rows → r.length = cols.length ∧ ∀ c, c ∈ r → ¬ c.kind = 5 ∧ rightK false c.toV = true) : tableB cols rows = true := by
 refine tableB_ok ⟨by omega, by omega⟩ (fun j hj => allR_get hn hj) fun j hj => ?_
 obtain ⟨a, b⟩ := hr _ (getD_mem (z := []) hj)
 simp only [rowAt, a, decide_true, Bool.true_and]
 refine allR_true fun i hi => ?_
 have := b _ (getD_mem (z := Cl.z) (a ▸ hi))
 simp only [cellAt, this.1, this.2, decide_false, Bool.not_false, Bool.and_true]
theorem tb_good (l : List Int) (k : Int) : rightB (tbM l k).1 = true ∧ ∀ r, r ∈ (tbM l k).1.rows → ∀ c, c ∈ r → c.good := by
 have h1 := nxV_bd l k (n := 4) (by decide)
 have h2 := nxV_bd l (tbK l k).2 (n := 5) (by decide)
 have hl : (tbR l k).1.length = (nxV l (tbK l k).2 5).toNat := rs_len _ _ _ _
 have hg : ∀ r, r ∈ (tbR l k).1 → r.length = (abcL.take (nxV l k 4).toNat).length ∧ ∀ c, c ∈ r → c.good := fun r hr => by
  obtain ⟨a, b⟩ := rs_good _ _ _ _ r hr
  refine ⟨?_, b⟩
  rw [a, tbK, kd_len, List.length_take]
  have : abcL.length = 3 := rfl
  omega
 refine ⟨?_, fun r hr c hc => (hg r hr).2 c hc⟩
 have ht : tableB (abcL.take (nxV l k 4).toNat) (tbR l k).1 = true := by
  refine tableB_good ?_ ?_ (names_abc _ (by omega)) fun r hr => ⟨(hg r hr).1, fun c hc => ⟨((hg r hr).2 c hc).kind, ((hg r hr).2 c hc).right⟩⟩
  ·rw [List.length_take]; have : abcL.length = 3 := rfl; omega
  ·rw [hl]; omega
 simp [rightB, rightK, tbM, ht, bareB]
theorem vl_good (l : List Int) (k kind : Int) : rightB (vlM l k kind).1 = true ∧ (vlM l k kind).1.fit := by
 unfold vlM; split
 ·obtain ⟨a, b⟩ := tb_good l k
  refine ⟨a, ⟨?_, ?_, ?_⟩⟩
  ·simp [tbM]
  ·intro t ht
   have : ∀ t, t ∈ abcL → t.length ≤ 1 := by decide
   have := this t (List.mem_of_mem_take ht)
   unfold maxLen; omega
  ·intro r hr c hc
   have := (b r hr c hc).len
   unfold maxLen; omega
 ·have h := cv_good l k kind
  refine ⟨?_, ?_, ?_, ?_⟩
  ·have : (cvM l k kind).1.toV.kind = (cvM l k kind).1.kind := rfl
   have e : rightB (cvM l k kind).1.toV = rightK false (cvM l k kind).1.toV := by
    simp only [rightB, rightK, this, if_neg h.kind]
   rw [e]; exact h.right
  ·have : (cvM l k kind).1.toV.s = (cvM l k kind).1.s := rfl
   rw [this]; have := h.len; unfold maxLen; omega
  ·intro t ht; cases ht
  ·intro t ht; cases ht
theorem vl_kind (l : List Int) (k kind : Int) (h0 : 0 ≤ kind) (h1 : kind ≤ 5) : (vlM l k kind).1.kind = kind := by
 unfold vlM; split
 ·rename_i h; simp [tbM, h]
 ·exact cv_kind l k kind h0 (by omega)
end Go.Proofs.YtdejnaokkdndeaaGreatDoor
namespace Go.Proofs.YtdejnaokkdndeaaGreatDoor
open Go.RowKit Go.V
open Go.Eng (inR byteAt u8 bytesV)
def decV (n s : Int) : Int := n * Int.tdiv 1000000 (tenD s)
theorem sp_facts {n s : Int} (h0 : 0 ≤ s) (h1 : s ≤ 6) : decV n s = 1000000 * spW n s + spP n s ∧ -1000000 < spP n s ∧ spP n s < 1000000 ∧ ((0 ≤ spW n s ∧ 0 ≤ spP n s) ∨ (spW n s ≤ 0 ∧ spP n s ≤ 0)) := by
 have key : ∀ d u : Int, 0 < d → 0 < u → d * u = 1000000 → n * u = 1000000 * Int.tdiv n d + Int.tmod n d * u ∧ -1000000 < Int.tmod n d * u ∧ Int.tmod n d * u < 1000000 ∧ ((0 ≤ Int.tdiv n d ∧ 0 ≤ Int.tmod n d * u) ∨ (Int.tdiv n d ≤ 0 ∧ Int.tmod n d * u ≤ 0)) := by
  intro d u hd hu hdu
  have e := Int.mul_tdiv_add_tmod n d
  have e2 : n * u = 1000000 * Int.tdiv n d + Int.tmod n d * u := by
   conv => lhs; rw [← e]
   rw [Int.add_mul, Int.mul_right_comm, hdu]
  have b1 : Int.tmod n d < d := Int.tmod_lt_of_pos n hd
  have b2 : -d < Int.tmod n d := by
   have := Int.lt_tmod_of_pos n hd
   omega
  have c1 : Int.tmod n d * u < d * u := Int.mul_lt_mul_of_pos_right b1 hu
  have c2 : -d * u < Int.tmod n d * u := Int.mul_lt_mul_of_pos_right b2 hu
  rw [Int.neg_mul] at c2
  refine ⟨e2, by omega, by omega, ?_⟩
  by_cases hn : 0 ≤ n
  ·exact .inl ⟨Int.tdiv_nonneg hn (by omega), Int.mul_nonneg (Int.tmod_nonneg d hn) (by omega)⟩
  ·refine .inr ⟨?_, ?_⟩
   ·have := Int.tdiv_nonneg (a := -n) (b := d) (by omega) (by omega)
    rw [Int.neg_tdiv] at this; omega
   ·have := Int.tmod_nonneg (a := -n) d (by omega)
    rw [Int.neg_tmod] at this
    have h3 := Int.mul_nonneg this (show 0 ≤ u by omega)
    rw [Int.neg_mul] at h3; omega
 obtain ⟨a, b, c, d⟩ := tenD_div h0 h1
 exact key (tenD s) (Int.tdiv 1000000 (tenD s)) (by omega) (by omega) d
theorem dv0 (n : Int) : decV n 0 = n * 1000000 := rfl
theorem dv1 (n : Int) : decV n 1 = n * 100000 := rfl
theorem dv2 (n : Int) : decV n 2 = n * 10000 := rfl
theorem dv3 (n : Int) : decV n 3 = n * 1000 := rfl
theorem dv4 (n : Int) : decV n 4 = n * 100 := rfl
theorem dv5 (n : Int) : decV n 5 = n * 10 := rfl
theorem dv6 (n : Int) : decV n 6 = n * 1 := rfl
theorem decV_inj0 {a b c d : Int} (x1 : 0 ≤ b) (x2 : b ≤ 6) (y1 : 0 ≤ d) (y2 : d ≤ 6) (t1 : b = 0 ∨ ¬ a % 10 = 0) (t2 : d = 0 ∨ ¬ c % 10 = 0) (h : decV a b = decV c d) : a = c ∧ b = d := by
 have hb : b = 0 ∨ b = 1 ∨ b = 2 ∨ b = 3 ∨ b = 4 ∨ b = 5 ∨ b = 6 := by omega
 have hd : d = 0 ∨ d = 1 ∨ d = 2 ∨ d = 3 ∨ d = 4 ∨ d = 5 ∨ d = 6 := by omega
 clear x1 x2 y1 y2
 rcases hb with rfl | rfl | rfl | rfl | rfl | rfl | rfl <;> rcases hd with rfl | rfl | rfl | rfl | rfl | rfl | rfl <;> simp only [dv0, dv1, dv2, dv3, dv4, dv5, dv6] at h <;> omega
theorem decV_inj {a b c d : Int} (h1 : decB a b = true) (h2 : decB c d = true) (h : decV a b = decV c d) : a = c ∧ b = d := by
 obtain ⟨x1, x2, x3, x4, x5⟩ := decB_bd h1
 obtain ⟨y1, y2, y3, y4, y5⟩ := decB_bd h2
 have t1 : b = 0 ∨ ¬ a % 10 = 0 := x5.imp id fun hh hm => hh (by rw [← Int.dvd_iff_tmod_eq_zero]; exact Int.dvd_of_emod_eq_zero hm)
 have t2 : d = 0 ∨ ¬ c % 10 = 0 := y5.imp id fun hh hm => hh (by rw [← Int.dvd_iff_tmod_eq_zero]; exact Int.dvd_of_emod_eq_zero hm)
 exact decV_inj0 x1 x2 y1 y2 t1 t2 h
def isJ (V rn rs : Int) (rb : Bool) : Prop := (rb = true → decB rn rs = true ∧ decV rn rs = V) ∧ (rb = false → rn = 0 ∧ rs = 0 ∧ ∀ n s, decB n s = true → ¬ decV n s = V)
theorem td6 (p : Int) : 1000000 * Int.tdiv p 1000000 + Int.tmod p 1000000 = p ∧ -1000000 < Int.tmod p 1000000 ∧ Int.tmod p 1000000 < 1000000 := by
 have b2 := Int.lt_tmod_of_pos p (show (0 : Int) < 1000000 by decide)
 exact ⟨Int.mul_tdiv_add_tmod p 1000000, by omega, Int.tmod_lt_of_pos p (by decide)⟩
theorem td10 (q : Int) : 10 * Int.tdiv q 10 + Int.tmod q 10 = q ∧ (Int.tmod q 10 = 0 ↔ q % 10 = 0) := by
 refine ⟨Int.mul_tdiv_add_tmod q 10, fun h => ?_, fun h => ?_⟩
 ·have := Int.mul_tdiv_add_tmod q 10; omega
 ·rw [← Int.dvd_iff_tmod_eq_zero]; exact Int.dvd_of_emod_eq_zero h
theorem six_of {k : Int} (h0 : 0 ≤ k) (h1 : k ≤ 6) : k = 0 ∨ k = 1 ∨ k = 2 ∨ k = 3 ∨ k = 4 ∨ k = 5 ∨ k = 6 := by omega
theorem tn0 : tenD 0 = 1 := rfl
theorem tn1 : tenD 1 = 10 := rfl
theorem tn2 : tenD 2 = 100 := rfl
theorem tn3 : tenD 3 = 1000 := rfl
theorem tn4 : tenD 4 = 10000 := rfl
theorem tn5 : tenD 5 = 100000 := rfl
theorem tn6 : tenD 6 = 1000000 := rfl
theorem j_step {q k P : Int} (h0 : 0 ≤ k) (h1 : k ≤ 6) (hq : decV q k = P) (a : -tenD k < q) (b : q < tenD k) (c : k > 0) (d : Int.tmod q 10 = 0) : 0 ≤ k - 1 ∧ k - 1 ≤ 6 ∧ decV (Int.tdiv q 10) (k - 1) = P ∧ -tenD (k - 1) < Int.tdiv q 10 ∧ Int.tdiv q 10 < tenD (k - 1) := by
 have e := (td10 q).1
 rw [d] at e
 rcases six_of h0 h1 with rfl | rfl | rfl | rfl | rfl | rfl | rfl
 ·omega
 ·simp only [show (1 : Int) - 1 = 0 from rfl, dv0, dv1, tn0, tn1] at *; omega
 ·simp only [show (2 : Int) - 1 = 1 from rfl, dv1, dv2, tn1, tn2] at *; omega
 ·simp only [show (3 : Int) - 1 = 2 from rfl, dv2, dv3, tn2, tn3] at *; omega
 ·simp only [show (4 : Int) - 1 = 3 from rfl, dv3, dv4, tn3, tn4] at *; omega
 ·simp only [show (5 : Int) - 1 = 4 from rfl, dv4, dv5, tn4, tn5] at *; omega
 ·simp only [show (6 : Int) - 1 = 5 from rfl, dv5, dv6, tn5, tn6] at *; omega
theorem j_end {q k P W : Int} (h0 : 0 ≤ k) (h1 : k ≤ 6) (hq : decV q k = P) (a : -tenD k < q) (b : q < tenD k) (c : k = 0 ∨ ¬ Int.tmod q 10 = 0) (hs : (0 ≤ W ∧ 0 ≤ P) ∨ (W ≤ 0 ∧ P ≤ 0)) : decV (W * tenD k + q) k = 1000000 * W + P ∧ (k = 0 ∨ ¬ (W * tenD k + q) % 10 = 0) ∧ ((W < -Int.tdiv 1000000000000000 (tenD k) ∨ W > Int.tdiv 1000000000000000 (tenD k)) → W * tenD k + q < -1000000000000000 ∨ 1000000000000000 < W * tenD k + q) := by
 have e := (td10 q).2
 rw [e] at c
 rcases six_of h0 h1 with rfl | rfl | rfl | rfl | rfl | rfl | rfl
 ·simp only [dv0, tn0, show Int.tdiv 1000000000000000 1 = 1000000000000000 from rfl] at hq a b ⊢; exact ⟨by omega, .inl trivial, by omega⟩
 ·simp only [dv1, tn1, show Int.tdiv 1000000000000000 10 = 100000000000000 from rfl] at *; omega
 ·simp only [dv2, tn2, show Int.tdiv 1000000000000000 100 = 10000000000000 from rfl] at *; omega
 ·simp only [dv3, tn3, show Int.tdiv 1000000000000000 1000 = 1000000000000 from rfl] at *; omega
 ·simp only [dv4, tn4, show Int.tdiv 1000000000000000 10000 = 100000000000 from rfl] at *; omega
 ·simp only [dv5, tn5, show Int.tdiv 1000000000000000 100000 = 10000000000 from rfl] at *; omega
 ·simp only [dv6, tn6, show Int.tdiv 1000000000000000 1000000 = 1000000000 from rfl] at *; omega
theorem decB_of {n s : Int} (h0 : 0 ≤ s) (h1 : s ≤ 6) (t : s = 0 ∨ ¬ n % 10 = 0) (a : -1000000000000000 ≤ n) (b : n ≤ 1000000000000000) : decB n s = true := by
 have e := (td10 n).2
 simp only [decB, Bool.and_eq_true, Bool.or_eq_true, decide_eq_true_eq]
 exact ⟨⟨⟨⟨h0, h1⟩, a⟩, b⟩, t.imp id fun h h' => h (e.1 h')⟩
theorem decB_t {n s : Int} (h : decB n s = true) : s = 0 ∨ ¬ n % 10 = 0 := by
 obtain ⟨_, _, _, _, t⟩ := decB_bd h
 exact t.imp id fun h h' => h ((td10 n).2.2 h')
theorem j_yes {n s V rn rs : Int} {rb : Bool} (h : isJ V rn rs rb) (hb : decB n s = true) (hv : decV n s = V) : rn = n ∧ rs = s ∧ rb = true := by
 cases rb with
 | false => exact absurd hv ((h.2 rfl).2.2 n s hb)
 | true =>
  obtain ⟨a, b⟩ := h.1 rfl
  obtain ⟨c, d⟩ := decV_inj a hb (by rw [b, hv])
  exact ⟨c, d, rfl⟩
theorem j_no {n s V rn rs : Int} {rb : Bool} (h : isJ V rn rs rb) (h0 : 0 ≤ s) (h1 : s ≤ 6) (t : s = 0 ∨ ¬ n % 10 = 0) (hv : decV n s = V) (hb : n < -1000000000000000 ∨ 1000000000000000 < n) : rn = 0 ∧ rs = 0 ∧ rb = false := by
 cases rb with
 | false => exact ⟨(h.2 rfl).1, (h.2 rfl).2.1, rfl⟩
 | true =>
  obtain ⟨a, b⟩ := h.1 rfl
  obtain ⟨y1, y2, y3, y4, y5⟩ := decB_bd a
  obtain ⟨c, d⟩ := decV_inj0 y1 y2 h0 h1 (decB_t a) t (by rw [b, hv])
  omega
theorem sp_small {n s : Int} (h : decB n s = true) : -1000000000000000 ≤ spW n s ∧ spW n s ≤ 1000000000000000 ∧ -1000000 < spP n s ∧ spP n s < 1000000 ∧ decV n s = 1000000 * spW n s + spP n s := by
 obtain ⟨a, b, c, d, _⟩ := decB_bd h
 obtain ⟨e, f, g, i⟩ := sp_facts (n := n) a b
 refine ⟨?_, ?_, f, g, e⟩ <;> (rcases six_of a b with rfl | rfl | rfl | rfl | rfl | rfl | rfl <;> simp only [dv0, dv1, dv2, dv3, dv4, dv5, dv6] at e <;> omega)
end Go.Proofs.YtdejnaokkdndeaaGreatDoor
namespace Go.Proofs.YtdejnaokkdndeaaGreatDoor
open Go.RowKit Go.V
open Go.Eng (inR byteAt u8 bytesV)
end Go.Proofs.YtdejnaokkdndeaaGreatDoor
namespace Go.Proofs.YtdejnaokkdndeaaGreatDoor
open Go.RowKit Go.V
open Go.Eng (inR byteAt u8 bytesV)
variable {g : Gv}
theorem S_dat (l : List UInt8) : (S l).data.toList = l := by simp [S]
theorem drewN_bel (w : World) (n : Nat) : Below w.heap.size w (w.drewN n) := ⟨rfl, rfl, rfl, Nat.le_refl _, fun _ _ => rfl⟩
theorem cut_ok' (s p : List UInt8) (hs : s.length < 4294967281) : SpG g 101 [.c (.d (.s (S s))), .c (.d (.s (S p)))] [] (.tup [(false, [.d (.s (S (Lib.cut s p).1))]), (false, [.d (.s (S (Lib.cut s p).2.1))]), (false, [.d (.b (Lib.cut s p).2.2)])]) [] := by
 refine spec_of (args := [.string (S s), .string (S p)]) rfl rfl rfl fun w hG => ?_
 obtain ⟨ty, fz, h0⟩ := hG 1 [.int .i64 g.maxLen] (by simp [Gl])
 have := Tryz.strings_Cut (S s) (S p) g.maxLen w (by rw [S_size]; omega) (by rw [Lib.cell_of_heap h0]; rfl)
 rw [S_dat, S_dat] at this
 exact this.mono fun _ _ ⟨x, n, y⟩ => ⟨x, by rw [y]; exact drewN_bel _ _⟩
end Go.Proofs.YtdejnaokkdndeaaGreatDoor
namespace Go.Proofs.YtdejnaokkdndeaaGreatDoor
open Go.RowKit Go.V
open Go.Eng (inR byteAt u8 bytesV)
variable {m : Int}
end Go.Proofs.YtdejnaokkdndeaaGreatDoor
namespace Go.Proofs.YtdejnaokkdndeaaGreatDoor
open Go.RowKit Go.V
open Go.Eng (inR byteAt u8 bytesV)
variable {m : Int}
theorem inR_of {x : Int} (a : -9000000000000000000 ≤ x) (b : x ≤ 9000000000000000000) : inR x := by unfold inR; omega
theorem ten_at {k : Int} (h0 : 0 ≤ k) (h1 : k ≤ 6) : tensL.getD (0 + k.toNat * 1) 0 = tenD k := by rw [Nat.zero_add, Nat.mul_one]; rfl
theorem W_small {W k q : Int} (h0 : 0 ≤ k) (h1 : k ≤ 6) (a : ¬ (W < -Int.tdiv 1000000000000000 (tenD k) ∨ W > Int.tdiv 1000000000000000 (tenD k))) : -1000000000000000 ≤ W * tenD k ∧ W * tenD k ≤ 1000000000000000 ∧ tenD k ≤ 1000000 := by
 rcases six_of h0 h1 with rfl | rfl | rfl | rfl | rfl | rfl | rfl
 ·simp only [tn0, show Int.tdiv 1000000000000000 1 = 1000000000000000 from rfl] at *; omega
 ·simp only [tn1, show Int.tdiv 1000000000000000 10 = 100000000000000 from rfl] at *; omega
 ·simp only [tn2, show Int.tdiv 1000000000000000 100 = 10000000000000 from rfl] at *; omega
 ·simp only [tn3, show Int.tdiv 1000000000000000 1000 = 1000000000000 from rfl] at *; omega
 ·simp only [tn4, show Int.tdiv 1000000000000000 10000 = 100000000000 from rfl] at *; omega
 ·simp only [tn5, show Int.tdiv 1000000000000000 100000 = 10000000000 from rfl] at *; omega
 ·simp only [tn6, show Int.tdiv 1000000000000000 1000000 = 1000000000 from rfl] at *; omega
theorem most_of {k : Int} (h0 : 0 ≤ k) (h1 : k ≤ 6) : tenD k ≠ 0 ∧ 0 ≤ Int.tdiv 1000000000000000 (tenD k) ∧ Int.tdiv 1000000000000000 (tenD k) ≤ 1000000000000000 := by
 rcases six_of h0 h1 with rfl | rfl | rfl | rfl | rfl | rfl | rfl <;> decide
theorem tdiv_le (q : Int) (h : -2000000 ≤ q ∧ q ≤ 2000000) : -2000000 ≤ Int.tdiv q 10 ∧ Int.tdiv q 10 ≤ 2000000 := by
 have := Int.mul_tdiv_add_tmod q 10
 have b2 := Int.lt_tmod_of_pos q (show (0 : Int) < 10 by decide)
 have b1 := Int.tmod_lt_of_pos q (show (0 : Int) < 10 by decide)
 omega
theorem neg_wrap {x : Int} (a : 0 ≤ x) (b : x ≤ 1000000000000000) : IntKind.wrap .i64 (0 - x) = -x := by
 rw [wrap64 (by unfold inR; omega)]; omega
theorem decJoin_ok (w p rn rs : Int) (rb : Bool) (hw : -4000000000000000 ≤ w ∧ w ≤ 4000000000000000) (hp : -4000000 ≤ p ∧ p ≤ 4000000) (h : isJ (1000000 * w + p) rn rs rb) :
  SpG (gT m) 277 [.c (.d (.i w)), .c (.d (.i p))] [] (.tup [(true, [.d (.i rn), .d (.i rs)]), (false, [.d (.b rb)])]) [] := by
 have t6 := td6 p
 refine enterB 74 Tryz.func277 (by kernel_rfl) fun fr hG => ?_
 refine zC hG [] [1, 0, 1, 1, 1] ((decide ((w + (Int.tdiv p 1000000) : Int) > 0)) && (decide ((Int.tmod p 1000000 : Int) < 0))) (⟨[(0, [], .c (.d (.i (w + (Int.tdiv p 1000000))))), (1, [], .c (.d (.i (Int.tmod p 1000000)))), (4, [], .c (.bx 100 0)), (5, [], .c (.d (.b false)))], [(100, .box 38 [.d (.i 0), .d (.i 0)])]⟩) (by kernel_rfl) (conjC (show 1000000 ≠ (0 : Int) ∧ inR (Int.tdiv p 1000000) from (by intros; first | omega | decide | exact inR_of (by omega) (by omega) | exact ⟨by omega, inR_of (by omega) (by omega)⟩ | exact ⟨by omega, by show _ < ((7 : Nat) : Int); omega⟩ | (simp only [e0]; first | exact inR_of (by omega) (by omega) | exact ⟨hmo.1, inR_of (by omega) (by omega)⟩ | omega))) (conjC (show inR (w + (Int.tdiv p 1000000)) from (by intros; first | omega | decide | exact inR_of (by omega) (by omega) | exact ⟨by omega, inR_of (by omega) (by omega)⟩ | exact ⟨by omega, by show _ < ((7 : Nat) : Int); omega⟩ | (simp only [e0]; first | exact inR_of (by omega) (by omega) | exact ⟨hmo.1, inR_of (by omega) (by omega)⟩ | omega))) (conj1 (show 1000000 ≠ (0 : Int) from (by intros; first | omega | decide | exact inR_of (by omega) (by omega) | exact ⟨by omega, inR_of (by omega) (by omega)⟩ | exact ⟨by omega, by show _ < ((7 : Nat) : Int); omega⟩ | (simp only [e0]; first | exact inR_of (by omega) (by omega) | exact ⟨hmo.1, inR_of (by omega) (by omega)⟩ | omega)))))) (fun hc1 => ?_) (fun hc1 => ?_)
 ·(try simp only [blS] at hc1)
  refine zC hG [] [1, 0, 1, 1, 1, 1] ((decide (((w + (Int.tdiv p 1000000)) - 1 : Int) < 0)) && (decide (((Int.tmod p 1000000) + 1000000 : Int) > 0))) (⟨[(0, [], .c (.d (.i ((w + (Int.tdiv p 1000000)) - 1)))), (1, [], .c (.d (.i ((Int.tmod p 1000000) + 1000000)))), (4, [], .c (.bx 100 0)), (5, [], .c (.d (.b false)))], [(100, .box 38 [.d (.i 0), .d (.i 0)])]⟩) (by kernel_rfl) (conjC (show inR ((w + (Int.tdiv p 1000000)) - 1) from (by intros; first | omega | decide | exact inR_of (by omega) (by omega) | exact ⟨by omega, inR_of (by omega) (by omega)⟩ | exact ⟨by omega, by show _ < ((7 : Nat) : Int); omega⟩ | (simp only [e0]; first | exact inR_of (by omega) (by omega) | exact ⟨hmo.1, inR_of (by omega) (by omega)⟩ | omega))) (conj1 (show inR ((Int.tmod p 1000000) + 1000000) from (by intros; first | omega | decide | exact inR_of (by omega) (by omega) | exact ⟨by omega, inR_of (by omega) (by omega)⟩ | exact ⟨by omega, by show _ < ((7 : Nat) : Int); omega⟩ | (simp only [e0]; first | exact inR_of (by omega) (by omega) | exact ⟨hmo.1, inR_of (by omega) (by omega)⟩ | omega))))) (fun hc2 => ?_) (fun hc2 => ?_)
  ·(try simp only [blS] at hc2)
   refine zL hG [] [0, 0, 1, 1, 1, 1, 1, 1] (fun (zz : Int × Int) => match zz with | (q, k) => (k.toNat, ⟨[(0, [], .c (.d (.i (((w + (Int.tdiv p 1000000)) - 1) + 1)))), (1, [], .c (.d (.i q))), (4, [], .c (.bx 100 0)), (5, [], .c (.d (.b false))), (6, [], .c (.d (.i k)))], [(100, .box 38 [.d (.i 0), .d (.i 0)])]⟩, 0 ≤ k ∧ k ≤ 6 ∧ decV q k = (((Int.tmod p 1000000) + 1000000) - 1000000) ∧ -tenD k < q ∧ q < tenD k ∧ isJ (1000000 * (((w + (Int.tdiv p 1000000)) - 1) + 1) + (((Int.tmod p 1000000) + 1000000) - 1000000)) rn rs rb ∧ ((0 ≤ (((w + (Int.tdiv p 1000000)) - 1) + 1 : Int) ∧ 0 ≤ (((Int.tmod p 1000000) + 1000000) - 1000000)) ∨ ((((w + (Int.tdiv p 1000000)) - 1) + 1 : Int) ≤ 0 ∧ (((Int.tmod p 1000000) + 1000000) - 1000000) ≤ 0)) ∧ -5000000000000000 ≤ (((w + (Int.tdiv p 1000000)) - 1) + 1 : Int) ∧ (((w + (Int.tdiv p 1000000)) - 1) + 1 : Int) ≤ 5000000000000000)) (((Int.tmod p 1000000) + 1000000) - 1000000, 6) (by kernel_rfl) (conjC (show inR (((w + (Int.tdiv p 1000000)) - 1) + 1) from (by intros; first | omega | decide | exact inR_of (by omega) (by omega) | exact ⟨by omega, inR_of (by omega) (by omega)⟩ | exact ⟨by omega, by show _ < ((7 : Nat) : Int); omega⟩ | (simp only [e0]; first | exact inR_of (by omega) (by omega) | exact ⟨hmo.1, inR_of (by omega) (by omega)⟩ | omega))) (conj1 (show inR (((Int.tmod p 1000000) + 1000000) - 1000000) from (by intros; first | omega | decide | exact inR_of (by omega) (by omega) | exact ⟨by omega, inR_of (by omega) (by omega)⟩ | exact ⟨by omega, by show _ < ((7 : Nat) : Int); omega⟩ | (simp only [e0]; first | exact inR_of (by omega) (by omega) | exact ⟨hmo.1, inR_of (by omega) (by omega)⟩ | omega))))) (by kernel_rfl) ?_ ?_
   ·refine ⟨by decide, by decide, Int.mul_one _, by rw [tn6]; omega, by rw [tn6]; omega, ?_, by omega, by omega, by omega⟩
    rw [show 1000000 * (((w + (Int.tdiv p 1000000)) - 1) + 1) + (((Int.tmod p 1000000) + 1000000) - 1000000) = 1000000 * w + p by omega]; exact h
   rintro ⟨q, k⟩ ⟨hk0, hk6, hq, hq1, hq2, hj, hsg, hw1, hw2⟩
   have hmo := most_of hk0 hk6
   have e0 := ten_at hk0 hk6
   have htd := td10 q
   have hten := tenD_div hk0 hk6
   have hws := fun a => W_small (W := ((w + (Int.tdiv p 1000000)) - 1) + 1) (q := q) hk0 hk6 a
   have htl := tdiv_le q (by omega)
   have hwr := neg_wrap (x := Int.tdiv 1000000000000000 (tenD k)) (by omega) (by omega)
   refine zc hG [] [1, 0] ((decide ((k : Int) > 0)) && (decide ((Int.tmod q 10 : Int) = 0))) (by kernel_rfl) (conj1 (show (decide ((k : Int) > 0)) = true → 10 ≠ (0 : Int) from (by intros; first | omega | decide | exact inR_of (by omega) (by omega) | exact ⟨by omega, inR_of (by omega) (by omega)⟩ | exact ⟨by omega, by show _ < ((7 : Nat) : Int); omega⟩ | (simp only [e0]; first | exact inR_of (by omega) (by omega) | exact ⟨hmo.1, inR_of (by omega) (by omega)⟩ | omega)))) (fun hc4 => ?_) (fun hc4 => ?_)
   ·(try simp only [blS] at hc4)
    refine zD hG [] (Int.tdiv q 10, k - 1) (by kernel_rfl) (conjC (show 10 ≠ (0 : Int) ∧ inR (Int.tdiv q 10) from (by intros; first | omega | decide | exact inR_of (by omega) (by omega) | exact ⟨by omega, inR_of (by omega) (by omega)⟩ | exact ⟨by omega, by show _ < ((7 : Nat) : Int); omega⟩ | (simp only [e0]; first | exact inR_of (by omega) (by omega) | exact ⟨hmo.1, inR_of (by omega) (by omega)⟩ | omega))) (conj1 (show inR (k - 1) from (by intros; first | omega | decide | exact inR_of (by omega) (by omega) | exact ⟨by omega, inR_of (by omega) (by omega)⟩ | exact ⟨by omega, by show _ < ((7 : Nat) : Int); omega⟩ | (simp only [e0]; first | exact inR_of (by omega) (by omega) | exact ⟨hmo.1, inR_of (by omega) (by omega)⟩ | omega))))) ?_ ?_
    ·(try dsimp only); omega
    ·obtain ⟨s1, s2, s3, s4, s5⟩ := j_step hk0 hk6 hq hq1 hq2 (by omega) (by omega)
     exact ⟨s1, s2, s3, s4, s5, hj, hsg, hw1, hw2⟩
   ·(try simp only [blS] at hc4)
    refine zE hG [] (.exit 0) (⟨[(0, [], .c (.d (.i (((w + (Int.tdiv p 1000000)) - 1) + 1)))), (1, [], .c (.d (.i q))), (4, [], .c (.bx 100 0)), (5, [], .c (.d (.b false))), (6, [], .c (.d (.i k)))], [(100, .box 38 [.d (.i 0), .d (.i 0)])]⟩) (by kernel_rfl) conj0 rfl ?_
    refine zc hG [(13, 2, .elem [.i (tensL.getD (0 + (k : Int).toNat * 1) 0)])] [1, 0, 1, 1, 1, 1, 1, 1, 1, 1] ((decide ((((w + (Int.tdiv p 1000000)) - 1) + 1 : Int) < (IntKind.wrap .i64 (0 - (Int.tdiv 1000000000000000 (tensL.getD (0 + (k : Int).toNat * 1) 0)))))) || (decide ((((w + (Int.tdiv p 1000000)) - 1) + 1 : Int) > (Int.tdiv 1000000000000000 (tensL.getD (0 + (k : Int).toNat * 1) 0))))) (by kernel_rfl) (conjC (show (0 : Int) ≤ k ∧ k < ((7 : Nat) : Int) from (by intros; first | omega | decide | exact inR_of (by omega) (by omega) | exact ⟨by omega, inR_of (by omega) (by omega)⟩ | exact ⟨by omega, by show _ < ((7 : Nat) : Int); omega⟩ | (simp only [e0]; first | exact inR_of (by omega) (by omega) | exact ⟨hmo.1, inR_of (by omega) (by omega)⟩ | omega))) (conjC (show (tensL.map (Value.int .i64) : List Value)[0 + (k : Int).toNat * 1]? = some (.int .i64 (tensL.getD (0 + (k : Int).toNat * 1) 0)) from (by intros; exact map_nat 0 (by show _ < 7; omega))) (conj1 (show (tensL.getD (0 + (k : Int).toNat * 1) 0) ≠ (0 : Int) ∧ inR (Int.tdiv 1000000000000000 (tensL.getD (0 + (k : Int).toNat * 1) 0)) from (by intros; first | omega | decide | exact inR_of (by omega) (by omega) | exact ⟨by omega, inR_of (by omega) (by omega)⟩ | exact ⟨by omega, by show _ < ((7 : Nat) : Int); omega⟩ | (simp only [e0]; first | exact inR_of (by omega) (by omega) | exact ⟨hmo.1, inR_of (by omega) (by omega)⟩ | omega)))))) (fun hc5 => ?_) (fun hc5 => ?_)
    ·(try simp only [blS] at hc5)
     simp only [e0, hwr] at hc5
     refine zR hG [] [] (.tup [(true, [.d (.i 0), .d (.i 0)]), (false, [.d (.b false)])]) [] (by kernel_rfl) conj0 ?_ ?_
     ·obtain ⟨g1, g2, g3⟩ := j_end hk0 hk6 hq hq1 hq2 (by omega) hsg
      obtain ⟨rfl, rfl, rfl⟩ := j_no hj hk0 hk6 g2 g1 (g3 hc5)
      rfl
     ·rfl
    ·(try simp only [blS] at hc5)
     simp only [e0, hwr] at hc5
     have hww := hws (by omega)
     refine zC hG [(16, 3, .elem [.i (tensL.getD (0 + (k : Int).toNat * 1) 0)]), (17, 1, .call (.c (.d (.b (decide ((-1000000000000000 : Int) ≤ (((((w + (Int.tdiv p 1000000)) - 1) + 1) * (tensL.getD (0 + (k : Int).toNat * 1) 0)) + q)) && decide ((((((w + (Int.tdiv p 1000000)) - 1) + 1) * (tensL.getD (0 + (k : Int).toNat * 1) 0)) + q) ≤ (1000000000000000 : Int)))))) [] [])] [1, 0, 1, 1, 1, 1, 1, 1, 1, 1, 1, 1] (!(decide ((-1000000000000000 : Int) ≤ (((((w + (Int.tdiv p 1000000)) - 1) + 1) * (tensL.getD (0 + (k : Int).toNat * 1) 0)) + q)) && decide ((((((w + (Int.tdiv p 1000000)) - 1) + 1) * (tensL.getD (0 + (k : Int).toNat * 1) 0)) + q) ≤ (1000000000000000 : Int)))) (⟨[(4, [], .c (.bx 100 0)), (5, [], .c (.d (.b false))), (6, [], .c (.d (.i k))), (8, [], .c (.d (.i (((((w + (Int.tdiv p 1000000)) - 1) + 1) * (tensL.getD (0 + (k : Int).toNat * 1) 0)) + q))))], [(100, .box 38 [.d (.i 0), .d (.i 0)])]⟩) (by kernel_rfl) (conjC (show (0 : Int) ≤ k ∧ k < ((7 : Nat) : Int) from (by intros; first | omega | decide | exact inR_of (by omega) (by omega) | exact ⟨by omega, inR_of (by omega) (by omega)⟩ | exact ⟨by omega, by show _ < ((7 : Nat) : Int); omega⟩ | (simp only [e0]; first | exact inR_of (by omega) (by omega) | exact ⟨hmo.1, inR_of (by omega) (by omega)⟩ | omega))) (conjC (show (tensL.map (Value.int .i64) : List Value)[0 + (k : Int).toNat * 1]? = some (.int .i64 (tensL.getD (0 + (k : Int).toNat * 1) 0)) from (by intros; exact map_nat 0 (by show _ < 7; omega))) (conjC (show inR ((((w + (Int.tdiv p 1000000)) - 1) + 1) * (tensL.getD (0 + (k : Int).toNat * 1) 0)) from (by intros; first | omega | decide | exact inR_of (by omega) (by omega) | exact ⟨by omega, inR_of (by omega) (by omega)⟩ | exact ⟨by omega, by show _ < ((7 : Nat) : Int); omega⟩ | (simp only [e0]; first | exact inR_of (by omega) (by omega) | exact ⟨hmo.1, inR_of (by omega) (by omega)⟩ | omega))) (conjC (show inR (((((w + (Int.tdiv p 1000000)) - 1) + 1) * (tensL.getD (0 + (k : Int).toNat * 1) 0)) + q) from (by intros; first | omega | decide | exact inR_of (by omega) (by omega) | exact ⟨by omega, inR_of (by omega) (by omega)⟩ | exact ⟨by omega, by show _ < ((7 : Nat) : Int); omega⟩ | (simp only [e0]; first | exact inR_of (by omega) (by omega) | exact ⟨hmo.1, inR_of (by omega) (by omega)⟩ | omega))) (conj1 ((within_any (((((w + (Int.tdiv p 1000000)) - 1) + 1) * (tensL.getD (0 + (k : Int).toNat * 1) 0)) + q) : SpG (gT m) _ _ _ _ _))))))) (fun hc6 => ?_) (fun hc6 => ?_)
     ·(try simp only [blS] at hc6)
      simp only [e0] at hc6
      refine zR hG [] [] (.tup [(true, [.d (.i 0), .d (.i 0)]), (false, [.d (.b false)])]) [] (by kernel_rfl) conj0 ?_ ?_
      ·obtain ⟨g1, g2, g3⟩ := j_end hk0 hk6 hq hq1 hq2 (by omega) hsg
       obtain ⟨rfl, rfl, rfl⟩ := j_no hj hk0 hk6 g2 g1 (by omega)
       rfl
      ·rfl
     ·(try simp only [blS] at hc6)
      simp only [e0] at hc6
      refine zR hG [] [] (.tup [(true, [.d (.i (((((w + (Int.tdiv p 1000000)) - 1) + 1) * (tensL.getD (0 + (k : Int).toNat * 1) 0)) + q)), .d (.i k)]), (false, [.d (.b true)])]) [] (by kernel_rfl) conj0 ?_ ?_
      ·obtain ⟨g1, g2, g3⟩ := j_end hk0 hk6 hq hq1 hq2 (by omega) hsg
       simp only [e0]
       obtain ⟨rfl, rfl, rfl⟩ := j_yes hj (decB_of hk0 hk6 g2 (by omega) (by omega)) g1
       rfl
      ·rfl
  ·(try simp only [blS] at hc2)
   refine zL hG [] [0, 0, 1, 1, 1, 1, 1, 1] (fun (zz : Int × Int) => match zz with | (q, k) => (k.toNat, ⟨[(0, [], .c (.d (.i ((w + (Int.tdiv p 1000000)) - 1)))), (1, [], .c (.d (.i q))), (4, [], .c (.bx 100 0)), (5, [], .c (.d (.b false))), (6, [], .c (.d (.i k)))], [(100, .box 38 [.d (.i 0), .d (.i 0)])]⟩, 0 ≤ k ∧ k ≤ 6 ∧ decV q k = ((Int.tmod p 1000000) + 1000000) ∧ -tenD k < q ∧ q < tenD k ∧ isJ (1000000 * ((w + (Int.tdiv p 1000000)) - 1) + ((Int.tmod p 1000000) + 1000000)) rn rs rb ∧ ((0 ≤ ((w + (Int.tdiv p 1000000)) - 1 : Int) ∧ 0 ≤ ((Int.tmod p 1000000) + 1000000)) ∨ (((w + (Int.tdiv p 1000000)) - 1 : Int) ≤ 0 ∧ ((Int.tmod p 1000000) + 1000000) ≤ 0)) ∧ -5000000000000000 ≤ ((w + (Int.tdiv p 1000000)) - 1 : Int) ∧ ((w + (Int.tdiv p 1000000)) - 1 : Int) ≤ 5000000000000000)) ((Int.tmod p 1000000) + 1000000, 6) (by kernel_rfl) conj0 (by kernel_rfl) ?_ ?_
   ·refine ⟨by decide, by decide, Int.mul_one _, by rw [tn6]; omega, by rw [tn6]; omega, ?_, by omega, by omega, by omega⟩
    rw [show 1000000 * ((w + (Int.tdiv p 1000000)) - 1) + ((Int.tmod p 1000000) + 1000000) = 1000000 * w + p by omega]; exact h
   rintro ⟨q, k⟩ ⟨hk0, hk6, hq, hq1, hq2, hj, hsg, hw1, hw2⟩
   have hmo := most_of hk0 hk6
   have e0 := ten_at hk0 hk6
   have htd := td10 q
   have hten := tenD_div hk0 hk6
   have hws := fun a => W_small (W := (w + (Int.tdiv p 1000000)) - 1) (q := q) hk0 hk6 a
   have htl := tdiv_le q (by omega)
   have hwr := neg_wrap (x := Int.tdiv 1000000000000000 (tenD k)) (by omega) (by omega)
   refine zc hG [] [1, 0] ((decide ((k : Int) > 0)) && (decide ((Int.tmod q 10 : Int) = 0))) (by kernel_rfl) (conj1 (show (decide ((k : Int) > 0)) = true → 10 ≠ (0 : Int) from (by intros; first | omega | decide | exact inR_of (by omega) (by omega) | exact ⟨by omega, inR_of (by omega) (by omega)⟩ | exact ⟨by omega, by show _ < ((7 : Nat) : Int); omega⟩ | (simp only [e0]; first | exact inR_of (by omega) (by omega) | exact ⟨hmo.1, inR_of (by omega) (by omega)⟩ | omega)))) (fun hc8 => ?_) (fun hc8 => ?_)
   ·(try simp only [blS] at hc8)
    refine zD hG [] (Int.tdiv q 10, k - 1) (by kernel_rfl) (conjC (show 10 ≠ (0 : Int) ∧ inR (Int.tdiv q 10) from (by intros; first | omega | decide | exact inR_of (by omega) (by omega) | exact ⟨by omega, inR_of (by omega) (by omega)⟩ | exact ⟨by omega, by show _ < ((7 : Nat) : Int); omega⟩ | (simp only [e0]; first | exact inR_of (by omega) (by omega) | exact ⟨hmo.1, inR_of (by omega) (by omega)⟩ | omega))) (conj1 (show inR (k - 1) from (by intros; first | omega | decide | exact inR_of (by omega) (by omega) | exact ⟨by omega, inR_of (by omega) (by omega)⟩ | exact ⟨by omega, by show _ < ((7 : Nat) : Int); omega⟩ | (simp only [e0]; first | exact inR_of (by omega) (by omega) | exact ⟨hmo.1, inR_of (by omega) (by omega)⟩ | omega))))) ?_ ?_
    ·(try dsimp only); omega
    ·obtain ⟨s1, s2, s3, s4, s5⟩ := j_step hk0 hk6 hq hq1 hq2 (by omega) (by omega)
     exact ⟨s1, s2, s3, s4, s5, hj, hsg, hw1, hw2⟩
   ·(try simp only [blS] at hc8)
    refine zE hG [] (.exit 0) (⟨[(0, [], .c (.d (.i ((w + (Int.tdiv p 1000000)) - 1)))), (1, [], .c (.d (.i q))), (4, [], .c (.bx 100 0)), (5, [], .c (.d (.b false))), (6, [], .c (.d (.i k)))], [(100, .box 38 [.d (.i 0), .d (.i 0)])]⟩) (by kernel_rfl) conj0 rfl ?_
    refine zc hG [(13, 2, .elem [.i (tensL.getD (0 + (k : Int).toNat * 1) 0)])] [1, 0, 1, 1, 1, 1, 1, 1, 1, 1] ((decide (((w + (Int.tdiv p 1000000)) - 1 : Int) < (IntKind.wrap .i64 (0 - (Int.tdiv 1000000000000000 (tensL.getD (0 + (k : Int).toNat * 1) 0)))))) || (decide (((w + (Int.tdiv p 1000000)) - 1 : Int) > (Int.tdiv 1000000000000000 (tensL.getD (0 + (k : Int).toNat * 1) 0))))) (by kernel_rfl) (conjC (show (0 : Int) ≤ k ∧ k < ((7 : Nat) : Int) from (by intros; first | omega | decide | exact inR_of (by omega) (by omega) | exact ⟨by omega, inR_of (by omega) (by omega)⟩ | exact ⟨by omega, by show _ < ((7 : Nat) : Int); omega⟩ | (simp only [e0]; first | exact inR_of (by omega) (by omega) | exact ⟨hmo.1, inR_of (by omega) (by omega)⟩ | omega))) (conjC (show (tensL.map (Value.int .i64) : List Value)[0 + (k : Int).toNat * 1]? = some (.int .i64 (tensL.getD (0 + (k : Int).toNat * 1) 0)) from (by intros; exact map_nat 0 (by show _ < 7; omega))) (conj1 (show (tensL.getD (0 + (k : Int).toNat * 1) 0) ≠ (0 : Int) ∧ inR (Int.tdiv 1000000000000000 (tensL.getD (0 + (k : Int).toNat * 1) 0)) from (by intros; first | omega | decide | exact inR_of (by omega) (by omega) | exact ⟨by omega, inR_of (by omega) (by omega)⟩ | exact ⟨by omega, by show _ < ((7 : Nat) : Int); omega⟩ | (simp only [e0]; first | exact inR_of (by omega) (by omega) | exact ⟨hmo.1, inR_of (by omega) (by omega)⟩ | omega)))))) (fun hc9 => ?_) (fun hc9 => ?_)
    ·(try simp only [blS] at hc9)
     simp only [e0, hwr] at hc9
     refine zR hG [] [] (.tup [(true, [.d (.i 0), .d (.i 0)]), (false, [.d (.b false)])]) [] (by kernel_rfl) conj0 ?_ ?_
     ·obtain ⟨g1, g2, g3⟩ := j_end hk0 hk6 hq hq1 hq2 (by omega) hsg
      obtain ⟨rfl, rfl, rfl⟩ := j_no hj hk0 hk6 g2 g1 (g3 hc9)
      rfl
     ·rfl
    ·(try simp only [blS] at hc9)
     simp only [e0, hwr] at hc9
     have hww := hws (by omega)
     refine zC hG [(16, 3, .elem [.i (tensL.getD (0 + (k : Int).toNat * 1) 0)]), (17, 1, .call (.c (.d (.b (decide ((-1000000000000000 : Int) ≤ ((((w + (Int.tdiv p 1000000)) - 1) * (tensL.getD (0 + (k : Int).toNat * 1) 0)) + q)) && decide (((((w + (Int.tdiv p 1000000)) - 1) * (tensL.getD (0 + (k : Int).toNat * 1) 0)) + q) ≤ (1000000000000000 : Int)))))) [] [])] [1, 0, 1, 1, 1, 1, 1, 1, 1, 1, 1, 1] (!(decide ((-1000000000000000 : Int) ≤ ((((w + (Int.tdiv p 1000000)) - 1) * (tensL.getD (0 + (k : Int).toNat * 1) 0)) + q)) && decide (((((w + (Int.tdiv p 1000000)) - 1) * (tensL.getD (0 + (k : Int).toNat * 1) 0)) + q) ≤ (1000000000000000 : Int)))) (⟨[(4, [], .c (.bx 100 0)), (5, [], .c (.d (.b false))), (6, [], .c (.d (.i k))), (8, [], .c (.d (.i ((((w + (Int.tdiv p 1000000)) - 1) * (tensL.getD (0 + (k : Int).toNat * 1) 0)) + q))))], [(100, .box 38 [.d (.i 0), .d (.i 0)])]⟩) (by kernel_rfl) (conjC (show (0 : Int) ≤ k ∧ k < ((7 : Nat) : Int) from (by intros; first | omega | decide | exact inR_of (by omega) (by omega) | exact ⟨by omega, inR_of (by omega) (by omega)⟩ | exact ⟨by omega, by show _ < ((7 : Nat) : Int); omega⟩ | (simp only [e0]; first | exact inR_of (by omega) (by omega) | exact ⟨hmo.1, inR_of (by omega) (by omega)⟩ | omega))) (conjC (show (tensL.map (Value.int .i64) : List Value)[0 + (k : Int).toNat * 1]? = some (.int .i64 (tensL.getD (0 + (k : Int).toNat * 1) 0)) from (by intros; exact map_nat 0 (by show _ < 7; omega))) (conjC (show inR (((w + (Int.tdiv p 1000000)) - 1) * (tensL.getD (0 + (k : Int).toNat * 1) 0)) from (by intros; first | omega | decide | exact inR_of (by omega) (by omega) | exact ⟨by omega, inR_of (by omega) (by omega)⟩ | exact ⟨by omega, by show _ < ((7 : Nat) : Int); omega⟩ | (simp only [e0]; first | exact inR_of (by omega) (by omega) | exact ⟨hmo.1, inR_of (by omega) (by omega)⟩ | omega))) (conjC (show inR ((((w + (Int.tdiv p 1000000)) - 1) * (tensL.getD (0 + (k : Int).toNat * 1) 0)) + q) from (by intros; first | omega | decide | exact inR_of (by omega) (by omega) | exact ⟨by omega, inR_of (by omega) (by omega)⟩ | exact ⟨by omega, by show _ < ((7 : Nat) : Int); omega⟩ | (simp only [e0]; first | exact inR_of (by omega) (by omega) | exact ⟨hmo.1, inR_of (by omega) (by omega)⟩ | omega))) (conj1 ((within_any ((((w + (Int.tdiv p 1000000)) - 1) * (tensL.getD (0 + (k : Int).toNat * 1) 0)) + q) : SpG (gT m) _ _ _ _ _))))))) (fun hc10 => ?_) (fun hc10 => ?_)
     ·(try simp only [blS] at hc10)
      simp only [e0] at hc10
      refine zR hG [] [] (.tup [(true, [.d (.i 0), .d (.i 0)]), (false, [.d (.b false)])]) [] (by kernel_rfl) conj0 ?_ ?_
      ·obtain ⟨g1, g2, g3⟩ := j_end hk0 hk6 hq hq1 hq2 (by omega) hsg
       obtain ⟨rfl, rfl, rfl⟩ := j_no hj hk0 hk6 g2 g1 (by omega)
       rfl
      ·rfl
     ·(try simp only [blS] at hc10)
      simp only [e0] at hc10
      refine zR hG [] [] (.tup [(true, [.d (.i ((((w + (Int.tdiv p 1000000)) - 1) * (tensL.getD (0 + (k : Int).toNat * 1) 0)) + q)), .d (.i k)]), (false, [.d (.b true)])]) [] (by kernel_rfl) conj0 ?_ ?_
      ·obtain ⟨g1, g2, g3⟩ := j_end hk0 hk6 hq hq1 hq2 (by omega) hsg
       simp only [e0]
       obtain ⟨rfl, rfl, rfl⟩ := j_yes hj (decB_of hk0 hk6 g2 (by omega) (by omega)) g1
       rfl
      ·rfl
 ·(try simp only [blS] at hc1)
  refine zc hG [] [1, 0, 1, 1, 1, 1] ((decide ((w + (Int.tdiv p 1000000) : Int) < 0)) && (decide ((Int.tmod p 1000000 : Int) > 0))) (by kernel_rfl) conj0 (fun hc11 => ?_) (fun hc11 => ?_)
  ·(try simp only [blS] at hc11)
   refine zL hG [] [0, 0, 1, 1, 1, 1, 1, 1] (fun (zz : Int × Int) => match zz with | (q, k) => (k.toNat, ⟨[(0, [], .c (.d (.i ((w + (Int.tdiv p 1000000)) + 1)))), (1, [], .c (.d (.i q))), (4, [], .c (.bx 100 0)), (5, [], .c (.d (.b false))), (6, [], .c (.d (.i k)))], [(100, .box 38 [.d (.i 0), .d (.i 0)])]⟩, 0 ≤ k ∧ k ≤ 6 ∧ decV q k = ((Int.tmod p 1000000) - 1000000) ∧ -tenD k < q ∧ q < tenD k ∧ isJ (1000000 * ((w + (Int.tdiv p 1000000)) + 1) + ((Int.tmod p 1000000) - 1000000)) rn rs rb ∧ ((0 ≤ ((w + (Int.tdiv p 1000000)) + 1 : Int) ∧ 0 ≤ ((Int.tmod p 1000000) - 1000000)) ∨ (((w + (Int.tdiv p 1000000)) + 1 : Int) ≤ 0 ∧ ((Int.tmod p 1000000) - 1000000) ≤ 0)) ∧ -5000000000000000 ≤ ((w + (Int.tdiv p 1000000)) + 1 : Int) ∧ ((w + (Int.tdiv p 1000000)) + 1 : Int) ≤ 5000000000000000)) ((Int.tmod p 1000000) - 1000000, 6) (by kernel_rfl) (conjC (show inR ((w + (Int.tdiv p 1000000)) + 1) from (by intros; first | omega | decide | exact inR_of (by omega) (by omega) | exact ⟨by omega, inR_of (by omega) (by omega)⟩ | exact ⟨by omega, by show _ < ((7 : Nat) : Int); omega⟩ | (simp only [e0]; first | exact inR_of (by omega) (by omega) | exact ⟨hmo.1, inR_of (by omega) (by omega)⟩ | omega))) (conj1 (show inR ((Int.tmod p 1000000) - 1000000) from (by intros; first | omega | decide | exact inR_of (by omega) (by omega) | exact ⟨by omega, inR_of (by omega) (by omega)⟩ | exact ⟨by omega, by show _ < ((7 : Nat) : Int); omega⟩ | (simp only [e0]; first | exact inR_of (by omega) (by omega) | exact ⟨hmo.1, inR_of (by omega) (by omega)⟩ | omega))))) (by kernel_rfl) ?_ ?_
   ·refine ⟨by decide, by decide, Int.mul_one _, by rw [tn6]; omega, by rw [tn6]; omega, ?_, by omega, by omega, by omega⟩
    rw [show 1000000 * ((w + (Int.tdiv p 1000000)) + 1) + ((Int.tmod p 1000000) - 1000000) = 1000000 * w + p by omega]; exact h
   rintro ⟨q, k⟩ ⟨hk0, hk6, hq, hq1, hq2, hj, hsg, hw1, hw2⟩
   have hmo := most_of hk0 hk6
   have e0 := ten_at hk0 hk6
   have htd := td10 q
   have hten := tenD_div hk0 hk6
   have hws := fun a => W_small (W := (w + (Int.tdiv p 1000000)) + 1) (q := q) hk0 hk6 a
   have htl := tdiv_le q (by omega)
   have hwr := neg_wrap (x := Int.tdiv 1000000000000000 (tenD k)) (by omega) (by omega)
   refine zc hG [] [1, 0] ((decide ((k : Int) > 0)) && (decide ((Int.tmod q 10 : Int) = 0))) (by kernel_rfl) (conj1 (show (decide ((k : Int) > 0)) = true → 10 ≠ (0 : Int) from (by intros; first | omega | decide | exact inR_of (by omega) (by omega) | exact ⟨by omega, inR_of (by omega) (by omega)⟩ | exact ⟨by omega, by show _ < ((7 : Nat) : Int); omega⟩ | (simp only [e0]; first | exact inR_of (by omega) (by omega) | exact ⟨hmo.1, inR_of (by omega) (by omega)⟩ | omega)))) (fun hc13 => ?_) (fun hc13 => ?_)
   ·(try simp only [blS] at hc13)
    refine zD hG [] (Int.tdiv q 10, k - 1) (by kernel_rfl) (conjC (show 10 ≠ (0 : Int) ∧ inR (Int.tdiv q 10) from (by intros; first | omega | decide | exact inR_of (by omega) (by omega) | exact ⟨by omega, inR_of (by omega) (by omega)⟩ | exact ⟨by omega, by show _ < ((7 : Nat) : Int); omega⟩ | (simp only [e0]; first | exact inR_of (by omega) (by omega) | exact ⟨hmo.1, inR_of (by omega) (by omega)⟩ | omega))) (conj1 (show inR (k - 1) from (by intros; first | omega | decide | exact inR_of (by omega) (by omega) | exact ⟨by omega, inR_of (by omega) (by omega)⟩ | exact ⟨by omega, by show _ < ((7 : Nat) : Int); omega⟩ | (simp only [e0]; first | exact inR_of (by omega) (by omega) | exact ⟨hmo.1, inR_of (by omega) (by omega)⟩ | omega))))) ?_ ?_
    ·(try dsimp only); omega
    ·obtain ⟨s1, s2, s3, s4, s5⟩ := j_step hk0 hk6 hq hq1 hq2 (by omega) (by omega)
     exact ⟨s1, s2, s3, s4, s5, hj, hsg, hw1, hw2⟩
   ·(try simp only [blS] at hc13)
    refine zE hG [] (.exit 0) (⟨[(0, [], .c (.d (.i ((w + (Int.tdiv p 1000000)) + 1)))), (1, [], .c (.d (.i q))), (4, [], .c (.bx 100 0)), (5, [], .c (.d (.b false))), (6, [], .c (.d (.i k)))], [(100, .box 38 [.d (.i 0), .d (.i 0)])]⟩) (by kernel_rfl) conj0 rfl ?_
    refine zc hG [(13, 2, .elem [.i (tensL.getD (0 + (k : Int).toNat * 1) 0)])] [1, 0, 1, 1, 1, 1, 1, 1, 1, 1] ((decide (((w + (Int.tdiv p 1000000)) + 1 : Int) < (IntKind.wrap .i64 (0 - (Int.tdiv 1000000000000000 (tensL.getD (0 + (k : Int).toNat * 1) 0)))))) || (decide (((w + (Int.tdiv p 1000000)) + 1 : Int) > (Int.tdiv 1000000000000000 (tensL.getD (0 + (k : Int).toNat * 1) 0))))) (by kernel_rfl) (conjC (show (0 : Int) ≤ k ∧ k < ((7 : Nat) : Int) from (by intros; first | omega | decide | exact inR_of (by omega) (by omega) | exact ⟨by omega, inR_of (by omega) (by omega)⟩ | exact ⟨by omega, by show _ < ((7 : Nat) : Int); omega⟩ | (simp only [e0]; first | exact inR_of (by omega) (by omega) | exact ⟨hmo.1, inR_of (by omega) (by omega)⟩ | omega))) (conjC (show (tensL.map (Value.int .i64) : List Value)[0 + (k : Int).toNat * 1]? = some (.int .i64 (tensL.getD (0 + (k : Int).toNat * 1) 0)) from (by intros; exact map_nat 0 (by show _ < 7; omega))) (conj1 (show (tensL.getD (0 + (k : Int).toNat * 1) 0) ≠ (0 : Int) ∧ inR (Int.tdiv 1000000000000000 (tensL.getD (0 + (k : Int).toNat * 1) 0)) from (by intros; first | omega | decide | exact inR_of (by omega) (by omega) | exact ⟨by omega, inR_of (by omega) (by omega)⟩ | exact ⟨by omega, by show _ < ((7 : Nat) : Int); omega⟩ | (simp only [e0]; first | exact inR_of (by omega) (by omega) | exact ⟨hmo.1, inR_of (by omega) (by omega)⟩ | omega)))))) (fun hc14 => ?_) (fun hc14 => ?_)
    ·(try simp only [blS] at hc14)
     simp only [e0, hwr] at hc14
     refine zR hG [] [] (.tup [(true, [.d (.i 0), .d (.i 0)]), (false, [.d (.b false)])]) [] (by kernel_rfl) conj0 ?_ ?_
     ·obtain ⟨g1, g2, g3⟩ := j_end hk0 hk6 hq hq1 hq2 (by omega) hsg
      obtain ⟨rfl, rfl, rfl⟩ := j_no hj hk0 hk6 g2 g1 (g3 hc14)
      rfl
     ·rfl
    ·(try simp only [blS] at hc14)
     simp only [e0, hwr] at hc14
     have hww := hws (by omega)
     refine zC hG [(16, 3, .elem [.i (tensL.getD (0 + (k : Int).toNat * 1) 0)]), (17, 1, .call (.c (.d (.b (decide ((-1000000000000000 : Int) ≤ ((((w + (Int.tdiv p 1000000)) + 1) * (tensL.getD (0 + (k : Int).toNat * 1) 0)) + q)) && decide (((((w + (Int.tdiv p 1000000)) + 1) * (tensL.getD (0 + (k : Int).toNat * 1) 0)) + q) ≤ (1000000000000000 : Int)))))) [] [])] [1, 0, 1, 1, 1, 1, 1, 1, 1, 1, 1, 1] (!(decide ((-1000000000000000 : Int) ≤ ((((w + (Int.tdiv p 1000000)) + 1) * (tensL.getD (0 + (k : Int).toNat * 1) 0)) + q)) && decide (((((w + (Int.tdiv p 1000000)) + 1) * (tensL.getD (0 + (k : Int).toNat * 1) 0)) + q) ≤ (1000000000000000 : Int)))) (⟨[(4, [], .c (.bx 100 0)), (5, [], .c (.d (.b false))), (6, [], .c (.d (.i k))), (8, [], .c (.d (.i ((((w + (Int.tdiv p 1000000)) + 1) * (tensL.getD (0 + (k : Int).toNat * 1) 0)) + q))))], [(100, .box 38 [.d (.i 0), .d (.i 0)])]⟩) (by kernel_rfl) (conjC (show (0 : Int) ≤ k ∧ k < ((7 : Nat) : Int) from (by intros; first | omega | decide | exact inR_of (by omega) (by omega) | exact ⟨by omega, inR_of (by omega) (by omega)⟩ | exact ⟨by omega, by show _ < ((7 : Nat) : Int); omega⟩ | (simp only [e0]; first | exact inR_of (by omega) (by omega) | exact ⟨hmo.1, inR_of (by omega) (by omega)⟩ | omega))) (conjC (show (tensL.map (Value.int .i64) : List Value)[0 + (k : Int).toNat * 1]? = some (.int .i64 (tensL.getD (0 + (k : Int).toNat * 1) 0)) from (by intros; exact map_nat 0 (by show _ < 7; omega))) (conjC (show inR (((w + (Int.tdiv p 1000000)) + 1) * (tensL.getD (0 + (k : Int).toNat * 1) 0)) from (by intros; first | omega | decide | exact inR_of (by omega) (by omega) | exact ⟨by omega, inR_of (by omega) (by omega)⟩ | exact ⟨by omega, by show _ < ((7 : Nat) : Int); omega⟩ | (simp only [e0]; first | exact inR_of (by omega) (by omega) | exact ⟨hmo.1, inR_of (by omega) (by omega)⟩ | omega))) (conjC (show inR ((((w + (Int.tdiv p 1000000)) + 1) * (tensL.getD (0 + (k : Int).toNat * 1) 0)) + q) from (by intros; first | omega | decide | exact inR_of (by omega) (by omega) | exact ⟨by omega, inR_of (by omega) (by omega)⟩ | exact ⟨by omega, by show _ < ((7 : Nat) : Int); omega⟩ | (simp only [e0]; first | exact inR_of (by omega) (by omega) | exact ⟨hmo.1, inR_of (by omega) (by omega)⟩ | omega))) (conj1 ((within_any ((((w + (Int.tdiv p 1000000)) + 1) * (tensL.getD (0 + (k : Int).toNat * 1) 0)) + q) : SpG (gT m) _ _ _ _ _))))))) (fun hc15 => ?_) (fun hc15 => ?_)
     ·(try simp only [blS] at hc15)
      simp only [e0] at hc15
      refine zR hG [] [] (.tup [(true, [.d (.i 0), .d (.i 0)]), (false, [.d (.b false)])]) [] (by kernel_rfl) conj0 ?_ ?_
      ·obtain ⟨g1, g2, g3⟩ := j_end hk0 hk6 hq hq1 hq2 (by omega) hsg
       obtain ⟨rfl, rfl, rfl⟩ := j_no hj hk0 hk6 g2 g1 (by omega)
       rfl
      ·rfl
     ·(try simp only [blS] at hc15)
      simp only [e0] at hc15
      refine zR hG [] [] (.tup [(true, [.d (.i ((((w + (Int.tdiv p 1000000)) + 1) * (tensL.getD (0 + (k : Int).toNat * 1) 0)) + q)), .d (.i k)]), (false, [.d (.b true)])]) [] (by kernel_rfl) conj0 ?_ ?_
      ·obtain ⟨g1, g2, g3⟩ := j_end hk0 hk6 hq hq1 hq2 (by omega) hsg
       simp only [e0]
       obtain ⟨rfl, rfl, rfl⟩ := j_yes hj (decB_of hk0 hk6 g2 (by omega) (by omega)) g1
       rfl
      ·rfl
  ·(try simp only [blS] at hc11)
   refine zL hG [] [0, 0, 1, 1, 1, 1, 1, 1] (fun (zz : Int × Int) => match zz with | (q, k) => (k.toNat, ⟨[(0, [], .c (.d (.i (w + (Int.tdiv p 1000000))))), (1, [], .c (.d (.i q))), (4, [], .c (.bx 100 0)), (5, [], .c (.d (.b false))), (6, [], .c (.d (.i k)))], [(100, .box 38 [.d (.i 0), .d (.i 0)])]⟩, 0 ≤ k ∧ k ≤ 6 ∧ decV q k = (Int.tmod p 1000000) ∧ -tenD k < q ∧ q < tenD k ∧ isJ (1000000 * (w + (Int.tdiv p 1000000)) + (Int.tmod p 1000000)) rn rs rb ∧ ((0 ≤ (w + (Int.tdiv p 1000000) : Int) ∧ 0 ≤ (Int.tmod p 1000000)) ∨ ((w + (Int.tdiv p 1000000) : Int) ≤ 0 ∧ (Int.tmod p 1000000) ≤ 0)) ∧ -5000000000000000 ≤ (w + (Int.tdiv p 1000000) : Int) ∧ (w + (Int.tdiv p 1000000) : Int) ≤ 5000000000000000)) (Int.tmod p 1000000, 6) (by kernel_rfl) conj0 (by kernel_rfl) ?_ ?_
   ·refine ⟨by decide, by decide, Int.mul_one _, by rw [tn6]; omega, by rw [tn6]; omega, ?_, by omega, by omega, by omega⟩
    rw [show 1000000 * (w + (Int.tdiv p 1000000)) + (Int.tmod p 1000000) = 1000000 * w + p by omega]; exact h
   rintro ⟨q, k⟩ ⟨hk0, hk6, hq, hq1, hq2, hj, hsg, hw1, hw2⟩
   have hmo := most_of hk0 hk6
   have e0 := ten_at hk0 hk6
   have htd := td10 q
   have hten := tenD_div hk0 hk6
   have hws := fun a => W_small (W := w + (Int.tdiv p 1000000)) (q := q) hk0 hk6 a
   have htl := tdiv_le q (by omega)
   have hwr := neg_wrap (x := Int.tdiv 1000000000000000 (tenD k)) (by omega) (by omega)
   refine zc hG [] [1, 0] ((decide ((k : Int) > 0)) && (decide ((Int.tmod q 10 : Int) = 0))) (by kernel_rfl) (conj1 (show (decide ((k : Int) > 0)) = true → 10 ≠ (0 : Int) from (by intros; first | omega | decide | exact inR_of (by omega) (by omega) | exact ⟨by omega, inR_of (by omega) (by omega)⟩ | exact ⟨by omega, by show _ < ((7 : Nat) : Int); omega⟩ | (simp only [e0]; first | exact inR_of (by omega) (by omega) | exact ⟨hmo.1, inR_of (by omega) (by omega)⟩ | omega)))) (fun hc17 => ?_) (fun hc17 => ?_)
   ·(try simp only [blS] at hc17)
    refine zD hG [] (Int.tdiv q 10, k - 1) (by kernel_rfl) (conjC (show 10 ≠ (0 : Int) ∧ inR (Int.tdiv q 10) from (by intros; first | omega | decide | exact inR_of (by omega) (by omega) | exact ⟨by omega, inR_of (by omega) (by omega)⟩ | exact ⟨by omega, by show _ < ((7 : Nat) : Int); omega⟩ | (simp only [e0]; first | exact inR_of (by omega) (by omega) | exact ⟨hmo.1, inR_of (by omega) (by omega)⟩ | omega))) (conj1 (show inR (k - 1) from (by intros; first | omega | decide | exact inR_of (by omega) (by omega) | exact ⟨by omega, inR_of (by omega) (by omega)⟩ | exact ⟨by omega, by show _ < ((7 : Nat) : Int); omega⟩ | (simp only [e0]; first | exact inR_of (by omega) (by omega) | exact ⟨hmo.1, inR_of (by omega) (by omega)⟩ | omega))))) ?_ ?_
    ·(try dsimp only); omega
    ·obtain ⟨s1, s2, s3, s4, s5⟩ := j_step hk0 hk6 hq hq1 hq2 (by omega) (by omega)
     exact ⟨s1, s2, s3, s4, s5, hj, hsg, hw1, hw2⟩
   ·(try simp only [blS] at hc17)
    refine zE hG [] (.exit 0) (⟨[(0, [], .c (.d (.i (w + (Int.tdiv p 1000000))))), (1, [], .c (.d (.i q))), (4, [], .c (.bx 100 0)), (5, [], .c (.d (.b false))), (6, [], .c (.d (.i k)))], [(100, .box 38 [.d (.i 0), .d (.i 0)])]⟩) (by kernel_rfl) conj0 rfl ?_
    refine zc hG [(13, 2, .elem [.i (tensL.getD (0 + (k : Int).toNat * 1) 0)])] [1, 0, 1, 1, 1, 1, 1, 1, 1, 1] ((decide ((w + (Int.tdiv p 1000000) : Int) < (IntKind.wrap .i64 (0 - (Int.tdiv 1000000000000000 (tensL.getD (0 + (k : Int).toNat * 1) 0)))))) || (decide ((w + (Int.tdiv p 1000000) : Int) > (Int.tdiv 1000000000000000 (tensL.getD (0 + (k : Int).toNat * 1) 0))))) (by kernel_rfl) (conjC (show (0 : Int) ≤ k ∧ k < ((7 : Nat) : Int) from (by intros; first | omega | decide | exact inR_of (by omega) (by omega) | exact ⟨by omega, inR_of (by omega) (by omega)⟩ | exact ⟨by omega, by show _ < ((7 : Nat) : Int); omega⟩ | (simp only [e0]; first | exact inR_of (by omega) (by omega) | exact ⟨hmo.1, inR_of (by omega) (by omega)⟩ | omega))) (conjC (show (tensL.map (Value.int .i64) : List Value)[0 + (k : Int).toNat * 1]? = some (.int .i64 (tensL.getD (0 + (k : Int).toNat * 1) 0)) from (by intros; exact map_nat 0 (by show _ < 7; omega))) (conj1 (show (tensL.getD (0 + (k : Int).toNat * 1) 0) ≠ (0 : Int) ∧ inR (Int.tdiv 1000000000000000 (tensL.getD (0 + (k : Int).toNat * 1) 0)) from (by intros; first | omega | decide | exact inR_of (by omega) (by omega) | exact ⟨by omega, inR_of (by omega) (by omega)⟩ | exact ⟨by omega, by show _ < ((7 : Nat) : Int); omega⟩ | (simp only [e0]; first | exact inR_of (by omega) (by omega) | exact ⟨hmo.1, inR_of (by omega) (by omega)⟩ | omega)))))) (fun hc18 => ?_) (fun hc18 => ?_)
    ·(try simp only [blS] at hc18)
     simp only [e0, hwr] at hc18
     refine zR hG [] [] (.tup [(true, [.d (.i 0), .d (.i 0)]), (false, [.d (.b false)])]) [] (by kernel_rfl) conj0 ?_ ?_
     ·obtain ⟨g1, g2, g3⟩ := j_end hk0 hk6 hq hq1 hq2 (by omega) hsg
      obtain ⟨rfl, rfl, rfl⟩ := j_no hj hk0 hk6 g2 g1 (g3 hc18)
      rfl
     ·rfl
    ·(try simp only [blS] at hc18)
     simp only [e0, hwr] at hc18
     have hww := hws (by omega)
     refine zC hG [(16, 3, .elem [.i (tensL.getD (0 + (k : Int).toNat * 1) 0)]), (17, 1, .call (.c (.d (.b (decide ((-1000000000000000 : Int) ≤ (((w + (Int.tdiv p 1000000)) * (tensL.getD (0 + (k : Int).toNat * 1) 0)) + q)) && decide ((((w + (Int.tdiv p 1000000)) * (tensL.getD (0 + (k : Int).toNat * 1) 0)) + q) ≤ (1000000000000000 : Int)))))) [] [])] [1, 0, 1, 1, 1, 1, 1, 1, 1, 1, 1, 1] (!(decide ((-1000000000000000 : Int) ≤ (((w + (Int.tdiv p 1000000)) * (tensL.getD (0 + (k : Int).toNat * 1) 0)) + q)) && decide ((((w + (Int.tdiv p 1000000)) * (tensL.getD (0 + (k : Int).toNat * 1) 0)) + q) ≤ (1000000000000000 : Int)))) (⟨[(4, [], .c (.bx 100 0)), (5, [], .c (.d (.b false))), (6, [], .c (.d (.i k))), (8, [], .c (.d (.i (((w + (Int.tdiv p 1000000)) * (tensL.getD (0 + (k : Int).toNat * 1) 0)) + q))))], [(100, .box 38 [.d (.i 0), .d (.i 0)])]⟩) (by kernel_rfl) (conjC (show (0 : Int) ≤ k ∧ k < ((7 : Nat) : Int) from (by intros; first | omega | decide | exact inR_of (by omega) (by omega) | exact ⟨by omega, inR_of (by omega) (by omega)⟩ | exact ⟨by omega, by show _ < ((7 : Nat) : Int); omega⟩ | (simp only [e0]; first | exact inR_of (by omega) (by omega) | exact ⟨hmo.1, inR_of (by omega) (by omega)⟩ | omega))) (conjC (show (tensL.map (Value.int .i64) : List Value)[0 + (k : Int).toNat * 1]? = some (.int .i64 (tensL.getD (0 + (k : Int).toNat * 1) 0)) from (by intros; exact map_nat 0 (by show _ < 7; omega))) (conjC (show inR ((w + (Int.tdiv p 1000000)) * (tensL.getD (0 + (k : Int).toNat * 1) 0)) from (by intros; first | omega | decide | exact inR_of (by omega) (by omega) | exact ⟨by omega, inR_of (by omega) (by omega)⟩ | exact ⟨by omega, by show _ < ((7 : Nat) : Int); omega⟩ | (simp only [e0]; first | exact inR_of (by omega) (by omega) | exact ⟨hmo.1, inR_of (by omega) (by omega)⟩ | omega))) (conjC (show inR (((w + (Int.tdiv p 1000000)) * (tensL.getD (0 + (k : Int).toNat * 1) 0)) + q) from (by intros; first | omega | decide | exact inR_of (by omega) (by omega) | exact ⟨by omega, inR_of (by omega) (by omega)⟩ | exact ⟨by omega, by show _ < ((7 : Nat) : Int); omega⟩ | (simp only [e0]; first | exact inR_of (by omega) (by omega) | exact ⟨hmo.1, inR_of (by omega) (by omega)⟩ | omega))) (conj1 ((within_any (((w + (Int.tdiv p 1000000)) * (tensL.getD (0 + (k : Int).toNat * 1) 0)) + q) : SpG (gT m) _ _ _ _ _))))))) (fun hc19 => ?_) (fun hc19 => ?_)
     ·(try simp only [blS] at hc19)
      simp only [e0] at hc19
      refine zR hG [] [] (.tup [(true, [.d (.i 0), .d (.i 0)]), (false, [.d (.b false)])]) [] (by kernel_rfl) conj0 ?_ ?_
      ·obtain ⟨g1, g2, g3⟩ := j_end hk0 hk6 hq hq1 hq2 (by omega) hsg
       obtain ⟨rfl, rfl, rfl⟩ := j_no hj hk0 hk6 g2 g1 (by omega)
       rfl
      ·rfl
     ·(try simp only [blS] at hc19)
      simp only [e0] at hc19
      refine zR hG [] [] (.tup [(true, [.d (.i (((w + (Int.tdiv p 1000000)) * (tensL.getD (0 + (k : Int).toNat * 1) 0)) + q)), .d (.i k)]), (false, [.d (.b true)])]) [] (by kernel_rfl) conj0 ?_ ?_
      ·obtain ⟨g1, g2, g3⟩ := j_end hk0 hk6 hq hq1 hq2 (by omega) hsg
       simp only [e0]
       obtain ⟨rfl, rfl, rfl⟩ := j_yes hj (decB_of hk0 hk6 g2 (by omega) (by omega)) g1
       rfl
      ·rfl
theorem decAdd_ok (a b c d rn rs : Int) (rb : Bool) (h1 : decB a b = true) (h2 : decB c d = true) (h : isJ (decV a b + decV c d) rn rs rb) :
  SpG (gT m) 204 [.agg [.d (.i a), .d (.i b)], .agg [.d (.i c), .d (.i d)]] [] (.tup [(true, [.d (.i rn), .d (.i rs)]), (false, [.d (.b rb)])]) [] := by
 have s1 := sp_small h1
 have s2 := sp_small h2
 refine enterB 29 Tryz.func204 (by kernel_rfl) fun fr hG => ?_
 exact zr hG [(1, 1, .call (.tup [(false, [.d (.i (spW a b))]), (false, [.d (.i (spP a b))])]) [] []), (2, 1, .call (.tup [(false, [.d (.i (spW c d))]), (false, [.d (.i (spP c d))])]) [] []), (3, 6, .call (.tup [(true, [.d (.i rn), .d (.i rs)]), (false, [.d (.b rb)])]) [] [])] [] (by kernel_rfl) (conjC ((split_ok a b (by assumption) : SpG (gT m) _ _ _ _ _)) (conjC ((split_ok c d (by assumption) : SpG (gT m) _ _ _ _ _)) (conjC (show inR ((spW a b) + (spW c d)) from (by intros; first | omega | decide | exact inR_of (by omega) (by omega))) (conjC (show inR ((spP a b) + (spP c d)) from (by intros; first | omega | decide | exact inR_of (by omega) (by omega))) (conj1 ((decJoin_ok ((spW a b) + (spW c d)) ((spP a b) + (spP c d)) rn rs rb (by omega) (by omega) (by rw [show 1000000 * ((spW a b) + (spW c d)) + ((spP a b) + (spP c d)) = decV a b + decV c d by omega]; exact h) : SpG (gT m) _ _ _ _ _)))))))
end Go.Proofs.YtdejnaokkdndeaaGreatDoor
namespace Go.Proofs.YtdejnaokkdndeaaGreatDoor
open Go.RowKit Go.V
open Go.Eng (inR byteAt u8 bytesV)
variable {m : Int}
end Go.Proofs.YtdejnaokkdndeaaGreatDoor
namespace Go.V
open Go.RowKit
def RecDoes (P : Program) (fr : Fr) (n : Nat) (ops : Array Oper) (i : Nat) (r : Rec) (envi : Env) (owni : Own) : Prop :=
 ∀ (env : Env) (own : Own) (a : Act) (w : World) (pl : Pl), Ok fr n env own a w pl → (∀ u ∈ r.uses, env u = envi u) → (∀ j ∈ r.touch, own j = owni j) →
  (∀ t, r.dst = some t → ∀ u q sv, env u = some (q, sv) → u ≠ t → ∀ x ∈ q, x.1 ≠ t) → ∀ K : Act → World → Prop, (∀ a' w' pl', Ok fr n (putR env r) (updL own r.upd) a' w' pl' → K a' w') → wpOpX P ops i K a w
structure RecsOk (P : Program) (fr : Fr) (n : Nat) (ops : Array Oper) (rs : List Rec) (env : Env) (own : Own) (env' : Env) (own' : Own) : Prop where
 len : rs.length = ops.size
 envE : env' = envD rs (fun _ => true) 0 env
 ownE : own' = ownD rs (fun _ => true) 0 own
 each : ∀ (i : Nat) (r : Rec), rs[i]? = some r → ∃ envi owni, RecDoes P fr n ops i r envi owni ∧ envi = envD rs (fun j => decide (j < i)) 0 env ∧ owni = ownD rs (fun j => decide (j < i)) 0 own
 keysT : ∀ (i : Nat) (r : Rec), rs[i]? = some r → ∀ x ∈ keys r.upd, x ∈ r.touch
 sub : ∀ (i : Nat) (r : Rec), rs[i]? = some r → ∀ x, x ∈ slots r → x ∈ r.uses
def okB : Nat → List Rec → List Nat → Bool
 | _, [], _ => true
 | i, a :: r, _ :: ms => okA1 a i r ms && okB (i + 1) r ms
 | _, _ :: _, [] => false
theorem okB_get : ∀ {l : List Rec} {ms : List Nat} {k i j : Nat} {a b : Rec}, okB k l ms = true → l[i]? = some a → l[j]? = some b → i < j → ∃ m, ms[j]? = some m ∧ (m.testBit (k + i) = true ∨ indep a b = true)
 | [], ms, k, i, j, a, b, _, h, _, _ => by simp at h
 | x :: r, [], k, i, j, a, b, h, _, _, _ => by simp [okB] at h
 | x :: r, m :: ms, k, 0, j, a, b, h, hi, hj, hlt => by
  simp only [okB, Bool.and_eq_true] at h
  obtain ⟨j, rfl⟩ : ∃ j', j = j' + 1 := ⟨j - 1, by omega⟩
  simp only [List.getElem?_cons_zero, Option.some.injEq] at hi
  subst hi
  simpa using okA1_get h.1 (by simpa using hj)
 | x :: r, m :: ms, k, i + 1, j, a, b, h, hi, hj, hlt => by
  simp only [okB, Bool.and_eq_true] at h
  obtain ⟨j, rfl⟩ : ∃ j', j = j' + 1 := ⟨j - 1, by omega⟩
  obtain ⟨m', h1, h2⟩ := okB_get h.2 (by simpa using hi) (by simpa using hj) (by omega)
  exact ⟨m', by simpa using h1, by rw [show k + (i + 1) = k + 1 + i by omega]; exact h2⟩
theorem envD_none : ∀ (rs : List Rec) (D : Nat → Bool) (_ : ∀ j, D j = false) (k : Nat) (e : Env), envD rs D k e = e
 | [], _, _, _, _ => rfl
 | y :: ys, D, h, k, e => by simp only [envD, h k, Bool.false_eq_true, if_false]; exact envD_none ys D h (k + 1) e
theorem ownD_none : ∀ (rs : List Rec) (D : Nat → Bool) (_ : ∀ j, D j = false) (k : Nat) (e : Own), ownD rs D k e = e
 | [], _, _, _, _ => rfl
 | y :: ys, D, h, k, e => by simp only [ownD, h k, Bool.false_eq_true, if_false]; exact ownD_none ys D h (k + 1) e
section
variable {P : Program} {fr : Fr} {n : Nat} {ops : Array Oper}
theorem recs_dstX {env env' : Env} {own own' : Own} {rs : List Rec} (h : RecsOk P fr n ops rs env own env' own') {i : Nat} (hi : i < ops.size) : ∃ r, rs[i]? = some r := ⟨rs[i]'(by rw [h.len]; exact hi), List.getElem?_eq_getElem _⟩
theorem stepX {env env' : Env} {own own' own0 : Own} {rs : List Rec} (h : RecsOk P fr n ops rs env own env' own') (hag : ∀ (i : Nat) (r : Rec), rs[i]? = some r → ∀ x ∈ r.touch, own0 x = own x) (henv : ∀ u q sv, env u = some (q, sv) → q = [])
  {D : Nat → Bool} {i : Nat} {r : Rec} (hr : rs[i]? = some r) (hDi : D i = false)
  (hlow : ∀ j b, j < i → rs[j]? = some b → (b.dst.any (fun t => r.uses.contains t) || (keys b.upd).any (fun x => r.touch.contains x)) = true → D j = true)
  (hhigh : ∀ j b, i < j → rs[j]? = some b → (b.dst.any (fun t => r.uses.contains t || r.dst == some t) || (keys b.upd).any (fun x => r.touch.contains x || (keys r.upd).contains x) || r.dst.any (fun t => (slots b).contains t)) = true → D j = false)
  (hpath : ∀ j b, j < i → rs[j]? = some b → r.dst.any (fun t => (slots b).contains t) = false)
  {a : Act} {w : World} {pl : Pl} (hok : Ok fr n (envD rs D 0 env) (ownD rs D 0 own0) a w pl) {K : Act → World → Prop}
  (hK : ∀ a' w' pl', Ok fr n (envD rs (mark1 D i) 0 env) (ownD rs (mark1 D i) 0 own0) a' w' pl' → K a' w') : wpOpX P ops i K a w := by
 obtain ⟨h1, h2, h3, h4, _⟩ := h
 obtain ⟨envi, owni, hrec, he, hw⟩ := h4 i r hr
 have hDu : ∀ u ∈ r.uses, ∀ j b, rs[j]? = some b → b.dst = some u → D (0 + j) = decide (0 + j < i) := by
  intro u hu j b hj hb
  rw [Nat.zero_add]
  rcases Nat.lt_trichotomy j i with hlt | rfl | hgt
  ·rw [decide_eq_true hlt]
   exact hlow j b hlt hj (by simp [hb, hu])
  ·rw [hDi, decide_eq_false (by omega)]
  ·rw [decide_eq_false (by omega)]
   exact hhigh j b hgt hj (by simp [hb, hu])
 refine hrec _ _ a w pl hok (fun u hu => ?_) (fun x hx => ?_) (fun t ht u q sv hq hne x hx hxt => ?_) K (fun a' w' pl' hok' => hK a' w' pl' ?_)
 ·rw [he]
  exact envD_congr rs _ _ 0 _ _ u rfl (hDu u hu)
 ·rw [hw]
  refine ownD_congr rs _ _ 0 _ _ x (hag i r hr x hx) (fun j b hj hb => ?_)
  rw [Nat.zero_add]
  rcases Nat.lt_trichotomy j i with hlt | rfl | hgt
  ·rw [decide_eq_true hlt]
   exact hlow j b hlt hj (by simp only [Bool.or_eq_true, List.any_eq_true]; exact .inr ⟨x, hb, by simpa using hx⟩)
  ·rw [hDi, decide_eq_false (by omega)]
  ·rw [decide_eq_false (by omega)]
   exact hhigh j b hgt hj (by simp only [Bool.or_eq_true, List.any_eq_true]; exact .inl (.inr ⟨x, hb, .inl (by simpa using hx)⟩))
 ·rcases envD_from rs D 0 _ u q sv hq with h5 | ⟨j, b, h5, h6, h7, rfl⟩
  ·rw [henv u q sv h5] at hx; cases hx
  ·rw [Nat.zero_add] at h6
   have hsl : (slots b).contains t = true := by
    simp only [slots, List.contains_iff_mem, List.mem_map]
    exact ⟨x, hx, hxt⟩
   rcases Nat.lt_trichotomy j i with hlt | rfl | hgt
   ·have := hpath j b hlt h5
    rw [ht] at this
    simp only [Option.any_some, hsl] at this
    cases this
   ·rw [hDi] at h6; cases h6
   ·have := hhigh j b hgt h5 (by rw [ht]; simp only [Option.any_some, hsl, Bool.or_true])
    rw [this] at h6; cases h6
 ·
  have e1 : putR (envD rs D 0 env) r = envD rs (mark1 D i) 0 env := by
   funext u
   by_cases hu : r.dst = some u
   ·rw [envD_last rs (mark1 D i) 0 _ u i r hr hu (by simp [mark1]) (fun j b hj hb hbu => by
     rw [Nat.zero_add]
     simp only [mark1, if_neg (show j ≠ i by omega)]
     exact hhigh j b hj hb (by simp [hbu, hu]))]
    simp only [putR, hu]
    exact upd_same _ _ _
   ·have hp : putR (envD rs D 0 env) r u = envD rs D 0 env u := by
     unfold putR
     cases hd' : r.dst with
     | none => rfl
     | some t => exact upd_ne _ _ (fun e => hu (by rw [hd', e]))
    rw [hp]
    refine envD_congr rs _ _ 0 _ _ u rfl (fun j b hj hb => ?_)
    rw [Nat.zero_add]
    have : j ≠ i := fun e => by subst e; rw [hr] at hj; injection hj with hj; rw [hj] at hu; exact hu hb
    simp [mark1, this]
  have e2 : updL (ownD rs D 0 own0) r.upd = ownD rs (mark1 D i) 0 own0 := by
   funext x
   by_cases hu : x ∈ keys r.upd
   ·exact (ownD_last rs (mark1 D i) 0 _ _ x i r hr hu (by simp [mark1]) (fun j b hj hb hbu => by
     rw [Nat.zero_add]
     simp only [mark1, if_neg (show j ≠ i by omega)]
     exact hhigh j b hj hb (by simp only [Bool.or_eq_true, List.any_eq_true]; exact .inl (.inr ⟨x, hbu, .inr (by simpa using hu)⟩)))).symm
   ·rw [updL_notin _ _ x hu]
    refine ownD_congr rs _ _ 0 _ _ x rfl (fun j b hj hb => ?_)
    rw [Nat.zero_add]
    have : j ≠ i := fun e => by subst e; rw [hr] at hj; injection hj with hj; rw [hj] at hu; exact hu hb
    simp [mark1, this]
  rw [← e1, ← e2]
  exact hok'
theorem textX {K : Act → World → Prop} {env env' : Env} {own own' own0 : Own} {rs : List Rec} (h : RecsOk P fr n ops rs env own env' own') (hag : ∀ (i : Nat) (r : Rec), rs[i]? = some r → ∀ x ∈ r.touch, own0 x = own x) (henv : ∀ u q sv, env u = some (q, sv) → q = []) (hT : okT rs = true)
  (hQ : ∀ a w pl, Ok fr n (env') ((ownD rs (fun _ => true) 0 own0)) a w pl → K a w) : ∀ (m i : Nat), i + m = ops.size → ∀ a w pl, Ok fr n (envD rs (fun j => decide (j < i)) 0 env) (ownD rs (fun j => decide (j < i)) 0 own0) a w pl → wpOpsX P ops K (List.range' i m) a w := by
 intro m
 obtain ⟨h1, h2, h3, h4, _⟩ := id h
 induction m with
 | zero =>
  intro i hi a w pl hok
  simp only [List.range'_zero, wpOpsX]
  refine hQ a w pl ?_
  have hlt : ∀ j r, rs[j]? = some r → (0 + j) < i := by
   intro j r hj
   have := (List.getElem?_eq_some_iff.1 hj).1
   omega
  have e1 : envD rs (fun j => decide (j < i)) 0 env = env' := by
   rw [h2]
   funext u
   exact envD_congr rs _ _ 0 _ _ u rfl (fun j r hj _ => decide_eq_true (hlt j r hj))
  have e2 : ownD rs (fun j => decide (j < i)) 0 own0 = (ownD rs (fun _ => true) 0 own0) := by
   funext u
   exact ownD_congr rs _ _ 0 _ _ u rfl (fun j r hj _ => decide_eq_true (hlt j r hj))
  rw [← e1, ← e2]
  exact hok
 | succ m ih =>
  intro i hi a w pl hok
  rw [List.range'_succ, wpOpsX]
  obtain ⟨r, hr⟩ := recs_dstX h (i := i) (by omega)
  refine stepX h hag henv hr (D := fun j => decide (j < i)) (by simp) (fun j b hj _ _ => by simpa using hj) (fun j b hj _ _ => by simp; omega) (fun j b hj hb => ?_) hok (fun a' w' pl' hok' => ?_)
  ·have := okT_get hT hb hr hj
   unfold okPair at this
   cases hd : r.dst with
   | none => rfl
   | some t =>
    rw [hd] at this
    simp only [Option.any_some]
    simpa using this
  ·have e : mark1 (fun j => decide (j < i)) i = fun j => decide (j < i + 1) := by
    funext j
    by_cases hj : j = i
    ·subst hj; simp [mark1]
    ·simp only [mark1, if_neg hj]
     congr 1
     simp only [eq_iff_iff]
     omega
   rw [e] at hok'
   exact ih (i + 1) (by omega) a' w' pl' hok'
theorem anyX {K : Act → World → Prop} {env env' : Env} {own own' own0 : Own} {rs : List Rec} (h : RecsOk P fr n ops rs env own env' own') (hag : ∀ (i : Nat) (r : Rec), rs[i]? = some r → ∀ x ∈ r.touch, own0 x = own x) (henv : ∀ u q sv, env u = some (q, sv) → q = []) (hT : okT rs = true) (hA : okB 0 rs (bef ops) = true) (hE : edgesOk 0 ops.toList = true)
  (hQ : ∀ a w pl, Ok fr n (env') ((ownD rs (fun _ => true) 0 own0)) a w pl → K a w) : ∀ (fuel : Nat) (listed : Array Bool), listed.size = ops.size → (List.range ops.size).countP (fun i => !listed.getD i false) ≤ fuel →
   (∀ i o, ops[i]? = some o → listed.getD i false = true → ∀ e ∈ o.after, Region.binds .any e = true → listed.getD e.on false = true) →
   ∀ a w pl, Ok fr n (envD rs (fun j => listed.getD j false) 0 env) (ownD rs (fun j => listed.getD j false) 0 own0) a w pl → wpAnyX P .any ops K fuel listed a w := by
 obtain ⟨h1, h2, h3, h4, hkt, hsl⟩ := id h
 have hlen : rs.length = ops.size := h1
 have fin : ∀ (listed : Array Bool), (∀ i, i < ops.size → listed.getD i false = true) → ∀ a w pl, Ok fr n (envD rs (fun j => listed.getD j false) 0 env) (ownD rs (fun j => listed.getD j false) 0 own0) a w pl → K a w := by
  intro listed hall a w pl hok
  refine hQ a w pl ?_
  have hlt : ∀ j r, rs[j]? = some r → listed.getD (0 + j) false = true := by
   intro j r hj
   have := (List.getElem?_eq_some_iff.1 hj).1
   rw [Nat.zero_add]
   exact hall j (by omega)
  have e1 : envD rs (fun j => listed.getD j false) 0 env = env' := by
   rw [h2]
   funext u
   exact envD_congr rs _ _ 0 _ _ u rfl (fun j r hj _ => hlt j r hj)
  have e2 : ownD rs (fun j => listed.getD j false) 0 own0 = (ownD rs (fun _ => true) 0 own0) := by
   funext u
   exact ownD_congr rs _ _ 0 _ _ u rfl (fun j r hj _ => hlt j r hj)
  rw [← e1, ← e2]
  exact hok
 have rdy : ∀ (listed : Array Bool), listed.size = ops.size → Region.ready .any ops listed = [] → ∀ i, i < ops.size → listed.getD i false = true := by
  intro listed hsz hr i
  induction i using Nat.strongRecOn with
  | _ i ih =>
   intro hi
   cases hb : listed.getD i false with
   | true => rfl
   | false =>
    exfalso
    have hmem : i ∈ Region.ready .any ops listed := by
     rw [mem_ready]
     refine ⟨?_, ops[i], Array.getElem?_eq_getElem hi, fun e he hbd => ?_⟩
     ·have : i < listed.size := by omega
      simp only [Array.getD, this, dif_pos] at hb ⊢
      exact hb
     ·have := edgesOk_get hE (i := i) (o := ops[i]) (by simp [hi]) e he hbd
      exact ih e.on (by omega) (by omega)
    rw [hr] at hmem
    cases hmem
 intro fuel
 induction fuel with
 | zero =>
  intro listed hsz hcnt hcl a w pl hok
  have hall : ∀ i, i < ops.size → listed.getD i false = true := by
   intro i hi
   have h0 : (List.range ops.size).countP (fun i => !listed.getD i false) = 0 := by omega
   rw [List.countP_eq_zero] at h0
   have := h0 i (List.mem_range.2 hi)
   simpa using this
  refine ⟨?_, fin listed hall a w pl hok⟩
  rw [List.eq_nil_iff_forall_not_mem]
  intro i hi
  obtain ⟨h5, o, ho, _⟩ := mem_ready.1 hi
  have hlt := (Array.getElem?_eq_some_iff.1 ho).1
  have h6 := hall i hlt
  have : i < listed.size := by omega
  simp only [Array.getD, this, dif_pos] at h5 h6
  rw [h5] at h6
  cases h6
 | succ fuel ih =>
  intro listed hsz hcnt hcl a w pl hok
  refine ⟨fun hr => fin listed (rdy listed hsz hr) a w pl hok, fun i hi => ?_⟩
  obtain ⟨h5, o, ho, hedge⟩ := mem_ready.1 hi
  have hlt := (Array.getElem?_eq_some_iff.1 ho).1
  have hltl : i < listed.size := by omega
  have hDi : listed.getD i false = false := by
   simp only [Array.getD, hltl, dif_pos] at h5 ⊢
   exact h5
  obtain ⟨r, hr⟩ := recs_dstX h hlt
  have hmarked : (fun j => (listed.setIfInBounds i true).getD j false) = mark1 (fun j => listed.getD j false) i := by
   funext j
   by_cases hj : j = i
   ·subst hj; simp [mark1, hltl]
   ·simp only [mark1, if_neg hj]; exact getD_set_ne false (Ne.symm hj)
  have hbef : ∀ b, (bef ops)[i]? = some b → ∀ j, b.testBit j = true → listed.getD j false = true :=
   fun b hb => bef_closed (D := fun j => listed.getD j false) hcl i o b ho hb hedge
  have haft : ∀ j m, (bef ops)[j]? = some m → m.testBit i = true → listed.getD j false = false := by
   intro j m hm hbit
   cases hb : listed.getD j false with
   | false => rfl
   | true =>
    exfalso
    have hjl : j < ops.size := by
     rcases Nat.lt_or_ge j listed.size with h' | h'
     ·omega
     ·simp [Array.getD, Nat.not_lt.2 h'] at hb
    have := bef_closed (D := fun j => listed.getD j false) hcl j ops[j] m (Array.getElem?_eq_getElem hjl) hm (hcl j _ (Array.getElem?_eq_getElem hjl) hb) i hbit
    rw [hDi] at this
    cases this
  refine stepX h hag henv hr (D := fun j => listed.getD j false) hDi (fun j b hj hb hd => ?_) (fun j b hj hb hd => ?_) (fun j b hj hb => ?_) hok (fun a' w' pl' hok' => ?_)
  ·obtain ⟨m, hm, hor⟩ := okB_get hA hb hr hj
   rw [Nat.zero_add] at hor
   rcases hor with hbit | hind
   ·exact hbef m hm j hbit
   ·exfalso
    simp only [indep, Bool.and_eq_true] at hind
    obtain ⟨⟨⟨hi1, hi2⟩, hi3⟩, hi4⟩ := hind
    simp only [Bool.or_eq_true] at hd
    rcases hd with hd | hd
    ·cases hbd : b.dst with
     | none => rw [hbd] at hd; cases hd
     | some t =>
      rw [hbd] at hd hi1
      simp only [Option.any_some] at hd
      simp at hi1
      exact hi1.1 (by simpa using hd)
    ·obtain ⟨x, hx, hxt⟩ := List.any_eq_true.1 hd
     have := List.all_eq_true.1 hi3 x hx
     rw [hxt] at this
     cases this
  ·obtain ⟨m, hm, hor⟩ := okB_get hA hr hb hj
   rw [Nat.zero_add] at hor
   rcases hor with hbit | hind
   ·exact haft j m hm hbit
   ·exfalso
    simp only [indep, Bool.and_eq_true] at hind
    obtain ⟨⟨⟨hi1, hi2⟩, hi3⟩, hi4⟩ := hind
    simp only [Bool.or_eq_true] at hd
    rcases hd with (hd | hd) | hd
    ·cases hbd : b.dst with
     | none => rw [hbd] at hd; cases hd
     | some t =>
      rw [hbd] at hd hi2
      simp only [Option.any_some, Bool.or_eq_true] at hd
      rcases hd with hd | hd
      ·simp only [hd] at hi2; cases hi2
      ·simp only [beq_iff_eq] at hd
       rw [hd, hbd] at hi1
       simp at hi1
    ·obtain ⟨x, hx, hxt⟩ := List.any_eq_true.1 hd
     have h7 := List.all_eq_true.1 hi4 x hx
     simp only [Bool.or_eq_true] at hxt
     rcases hxt with hxt | hxt
     ·rw [hxt] at h7; cases h7
     ·have h8 : x ∈ keys r.upd := by simpa using hxt
      have h9 := hkt i r hr x h8
      have : r.touch.contains x = true := by simpa using h9
      rw [this] at h7
      cases h7
    ·cases hrd : r.dst with
     | none => rw [hrd] at hd; cases hd
     | some t =>
      rw [hrd] at hd hi1
      simp only [Option.any_some] at hd
      simp only [Bool.and_eq_true] at hi1
      have hsub : ∀ x, x ∈ slots b → x ∈ b.uses := hsl j b hb
      have := hsub t (by simpa using hd)
      have h7 : b.uses.contains t = true := by simpa using this
      rw [h7] at hi1
      cases hi1.1
  ·have := okT_get hT hb hr hj
   unfold okPair at this
   cases hd : r.dst with
   | none => rfl
   | some t =>
    rw [hd] at this
    simp only [Option.any_some]
    simpa using this
  ·refine ih _ (by simp [hsz]) ?_ ?_ a' w' pl' ?_
   ·have hsplit : (List.range ops.size).countP (fun j => !(listed.setIfInBounds i true).getD j false) + 1 = (List.range ops.size).countP (fun j => !listed.getD j false) := by
     have hm : ∀ (l : List Nat), l.Nodup → i ∈ l → l.countP (fun j => !(listed.setIfInBounds i true).getD j false) + 1 = l.countP (fun j => !listed.getD j false) := by
      intro l
      induction l with
      | nil => intro _ h; cases h
      | cons x r ihl =>
       intro hn hi
       rw [List.nodup_cons] at hn
       by_cases hx : x = i
       ·subst hx
        have hsame : r.countP (fun j => !(listed.setIfInBounds x true).getD j false) = r.countP (fun j => !listed.getD j false) := by
         refine List.countP_congr (fun j hj => ?_)
         have : x ≠ j := fun e => hn.1 (by rw [e]; exact hj)
         rw [getD_set_ne false this]
        have hs : (listed.setIfInBounds x true).getD x false = true := by simp [hltl]
        rw [List.countP_cons_of_neg (by simp [hs]), List.countP_cons_of_pos (by simp [hDi]), hsame]
       ·have hir : i ∈ r := (List.mem_cons.1 hi).resolve_left (fun e => hx e.symm)
        have := ihl hn.2 hir
        rw [List.countP_cons, List.countP_cons, getD_set_ne false (fun e => hx e.symm)]
        omega
     exact hm _ List.nodup_range (List.mem_range.2 hlt)
    omega
   ·intro j o' hj hdone e he hbd
    by_cases hji : j = i
    ·subst hji
     rw [ho] at hj
     injection hj with hj
     subst hj
     exact getD_set_true (hedge e he hbd)
    ·rw [getD_set_ne false (Ne.symm hji)] at hdone
     exact getD_set_true (hcl j o' hj hdone e he hbd)
   ·rw [hmarked]; exact hok'
theorem regionOps_X {env env' : Env} {own own' own0 : Own} {rs : List Rec} (h : RecsOk P fr n ops rs env own env' own') (hag : ∀ (i : Nat) (r : Rec), rs[i]? = some r → ∀ x ∈ r.touch, own0 x = own x) (henv : ∀ u q sv, env u = some (q, sv) → q = [])
  (hT : okT rs = true) {K : Act → World → Prop} {a : Act} {w : World} {pl : Pl} (hok : Ok fr n env own0 a w pl)
  (hQ : ∀ a w pl, Ok fr n env' (ownD rs (fun _ => true) 0 own0) a w pl → K a w) : wpOpsX P ops K (List.range ops.size) a w := by
 have h0 : ∀ e : Env, envD rs (fun j => decide (j < 0)) 0 e = e := fun e => envD_none rs _ (fun j => by simp) 0 e
 have h0' : ∀ e : Own, ownD rs (fun j => decide (j < 0)) 0 e = e := fun e => ownD_none rs _ (fun j => by simp) 0 e
 rw [List.range_eq_range']
 exact textX h hag henv hT hQ ops.size 0 (by omega) a w pl (by rw [h0, h0']; exact hok)
theorem region_X {R : Wp P} {id : Nat} {draw : Bool} (hm : P.follows .mixedOrders = true) {env env' : Env} {own own' own0 : Own} {rs : List Rec} (h : RecsOk P fr n ops rs env own env' own') (hag : ∀ (i : Nat) (r : Rec), rs[i]? = some r → ∀ x ∈ r.touch, own0 x = own x) (henv : ∀ u q sv, env u = some (q, sv) → q = [])
  (hT : okT rs = true) (hA : draw = true → okB 0 rs (bef ops) = true ∧ edgesOk 0 ops.toList = true) (hnd : noDefer ops = true) {Q : Exit → Act → World → Prop} {a : Act} {w : World} {pl : Pl} (hok : Ok fr n env own0 a w pl)
  (hQ : ∀ a w pl, Ok fr n env' (ownD rs (fun _ => true) 0 own0) a w pl → Q .normal a w) : R.wp (Code.region id ops draw) Q a w := by
 have h0 : ∀ e : Env, envD rs (fun j => decide (j < 0)) 0 e = e := fun e => envD_none rs _ (fun j => by simp) 0 e
 have h0' : ∀ e : Own, ownD rs (fun j => decide (j < 0)) 0 e = e := fun e => ownD_none rs _ (fun j => by simp) 0 e
 cases draw with
 | false =>
  refine R.region hnd ?_
  rw [List.range_eq_range']
  exact textX h hag henv hT hQ ops.size 0 (by omega) a w pl (by rw [h0, h0']; exact hok)
 | true =>
  obtain ⟨hA, hE⟩ := hA rfl
  refine R.any hm hnd ?_
  have hz : ∀ j, (Array.replicate ops.size false).getD j false = false := by
   intro j
   simp only [Array.getD_eq_getD_getElem?, Array.getElem?_replicate]
   split <;> rfl
  have hg : w.grownBy { w with drawn := w.drawn + 1 } none := ⟨rfl, rfl, rfl, Nat.le_refl _, fun _ _ _ => rfl⟩
  obtain ⟨m', L⟩ := hok.mem.ext hg
  refine anyX h hag henv hT hA hE hQ ops.size _ (by simp) ?_ (fun i o _ hd => by rw [hz] at hd; cases hd) a _ pl ?_
  ·exact Nat.le_trans List.countP_le_length (by simp)
  ·rw [envD_none rs _ hz 0, ownD_none rs _ hz 0]
   exact hok.later m' L
end
end Go.V
namespace Go.V
open Go.RowKit
inductive Tr (α : Type) where
 | e
 | n (v : Option α) (l r : Tr α)
def Tr.get {α : Type} : Tr α → Nat → Option α
 | .e, _ => none
 | .n v l r, i => bif Nat.beq i 0 then v else bif Nat.beq (i % 2) 1 then l.get (i / 2) else r.get (i / 2 - 1)
def Tr.put {α : Type} (x : Option α) : Nat → Tr α → Nat → Tr α
 | 0, t, _ => t
 | f + 1, .e, i => bif Nat.beq i 0 then .n x .e .e else bif Nat.beq (i % 2) 1 then .n none (Tr.put x f .e (i / 2)) .e else .n none .e (Tr.put x f .e (i / 2 - 1))
 | f + 1, .n v l r, i => bif Nat.beq i 0 then .n x l r else bif Nat.beq (i % 2) 1 then .n v (Tr.put x f l (i / 2)) r else .n v l (Tr.put x f r (i / 2 - 1))
theorem beq_t {i j : Nat} : (Nat.beq i j = true) = (i = j) := by simp [Nat.beq_eq]
theorem cond_nat {α : Type} {i j : Nat} {x y : α} : (bif Nat.beq i j then x else y) = if i = j then x else y := by
 by_cases h : i = j
 ·subst h; simp [Nat.beq_refl]
 ·have : Nat.beq i j = false := by
   cases hb : Nat.beq i j with
   | false => rfl
   | true => exact absurd (Nat.eq_of_beq_eq_true hb) h
  rw [this, if_neg h]; rfl
theorem Tr.get_put {α : Type} (x : Option α) : ∀ (f : Nat) (t : Tr α) (i j : Nat), i + 1 < 2 ^ f → (Tr.put x f t i).get j = if j = i then x else t.get j
 | 0, t, i, j, h => by simp at h
 | f + 1, t, i, j, h => by
  have h2 : 2 ^ (f + 1) = 2 * 2 ^ f := by rw [Nat.pow_succ]; omega
  cases t with
  | e =>
   simp only [Tr.put, cond_nat]
   split
   ·rename_i hi
    subst hi
    simp only [Tr.get, cond_nat]
    split
    ·rename_i hj; simp [hj]
    ·rename_i hj; simp [hj, Tr.get]
   ·rename_i hi
    split
    ·rename_i ho
     simp only [Tr.get, cond_nat]
     by_cases hj : j = 0
     ·simp only [hj, if_true]; rw [if_neg (by omega)]
     ·rw [if_neg hj]
      by_cases hjo : j % 2 = 1
      ·rw [if_pos hjo, Tr.get_put x f .e (i / 2) (j / 2) (by omega)]
       by_cases hji : j = i
       ·simp [hji]
       ·rw [if_neg (show ¬ j / 2 = i / 2 by omega), if_neg hji]; simp [Tr.get]
      ·rw [if_neg hjo, if_neg (by omega)]
    ·rename_i ho
     simp only [Tr.get, cond_nat]
     by_cases hj : j = 0
     ·simp only [hj, if_true]; rw [if_neg (by omega)]
     ·rw [if_neg hj]
      by_cases hjo : j % 2 = 1
      ·rw [if_pos hjo, if_neg (by omega)]
      ·rw [if_neg hjo, Tr.get_put x f .e (i / 2 - 1) (j / 2 - 1) (by omega)]
       by_cases hji : j = i
       ·simp [hji]
       ·rw [if_neg (show ¬ j / 2 - 1 = i / 2 - 1 by omega), if_neg hji]; simp [Tr.get]
  | n v l r =>
   simp only [Tr.put, cond_nat]
   split
   ·rename_i hi
    subst hi
    simp only [Tr.get, cond_nat]
    split
    ·rename_i hj; simp [hj]
    ·rename_i hj; simp [hj]
   ·rename_i hi
    split
    ·rename_i ho
     simp only [Tr.get, cond_nat]
     by_cases hj : j = 0
     ·simp only [hj, if_true]; rw [if_neg (by omega)]
     ·rw [if_neg hj, if_neg hj]
      by_cases hjo : j % 2 = 1
      ·rw [if_pos hjo, if_pos hjo, Tr.get_put x f l (i / 2) (j / 2) (by omega)]
       by_cases hji : j = i
       ·simp [hji]
       ·rw [if_neg (show ¬ j / 2 = i / 2 by omega), if_neg hji]
      ·rw [if_neg hjo, if_neg hjo, if_neg (by omega)]
    ·rename_i ho
     simp only [Tr.get, cond_nat]
     by_cases hj : j = 0
     ·simp only [hj, if_true]; rw [if_neg (by omega)]
     ·rw [if_neg hj, if_neg hj]
      by_cases hjo : j % 2 = 1
      ·rw [if_pos hjo, if_pos hjo, if_neg (by omega)]
      ·rw [if_neg hjo, if_neg hjo, Tr.get_put x f r (i / 2 - 1) (j / 2 - 1) (by omega)]
       by_cases hji : j = i
       ·simp [hji]
       ·rw [if_neg (show ¬ j / 2 - 1 = i / 2 - 1 by omega), if_neg hji]
def few (i : Nat) : Bool := Nat.ble (i + 2) 1099511627776
theorem Tr.get_put40 {α : Type} {x : Option α} {t : Tr α} {i : Nat} (h : few i = true) (j : Nat) : (Tr.put x 40 t i).get j = if j = i then x else t.get j :=
 Tr.get_put x 40 t i j (by
  have := Nat.le_of_ble_eq_true h
  have e : (2 : Nat) ^ 40 = 1099511627776 := by decide
  omega)
def setL : Tr Ob → List (Nat × Ob) → Option (Tr Ob)
 | t, [] => some t
 | t, (i, o) :: r => if few i then setL (Tr.put (some o) 40 t i) r else none
theorem setL_get : ∀ {l : List (Nat × Ob)} {t t' : Tr Ob}, setL t l = some t' → t'.get = updL t.get l
 | [], t, t', h => by simp only [setL, Option.some.injEq] at h; subst h; rfl
 | (i, o) :: r, t, t', h => by
  simp only [setL] at h
  split at h
  ·rename_i hf
   rw [setL_get h]
   simp only [updL]
   congr 1
   funext j
   rw [Tr.get_put40 hf]
   rfl
  ·cases h
theorem updL_congr : ∀ (l : List (Nat × Ob)) {own own' : Own} {i : Nat}, own i = own' i → updL own l i = updL own' l i
 | [], _, _, _, h => h
 | (j, o) :: r, own, own', i, h => updL_congr r (by by_cases hi : i = j <;> simp [upd, hi, h])
theorem updL_append : ∀ (l m : List (Nat × Ob)) (own : Own), updL own (l ++ m) = updL (updL own l) m
 | [], _, _ => rfl
 | (j, o) :: r, m, own => updL_append r m _
def envF (loc : EnvL) (tr : Tr SV) : Env := fun t => match findE loc t with
 | some x => some x
 | none => (tr.get t).map fun s => ([], s)
def flushE : EnvL → Tr SV → Tr SV
 | [], tr => tr
 | (t, p, sv) :: r, tr => Tr.put (bif p.isEmpty then some sv else none) 40 (flushE r tr) t
theorem flushE_get : ∀ {loc : EnvL} {tr : Tr SV}, (loc.all fun e => few e.1) = true → ∀ {u : Nat} {q : Path} {sv : SV}, envF [] (flushE loc tr) u = some (q, sv) → q = [] ∧ envF loc tr u = some (q, sv)
 | [], tr, _, u, q, sv, h => by
  refine ⟨?_, h⟩
  simp only [envF, findE, flushE, Option.map_eq_some_iff, Prod.mk.injEq] at h
  obtain ⟨_, _, h, _⟩ := h
  exact h.symm
 | (t, p, s) :: r, tr, hf, u, q, sv, h => by
  simp only [List.all_cons, Bool.and_eq_true] at hf
  simp only [envF, findE, flushE] at h ⊢
  rw [Tr.get_put40 hf.1] at h
  by_cases hu : t = u
  ·subst hu
   simp only [if_true, beq_self_eq_true] at h ⊢
   cases p with
   | nil =>
    simp only [List.isEmpty_nil, cond_true, Option.map_some, Option.some.injEq, Prod.mk.injEq] at h
    obtain ⟨rfl, rfl⟩ := h
    exact ⟨rfl, rfl⟩
   | cons x y => simp at h
  ·have hne : (t == u) = false := by simpa using hu
   rw [if_neg (Ne.symm hu)] at h
   rw [hne]
   simp only [Bool.false_eq_true, if_false]
   exact flushE_get (loc := r) hf.2 (by simpa only [envF, findE] using h)
structure Ent (P : Program) (G : List (Nat × List Value)) where
 f : FuncId
 ask : Nat → List SV → List (Nat × Ob) → Option (SV × List (Nat × Ob) × List Prop)
 ok : ∀ {k : Nat} {ins : List SV} {refs post : List (Nat × Ob)} {out : SV} {cs : List Prop}, ask k ins refs = some (out, post, cs) → conj cs → Spec P G f ins refs out post
def entOf {P : Program} {G : List (Nat × List Value)} : List (Ent P G) → FuncId → Option (Ent P G)
 | [], _ => none
 | e :: r, f => bif Nat.beq e.f f then some e else entOf r f
theorem entOf_f {P : Program} {G : List (Nat × List Value)} : ∀ {T : List (Ent P G)} {f : FuncId} {e : Ent P G}, entOf T f = some e → e.f = f
 | [], f, e, h => by simp [entOf] at h
 | x :: r, f, e, h => by
  simp only [entOf, cond_nat] at h
  split at h
  ·rename_i hx; simp only [Option.some.injEq] at h; rw [← h]; exact hx
  ·exact entOf_f h
def idsC : C → List Nat
 | .bx i _ => [i]
 | .fn _ l m => (l ++ m).map (·.1)
 | .mp i => [i]
 | .yl i => [i]
 | _ => []
def idsCA : C → List Nat
 | .ar i _ => [i]
 | c => idsC c
def idsS : SV → List Nat
 | .c x => idsC x
 | .agg xs => xs.flatMap idsC
 | .tup xs => xs.flatMap fun p => p.2.flatMap idsC
def idsO : Option Ob → List Nat
 | some (.box _ cells) => cells.flatMap idsCA
 | some (.arr _ e _ _) => e.ov.flatMap fun x => idsCA x.2
 | none => []
def reach (ob : Own) : Nat → List Nat → List Nat → List Nat
 | 0, _, acc => acc
 | _ + 1, [], acc => acc
 | f + 1, i :: r, acc => if acc.contains i then reach ob f r acc else reach ob f (idsO (ob i) ++ r) (acc ++ [i])
structure OpR where
 sv : SV
 upd : List (Nat × Ob)
 touch : List Nat
 own : Tr Ob
 k : Nat
 cs : List Prop
def OpR.eff (r : OpR) : Eff := ⟨r.sv, r.upd, r.touch, []⟩
def effR (own : Tr Ob) (k : Nat) (cs : List Prop) (e : Eff) : Option OpR := match setL own e.upd with
 | some own' => some ⟨e.sv, e.upd, keys e.upd ++ e.touch, own', k, cs⟩
 | none => none
def callT {P : Program} {G : List (Nat × List Value)} (e : Ent P G) (k : Nat) (svs : List SV) (own : Tr Ob) : Option OpR :=
 match argsG own.get (reach own.get 1000 (svs.flatMap idsS) []) svs, handL own.get (reach own.get 1000 (svs.flatMap idsS) []) 0 (reach own.get 1000 (svs.flatMap idsS) []) with
 | some (ins, _), some refs => match e.ask k ins refs with
  | some (out, post, cs) => match callGS (Spec P G e.f) own.get (some svs) k out (reach own.get 1000 (svs.flatMap idsS) []) post with
   | some ef => if ef.obs.all (fun o => o.k || o.b) then effR own (k + 1 + post.length) cs ef else none
   | none => none
  | none => none
 | _, _ => none
def OpOk (P : Program) (G : List (Nat × List Value)) (lk : Lk) (p : Path) (o : Oper) (own : Tr Ob) (r : OpR) : Prop :=
 r.own.get = updL own.get r.upd ∧ (∀ x ∈ keys r.upd, x ∈ r.touch) ∧
 ∀ (fr : Fr) (own0 : Own) (a : Act) (w : World) (pl : Pl), fr.G = G → conj r.cs → (∀ i ∈ r.touch, own0 i = own.get i) → Mem fr own0 w pl → LkOk a w pl own0 p lk → Eng.Holds a p → DoesX P fr own0 a w pl o r.eff
section
variable {P : Program} {G : List (Nat × List Value)} {lk : Lk} {p : Path} {o : Oper}
theorem does_eff {fr : Fr} {own : Own} {a : Act} {w : World} {pl : Pl} {e e' : Eff} (h1 : e'.sv = e.sv) (h2 : e'.upd = e.upd) (h : DoesX P fr own a w pl o e) : DoesX P fr own a w pl o e' := by
 unfold DoesX at h ⊢
 rw [h1, h2]
 exact h
theorem effR_ok {own : Tr Ob} {k : Nat} {cs : List Prop} {e : Eff} {r : OpR} (h : effR own k cs e = some r)
  (hd : ∀ (fr : Fr) (own0 : Own) (a : Act) (w : World) (pl : Pl), fr.G = G → conj cs → (∀ i ∈ e.touch, own0 i = own.get i) → Mem fr own0 w pl → LkOk a w pl own0 p lk → Eng.Holds a p → DoesX P fr own0 a w pl o e) : OpOk P G lk p o own r := by
 unfold effR at h
 split at h
 ·rename_i own' hs
  simp only [Option.some.injEq] at h
  subst h
  refine ⟨setL_get hs, fun x hx => by simp [hx], fun fr own0 a w pl hG hc ht m hl hp => ?_⟩
  exact does_eff (e := e) rfl rfl (hd fr own0 a w pl hG hc (fun i hi => ht i (by simp [hi])) m hl hp)
 ·cases h
theorem conj_of_all : ∀ {l : List Prop}, (∀ c ∈ l, c) → conj l
 | [], _ => trivial
 | [c], h => h c (by simp)
 | c :: d :: r, h => ⟨h c (by simp), conj_of_all fun x hx => h x (by simp [hx])⟩
theorem callGS_obs {S : List SV → List (Nat × Ob) → SV → List (Nat × Ob) → Prop} {ob : Own} {osv : Option (List SV)} {nid : Nat} {out : SV} {rs : List Nat} {post : List (Nat × Ob)} {e : Eff} (h : callGS S ob osv nid out rs post = some e) :
  ∃ svs ins ars refs, osv = some svs ∧ argsG ob rs svs = some (ins, ars) ∧ handL ob rs 0 rs = some refs ∧ ∀ x ∈ e.obs, x.p = S ins refs out post ∨ x.k = false := by
 unfold callGS at h
 split at h
 ·rename_i svs
  split at h
  ·rename_i ins ars refs hargs hrefs
   split at h
   ·split at h
    ·simp only [Option.some.injEq] at h
     subst h
     refine ⟨svs, ins, ars, refs, rfl, hargs, hrefs, fun x hx => ?_⟩
     rcases List.mem_cons.1 hx with rfl | hx
     ·exact .inl rfl
     ·right
      split at hx
      ·cases hx
      ·obtain ⟨y, hy, hx⟩ := List.mem_flatMap.1 hx
       unfold flatQ at hx
       split at hx
       ·cases hx
       ·simp only [List.mem_singleton] at hx
        subst hx; rfl
    ·cases h
   ·cases h
  ·cases h
 ·cases h
theorem callT_ok {T : Ent P G} {k : Nat} {svs : List SV} {own : Tr Ob} {r : OpR} (h : callT T k svs own = some r)
  (hrun : ∀ (own0 : Own) (a : Act) (w : World) (pl : Pl) , LkOk a w pl own0 p lk → Eng.Holds a p → ∃ vals, All2 (SvOk w pl own0) svs vals ∧ RunsBy P G a w o vals (Spec P G T.f)) : OpOk P G lk p o own r := by
 unfold callT at h
 generalize hrs : reach own.get 1000 (svs.flatMap idsS) [] = rs at h
 split at h
 ·rename_i ins ars refs hargs hrefs
  split at h
  ·rename_i out post cs hask
   split at h
   ·rename_i ef hef
    split at h
    ·rename_i hall
     refine effR_ok h fun fr own0 a w pl hG hc ht m hl hp => ?_
     subst hG
     obtain ⟨vals, hv, hr⟩ := hrun own0 a w pl hl hp
     obtain ⟨svs', ins', ars', refs', h1, h2, h3, h4⟩ := callGS_obs hef
     simp only [Option.some.injEq] at h1
     subst h1
     rw [hargs] at h2
     rw [hrefs] at h3
     simp only [Option.some.injEq, Prod.mk.injEq] at h2 h3
     obtain ⟨rfl, rfl⟩ := h2
     subst h3
     refine callGS_ok m (vals := vals) (fun s hs => by simp only [Option.some.injEq] at hs; subst hs; exact hv) hr hef ht (conj_of_all fun c hcm => ?_)
     simp only [Eff.obl, pOf, List.mem_map] at hcm
     obtain ⟨x, hx, rfl⟩ := hcm
     rcases h4 x hx with h5 | h5
     ·rw [h5]; exact T.ok hask hc
     ·have := List.all_eq_true.1 hall x hx
      rw [h5, Bool.false_or] at this
      exact x.h this
    ·cases h
   ·cases h
  ·cases h
 ·cases h
end
end Go.V
namespace Go.V
open Go.RowKit
def viewC (ov : List (Nat × C)) : Nat → List D → List C
 | _, [] => []
 | p, d :: r => (match ov.lookup p with
  | some c => c
  | none => .d d) :: viewC ov (p + 1) r
def flatC : List C → List D
 | [] => []
 | .d x :: r => x :: flatC r
 | _ :: r => .v undef :: flatC r
def ovOf : Nat → List C → List (Nat × C)
 | _, [] => []
 | p, .d _ :: r => ovOf (p + 1) r
 | p, c :: r => (p, c) :: ovOf (p + 1) r
section
variable {P : Program} {fr : Fr} {own : Own} {a : Act} {w w' : World} {pl : Pl} {o : Oper} {p : Path} {lk : Lk}
theorem viewC_len (ov : List (Nat × C)) : ∀ (ds : List D) (p : Nat), (viewC ov p ds).length = ds.length
 | [], _ => rfl
 | d :: r, p => by simp [viewC, viewC_len ov r]
theorem viewC_get (ov : List (Nat × C)) : ∀ (ds : List D) (p j : Nat), (viewC ov p ds)[j]? = (ds[j]?).map fun d => match ov.lookup (p + j) with
  | some c => c
  | none => .d d
 | [], _, j => by simp [viewC]
 | d :: r, p, 0 => by simp [viewC]
 | d :: r, p, j + 1 => by
  simp only [viewC, List.getElem?_cons_succ]
  rw [viewC_get ov r (p + 1) j, show p + 1 + j = p + (j + 1) by omega]
theorem view_ok {ov : List (Nat × C)} {ds : List D} {xs : List Value} (h : AllO w pl own ov ds xs) : All2 (COk w pl own) (viewC ov 0 ds) xs := by
 refine ⟨by rw [viewC_len]; exact h.1, fun j c x hc hx => ?_⟩
 rw [viewC_get] at hc
 simp only [Option.map_eq_some_iff, Nat.zero_add] at hc
 obtain ⟨d, hd, rfl⟩ := hc
 have := h.2 j d x hd hx
 cases ho : ov.lookup j with
 | none => rw [ho] at this; exact this
 | some c => rw [ho] at this; exact this
theorem flatC_len : ∀ cs : List C, (flatC cs).length = cs.length
 | [] => rfl
 | c :: r => by cases c <;> simp [flatC, flatC_len r]
theorem ovOf_ge : ∀ (cs : List C) (p j : Nat), j < p → (ovOf p cs).lookup j = none
 | [], _, _, _ => rfl
 | c :: r, p, j, h => by
  cases c with
  | d x => exact ovOf_ge r (p + 1) j (by omega)
  | _ =>
   simp only [ovOf, List.lookup]
   have : (j == p) = false := by simp; omega
   rw [this]
   exact ovOf_ge r (p + 1) j (by omega)
theorem split_ok : ∀ {cs : List C} {xs : List Value} (p : Nat), All2 (COk w pl own) cs xs → ∀ (j : Nat) (d : D) (x : Value), (flatC cs)[j]? = some d → xs[j]? = some x → OvOk w pl own d x ((ovOf p cs).lookup (p + j))
 | [], xs, p, h, j, d, x, hd, hx => by simp [flatC] at hd
 | c :: r, xs, p, h, j, d, x, hd, hx => by
  obtain ⟨y, ys, rfl, h1, h2⟩ := h.uncons
  cases j with
  | zero =>
   simp only [List.getElem?_cons_zero, Option.some.injEq] at hx
   subst hx
   cases c with
   | d z =>
    simp only [flatC, List.getElem?_cons_zero, Option.some.injEq] at hd
    subst hd
    simp only [ovOf, Nat.add_zero]
    rw [ovOf_ge r (p + 1) p (by omega)]
    exact h1
   | _ => simp only [ovOf, Nat.add_zero, List.lookup, beq_self_eq_true]; exact h1
  | succ j =>
   have ih := split_ok (p + 1) h2 j d x (by cases c <;> simpa [flatC] using hd) (by simpa using hx)
   rw [show p + 1 + j = p + (j + 1) by omega] at ih
   cases c with
   | d z => exact ih
   | _ =>
    simp only [ovOf, List.lookup]
    have : (p + (j + 1) == p) = false := by simp
    rw [this]
    exact ih
theorem allO_of {cs : List C} {xs : List Value} (h : All2 (COk w pl own) cs xs) : AllO w pl own (ovOf 0 cs) (flatC cs) xs :=
 ⟨by rw [flatC_len]; exact h.1, fun j d x hd hx => by have := split_ok 0 h j d x hd hx; rwa [Nat.zero_add] at this⟩
theorem mkd_ovOf : ∀ (cs : List C) (p : Nat), p + cs.length ≤ 4611686018427387904 → mkd (ovOf p cs) = false
 | [], _, _ => rfl
 | c :: r, p, h => by
  simp only [List.length_cons] at h
  have ih := mkd_ovOf r (p + 1) (by omega)
  cases c with
  | d x => exact ih
  | _ =>
   simp only [mkd, ovOf, List.any_cons, Bool.or_eq_false_iff] at ih ⊢
   exact ⟨by simp; omega, ih⟩
def arrOf (k : Nat) (e : TypeId) (sz n : Nat) (cs : List C) : Ob := .arr k ⟨e, ovOf 0 cs⟩ sz (chunks sz n (flatC cs))
theorem arr_view {i k : Nat} {e : AT} {sz : Nat} {es : List (List D)} (h : ObOk 0 w pl own i (.arr k e sz es)) : ∃ xs, ownsQ (mkd e.ov) w 0 e.e sz (.slice (pl.sl i).1 es.length (pl.sl i).2) es.length xs ∧ All2 (COk w pl own) (viewC e.ov 0 es.flatten) xs ∧ es.flatten.length = es.length * sz := by
 obtain ⟨xs, hx, hr, hs⟩ := h
 exact ⟨xs, hx, view_ok hr, flatten_len hs⟩
def loadG (P : Program) (lk : Lk) (ob : Own) (t : TypeId) (x : Operand) : Option Eff :=
 match lk [] x with
 | some (.c (.ea i k idx off)) => match ob i with
  | some (.arr k' ⟨e, y :: ov⟩ sz es) => match es[idx]? with
   | some ds => bif Nat.beq k' k && Nat.beq ds.length sz then (match loadC P t (viewC (y :: ov) (idx * sz) ds) off with
    | some s => some ⟨s, [], [i], []⟩
    | none => none) else none
   | none => none
  | _ => none
 | _ => none
theorem loadG_ok (m : Mem fr own w pl) (hl : LkOk a w pl own p lk) (hp : Eng.Holds a p) {t : TypeId} {x : Operand} (hop : o.op = .load t x) {ob : Own} {e : Eff} (h : loadG P lk ob t x = some e) (hob : ∀ i ∈ e.touch, own i = ob i) : Does P fr own a w pl o e := by
 unfold loadG at h
 split at h
 ·rename_i i k idx off hx
  split at h
  ·rename_i k' el y ov sz es hbx
   split at h
   ·rename_i ds hds
    cases hc : (Nat.beq k' k && Nat.beq ds.length sz) with
    | false => rw [hc] at h; cases h
    | true =>
     rw [hc] at h
     simp only [cond_true] at h
     simp only [Bool.and_eq_true, beq_t] at hc
     obtain ⟨rfl, hdl⟩ := hc
     split at h
     ·rename_i s hs
      simp only [Option.some.injEq] at h
      subst h
      have hi : own i = some (.arr k' ⟨el, y :: ov⟩ sz es) := by rw [hob i (by simp), hbx]
      obtain ⟨k2, e2, sz2, es2, hi2, _, hv, _⟩ := hl [] x _ hx holds_nil hp
      rw [hi] at hi2
      injection hi2 with hi2
      injection hi2 with h1 h2 h3 h4
      subst h1; subst h2; subst h3; subst h4
      obtain ⟨hlt, b, hA, hv⟩ := hv rfl
      obtain ⟨xs, hxs, hr, hss⟩ := m.obj i _ hi
      rcases hxs.all.2 with ⟨_, h0⟩ | ⟨g, cap, cur, fz, hvv, hB, hg, hn, hsz, htk⟩
      ·omega
      ·injection hvv with hA1 hA2 hA3
       rw [hA] at hA1
       simp only [Option.some.injEq, Addr.mk.injEq, and_true] at hA1
       subst hA1
       have hL : Lies w pl own (viewC (y :: ov) (idx * sz) ds) cur.toList (idx * sz) := by
        intro j c hj
        rw [viewC_get] at hj
        simp only [Option.map_eq_some_iff] at hj
        obtain ⟨d, hd, rfl⟩ := hj
        have hfd := flatten_get hss hds hd
        have hlt2 : idx * sz + j < xs.length := by rw [← hr.1]; exact (List.getElem?_eq_some_iff.1 hfd).1
        obtain ⟨u, hxj⟩ : ∃ u, xs[idx * sz + j]? = some u := ⟨_, List.getElem?_eq_getElem hlt2⟩
        have hok := hr.2 _ d _ hfd hxj
        refine ⟨u, ?_, ?_⟩
        ·rw [← htk, List.getElem?_take] at hxj
         split at hxj
         ·exact hxj
         ·cases hxj
        ·cases ho : (y :: ov).lookup (idx * sz + j) with
         | none => rw [show (AT.mk el (y :: ov)).ov = y :: ov from rfl, ho] at hok; exact hok
         | some c => rw [show (AT.mk el (y :: ov)).ov = y :: ov from rfl, ho] at hok; exact hok
       obtain ⟨v, hv2, hok⟩ := loadC_ok hs hL
       exact does_load (L := cur.toList) hop m hv (by simpa using hg) hv2 hok
     ·cases h
   ·cases h
  ·cases h
 ·cases h
def allD : List C → Bool
 | [] => true
 | .d _ :: r => allD r
 | _ => false
def storeG (P : Program) (lk : Lk) (ob : Own) (ty : TypeId) (x v : Operand) : Option Eff :=
 match lk [] x, lk [] v, P.info? ty with
 | some (.c (.ea i k idx off)), some s, some ti => match ob i, cellsS s with
  | some (.arr k' ⟨e, ov⟩ sz es), some cs =>
   bif ov.isEmpty && (Nat.beq off 0 && (allD cs && Nat.beq cs.length sz)) then none else
   bif Nat.beq k' k && (Nat.beq cs.length ti.size && (Nat.ble (idx * sz + off + cs.length) (es.length * sz) && (!(mkd ov) && Nat.ble (es.length * sz) 4611686018427387904))) then
    some ⟨.c .any, [(i, arrOf k e sz es.length (spliceC (viewC ov 0 es.flatten) (idx * sz + off) cs))], [i], []⟩ else none
  | _, _ => none
 | _, _, _ => none
theorem storeG_ok (m : Mem fr own w pl) (hl : LkOk a w pl own p lk) (hp : Eng.Holds a p) {ty : TypeId} {x v : Operand} (hop : o.op = .store ty x v) (hd : o.dst = none) {ob : Own} {e : Eff} (h : storeG P lk ob ty x v = some e) (hob : ∀ i ∈ e.touch, own i = ob i) : Does P fr own a w pl o e := by
 unfold storeG at h
 split at h
 ·rename_i i k idx off s ti hx hs hti
  split at h
  ·rename_i k' el ov sz es cs hbx hcs
   cases hc0 : (ov.isEmpty && (Nat.beq off 0 && (allD cs && Nat.beq cs.length sz))) with
   | true => rw [hc0] at h; cases h
   | false =>
    rw [hc0] at h
    simp only [cond_false] at h
    cases hc : (Nat.beq k' k && (Nat.beq cs.length ti.size && (Nat.ble (idx * sz + off + cs.length) (es.length * sz) && (!(mkd ov) && Nat.ble (es.length * sz) 4611686018427387904)))) with
    | false => rw [hc] at h; cases h
    | true =>
     rw [hc] at h
     simp only [cond_true, Option.some.injEq] at h
     simp only [Bool.and_eq_true, beq_t, Nat.ble_eq, Bool.not_eq_true'] at hc
     obtain ⟨rfl, hc1, hc2, hmk, hbig⟩ := hc
     subst h
     have hi : own i = some (.arr k' ⟨el, ov⟩ sz es) := by rw [hob i (by simp), hbx]
     obtain ⟨k2, e2, sz2, es2, hi2, _, hv, _⟩ := hl [] x _ hx holds_nil hp
     rw [hi] at hi2
     injection hi2 with hi2
     injection hi2 with h1 h2 h3 h4
     subst h1; subst h2; subst h3; subst h4
     obtain ⟨hlt, b, hA, hv⟩ := hv rfl
     have hcv := cellsS_ok hcs (hl [] v s hs holds_nil hp)
     obtain ⟨xs, hxs, hview, hfl⟩ := arr_view (m.obj i _ hi)
     rw [show mkd (AT.mk el ov).ov = false from hmk] at hxs
     have hview : All2 (COk w pl own) (viewC ov 0 es.flatten) xs := hview
     have hxl : xs.length = es.length * sz := by rw [← hview.1, viewC_len, hfl]
     have hvl : (a.eval v).cells.toList.length = cs.length := hcv.1.symm
     have hlen1 : (a.eval v).cells.size = ti.size := by simp at hvl; omega
     generalize hcl : (a.eval v).cells.toList = cells at hcv hvl
     generalize hpl : idx * sz + off = q at hc2 hv ⊢
     have hsplC : All2 (COk w pl own) (spliceC (viewC ov 0 es.flatten) q cs) (spliceC xs q cells) := spliceC_ok hview hcv q
     have hslen : (spliceC (viewC ov 0 es.flatten) q cs).length = es.length * sz := by
      unfold spliceC
      simp only [List.length_append, List.length_take, List.length_drop, viewC_len, hfl]
      omega
     rcases hxs.2 with ⟨_, h0⟩ | ⟨g, cap, cur, hvv, hB, hg, hn, hcap, hsz, htk⟩
     ·omega
     ·injection hvv with hA1 hA2 hA3
      rw [hA] at hA1
      simp only [Option.some.injEq, Addr.mk.injEq, and_true] at hA1
      subst hA1
      have hcl2 : es.length * sz ≤ cur.size := by rw [hsz]; exact Nat.mul_le_mul_right _ hn
      have hsp : (spliceC cur.toList q cells).take (es.length * sz) = spliceC xs q cells := by
       have e1 : (cur.toList.take q).length = q := by rw [List.length_take, Array.length_toList]; omega
       have e2 : (cur.toList.take q ++ cells).length = q + cells.length := by rw [List.length_append, e1]
       have e3 : (cur.toList.take q ++ cells).take (es.length * sz) = cur.toList.take q ++ cells := List.take_of_length_le (by rw [e2]; omega)
       have e4 : xs.take q = cur.toList.take q := by rw [← htk, List.take_take, Nat.min_eq_left (by omega)]
       have e5 : xs.drop (q + cells.length) = (cur.toList.drop (q + cells.length)).take (es.length * sz - (q + cells.length)) := by rw [← htk, List.drop_take]
       unfold spliceC
       rw [List.take_append, e3, e2, e4, e5]
      have hsl : (spliceC cur.toList q cells).length = cur.size := by
       unfold spliceC
       simp only [List.length_append, List.length_take, List.length_drop, Array.length_toList]
       omega
      have hrun : (execOp a.eval o).run P w = .ok .skip (w.setRow b (spliceC cur.toList q cells).toArray) := by
       unfold execOp
       simp only [hop, hv]
       have := run_storeCells_at (P := P) b q el cells 0 cur w hg (by simp; omega) (all2_one hcv)
       simp only [Nat.add_zero] at this ⊢
       simp only [Instr.storeAt, Instr.sureAddr, storeVar, sizeOf, typeInfo]
       simp [hti, hlen1, hcl, this, spliceC]
      have hgr : w.grownBy (w.setRow b (spliceC cur.toList q cells).toArray) ((pl.sl i).1.map (·.block)) := by
       refine ⟨rfl, rfl, rfl, by simp [World.setRow], fun q hq hne => heap_setRow_ne _ _ _ (fun he => hne ?_)⟩
       rw [hA, he]; rfl
      intro K Q hK
      obtain ⟨hch1, hch2, hch3⟩ := chunks_flatten sz es.length (flatC (spliceC (viewC ov 0 es.flatten) q cs)) (by rw [flatC_len]; exact hslen)
      have hmk2 : mkd (ovOf 0 (spliceC (viewC ov 0 es.flatten) q cs)) = false := mkd_ovOf _ 0 (by rw [hslen]; omega)
      obtain ⟨pl', m', L, hA'⟩ := m.turnArrO (k' := k') (e' := ⟨el, ovOf 0 (spliceC (viewC ov 0 es.flatten) q cs)⟩) (es' := chunks sz es.length (flatC (spliceC (viewC ov 0 es.flatten) q cs))) (A := some ⟨b, 0, none⟩) (cap := cap) (xs := spliceC xs q cells) hi hgr
       (by
        rw [show mkd (AT.mk el (ovOf 0 (spliceC (viewC ov 0 es.flatten) q cs))).ov = false from hmk2, hch2]
        exact ⟨by rw [← hsp]; simp only [List.length_take, hsl]; omega, .inr ⟨b, cap, (spliceC cur.toList q cells).toArray, rfl, hB, setRow_heap w _ cur _ el (0, 0) hg, hn, hcap, by simp [hsl, hsz], hsp⟩⟩)
       (.inl (by rw [hA])) (by rw [hch1]; exact allO_of hsplC) hch3 (.inr ⟨rfl, hch2, by rw [← hA3, ← hA]⟩)
      unfold Oper.wp
      rw [hrun, Oper.upon_skip]
      exact hK undef _ pl' m' L (.inl hd)
  ·cases h
 ·cases h
def bslG (P : Program) (lk : Lk) (ob : Own) (T : TypeId) (len : Nat) (parts : Array (Nat × Operand)) (nid : Nat) : Option Eff :=
 match ob nid, partsE lk parts.toList, P.underlying T with
 | none, some ps, some (.slice e) => match P.info? e with
  | some i => match i.zero with
   | some z => bif Nat.ble (len * i.size) 16777216 && (Nat.ble 1 i.size && Nat.beq z.cells.size i.size) then
     (match ofCells ((Array.range (len * i.size)).map ((if len * i.size = 0 then #[] else z.cells)[· % (if len * i.size = 0 then #[] else z.cells).size]!)).toList with
     | some zc => match fillC (fun k => some (k * i.size, i.size)) zc ps with
      | some cs => bif allD cs then none else bif Nat.beq cs.length (len * i.size) then some ⟨.c (.ar nid 0), [(nid, arrOf 0 e i.size len cs)], [nid], []⟩ else none
      | none => none
     | none => none) else none
   | none => none
  | none => none
 | _, _, _ => none
theorem bslG_ok (m : Mem fr own w pl) (hl : LkOk a w pl own p lk) (hp : Eng.Holds a p) {T : TypeId} {len : Nat} {parts : Array (Nat × Operand)} (hop : o.op = .buildSlice T len parts) {ob : Own} {nid : Nat} {e : Eff} (h : bslG P lk ob T len parts nid = some e) (hob : ∀ i ∈ e.touch, own i = ob i) : Does P fr own a w pl o e := by
 unfold bslG at h
 split at h
 ·rename_i ps el hnone hps hu
  have hparts := partsE_ok hl hp hps
  split at h
  ·rename_i i hi
   split at h
   ·rename_i z hz
    cases hc : (Nat.ble (len * i.size) 16777216 && (Nat.ble 1 i.size && Nat.beq z.cells.size i.size)) with
    | false => rw [hc] at h; cases h
    | true =>
     rw [hc] at h
     simp only [cond_true] at h
     simp only [Bool.and_eq_true, beq_t, Nat.ble_eq] at hc
     obtain ⟨hc1, hc2, hc3⟩ := hc
     split at h
     ·rename_i zc hzc
      split at h
      ·rename_i cs hf
       cases hall : allD cs with
       | true => rw [hall] at h; cases h
       | false =>
        rw [hall] at h
        simp only [cond_false] at h
        cases hcl : Nat.beq cs.length (len * i.size) with
        | false => rw [hcl] at h; cases h
        | true =>
         rw [hcl] at h
         simp only [cond_true, Option.some.injEq] at h
         have hcl := Nat.eq_of_beq_eq_true hcl
         subst h
         obtain ⟨cells', h1, h2⟩ := fillC_ok hf (ofCells_ok hzc) hparts
         obtain ⟨hfl, hln, hsz⟩ := chunks_flatten i.size len (flatC cs) (by rw [flatC_len]; exact hcl)
         have hcs : cells'.size = len * i.size := by have := h2.1; simp at this; omega
         have hlen : len ≤ maxLen := by
          have : len ≤ len * i.size := Nat.le_mul_of_pos_right len hc2
          unfold maxLen; omega
         have hg : w.grownBy (w.alloc (.cells cells' el)) none := ⟨rfl, rfl, rfl, by simp, fun k hk _ => Below.heap_alloc _ _ _ hk⟩
         have hr : (execOp a.eval o).run P w = .ok (.value (.slice (some ⟨w.heap.size, 0, none⟩) len len)) (w.alloc (.cells cells' el)) := by
          unfold execOp
          simp only [hop, Instr.buildSlice]
          have hsz2 : ¬ len * i.size > 2 ^ 24 := by omega
          by_cases h0 : len * i.size = 0
          ·simp only [h0, if_true] at h1 hsz2 ⊢
           simp at h1
           simp [run_underlying hu, sizeOf, typeInfo, hi, h0, h1, newRow, newObj]
           rfl
          ·simp only [h0, if_false] at h1
           simp [run_underlying hu, sizeOf, typeInfo, hi, h0, h1, newRow, newObj, zeroValue, hz, hsz2]
           rfl
         intro K Q hK
         have hmk : mkd (ovOf 0 cs) = false := mkd_ovOf _ 0 (by omega)
         obtain ⟨pl', m', L, hA⟩ := m.newArr (i := nid) (e := ⟨el, ovOf 0 cs⟩) (sz := i.size) (es := chunks i.size len (flatC cs)) (xs := cells'.toList) (A := some ⟨w.heap.size, 0, none⟩) (cap := len) (by rw [hob nid (by simp), hnone]) hg
          (by
           rw [show mkd (AT.mk el (ovOf 0 cs)).ov = false from hmk]
           exact ⟨by rw [hln]; simp [hcs], .inr ⟨w.heap.size, len, cells', by rw [hln], Nat.zero_le _, heap_alloc_new w _, by omega, hlen, hcs, by rw [hln, List.take_of_length_le (by simp [hcs])]⟩⟩)
          (fun ad h => by injection h with h; rw [← h]; exact Nat.le_refl _) (by rw [hfl]; exact allO_of h2) hsz
         unfold Oper.wp
         rw [hr, Oper.upon_value]
         exact hK _ _ pl' m' L (.inr ⟨0, _, i.size, _, upd_same _ _ _, Nat.le_refl _, fun _ => by rw [hA, hln], rfl⟩)
      ·cases h
     ·cases h
   ·cases h
  ·cases h
 ·cases h
def readX (lk : Lk) (ob : Own) (x : Operand) : Option (Nat × Nat × List C × List Nat) :=
 match lk [] x with
 | some (.c (.d (.sl sz es))) => some (sz, es.length, es.flatten.map .d, [])
 | some (.c (.ar i k)) => match ob i with
  | some (.arr k' ⟨_, ov⟩ sz es) => bif Nat.beq k' k && !(mkd ov) then some (sz, es.length, viewC ov 0 es.flatten, [i]) else none
  | _ => none
 | _ => none
theorem readX_ok (m : Mem fr own w pl) (hl : LkOk a w pl own p lk) (hp : Eng.Holds a p) {ob : Own} {x : Operand} {sz n : Nat} {cs : List C} {t : List Nat} (h : readX lk ob x = some (sz, n, cs, t)) (hob : ∀ i ∈ t, own i = ob i) :
  ∃ A c xs, a.eval x = .slice A n c ∧ All2 (COk w pl own) cs xs ∧ cs.length = n * sz ∧ ((n = 0 ∧ c = 0) ∨ ∃ b off, A = some ⟨b, off, none⟩ ∧ ∀ (j : Nat) (u : Value), xs[j]? = some u → w.cell? ⟨b, off + j, none⟩ = some u) := by
 unfold readX at h
 split at h
 ·rename_i sz' es hx
  simp only [Option.some.injEq, Prod.mk.injEq] at h
  obtain ⟨rfl, rfl, rfl, rfl⟩ := h
  obtain ⟨A, c, xs, h1, h2, h3, h4, h5⟩ := readS_ok (ob := own) m hl hp (show readS lk own x = some (sz', es, []) by unfold readS; rw [hx]) (fun i hi => by cases hi)
  refine ⟨A, c, xs, h1, all2_mapG (f := C.d) (S := COk w pl own) (fun x y h => h) h2, by rw [List.length_map]; exact flatten_len h3, h5.imp (fun h => ⟨by rw [h.1]; rfl, h.2⟩) id⟩
 ·rename_i i k hx
  split at h
  ·rename_i k' el ov sz' es hi
   cases hc : (Nat.beq k' k && !(mkd ov)) with
   | false => rw [hc] at h; cases h
   | true =>
    rw [hc] at h
    simp only [cond_true, Option.some.injEq, Prod.mk.injEq] at h
    obtain ⟨rfl, rfl, rfl, rfl⟩ := h
    simp only [Bool.and_eq_true, beq_t, Bool.not_eq_true'] at hc
    obtain ⟨rfl, hmk⟩ := hc
    have hi' : own i = some (.arr k' ⟨el, ov⟩ sz' es) := by rw [hob i (by simp), hi]
    have hv := ar_cur (w := w) (hl [] x _ hx holds_nil hp) hi'
    obtain ⟨xs, hxs, hview, hfl⟩ := arr_view (m.obj i _ hi')
    rw [show mkd (AT.mk el ov).ov = false from hmk] at hxs
    refine ⟨_, _, xs, hv, hview, by rw [viewC_len]; exact hfl, ?_⟩
    rcases hxs.2 with ⟨h0, h1⟩ | ⟨g, cap, cur, hvv, hB, hg, hn, hcap, hsz, htk⟩
    ·injection h0 with _ _ h2
     exact .inl ⟨h1, h2⟩
    ·injection hvv with hA1 hA2 hA3
     refine .inr ⟨g, 0, hA1, fun j u hj => ?_⟩
     rw [cell_of_row w g _ cur el (0, 0) hg]
     rw [← htk, List.getElem?_take] at hj
     split at hj
     ·simpa using hj
     ·cases hj
  ·cases h
 ·cases h
def appG (P : Program) (lk : Lk) (ob : Own) (T : TypeId) (s x : Operand) (nid : Nat) : Option Eff :=
 match P.underlying T, readX lk ob x with
 | some (.slice e), some (szx, nx, news, tx) => match P.info? e with
  | some i => match i.zero with
   | some z => bif Nat.beq z.cells.size i.size && (Nat.ble 1 i.size && Nat.beq szx i.size) then
     (match lk [] s with
     | some (.c (.ar j k)) => match ob j with
      | some (.arr k' ⟨e', ov⟩ sz es) => bif allD news && ov.isEmpty then none else
       bif Nat.beq k' k && (Nat.beq e' e && (Nat.beq sz i.size && (!(mkd ov) && Nat.ble ((es.length + nx) * (i.bytes + 1)) 140737488355328))) && Nat.ble ((es.length + nx) * i.size) 4611686018427387904 then
        some ⟨.c (.ar j (k + 1)), [(j, arrOf (k + 1) e i.size (es.length + nx) (viewC ov 0 es.flatten ++ news))], j :: tx, []⟩ else none
      | _ => none
     | some (.c (.d (.v (.slice none 0 0)))) => match ob nid with
      | none => bif allD news then none else bif Nat.ble (nx * (i.bytes + 1)) 140737488355328 && Nat.ble (nx * i.size) 4611686018427387904 then some ⟨.c (.ar nid 0), [(nid, arrOf 0 e i.size nx news)], nid :: tx, []⟩ else none
      | some _ => none
     | _ => none) else none
   | none => none
  | none => none
 | _, _ => none
theorem appG_ok (m : Mem fr own w pl) (hl : LkOk a w pl own p lk) (hp : Eng.Holds a p) {T : TypeId} {s x : Operand} (hop : o.op = .call { callee := .builtin .append, args := #[s, x], argTypes := #[T, T] }) {ob : Own} {nid : Nat} {e : Eff} (h : appG P lk ob T s x nid = some e) (hob : ∀ i ∈ e.touch, own i = ob i) : Does P fr own a w pl o e := by
 unfold appG at h
 have hrun : ∀ {v w'}, (Builtin.append_ #[T, T] o.type #[a.eval s, a.eval x]).run P w = .ok v w' → (execOp a.eval o).run P w = .ok (.value v) w' := by
  intro v w' hr
  unfold execOp
  simp only [hop, resolve, invoke, builtin, Sem.run_bind, Sem.run_pure, Result.andThen_ok, List.map_toArray, List.map_cons, List.map_nil, hr]
 split at h
 ·rename_i el szx nx news tx hu hrx
  split at h
  ·rename_i i hi
   split at h
   ·rename_i z hz
    cases hc : (Nat.beq z.cells.size i.size && (Nat.ble 1 i.size && Nat.beq szx i.size)) with
    | false => rw [hc] at h; cases h
    | true =>
     rw [hc] at h
     simp only [cond_true] at h
     simp only [Bool.and_eq_true, beq_t, Nat.ble_eq] at hc
     obtain ⟨hc1, hc2, rfl⟩ := hc
     split at h
     ·rename_i j k hs
      split at h
      ·rename_i k' e' ov sz es hbx
       cases hc0 : (allD news && ov.isEmpty) with
       | true => rw [hc0] at h; cases h
       | false =>
        rw [hc0] at h
        simp only [cond_false] at h
        cases hk : (Nat.beq k' k && (Nat.beq e' el && (Nat.beq sz i.size && (!(mkd ov) && Nat.ble ((es.length + nx) * (i.bytes + 1)) 140737488355328))) && Nat.ble ((es.length + nx) * i.size) 4611686018427387904) with
        | false => rw [hk] at h; cases h
        | true =>
         rw [hk] at h
         simp only [cond_true, Option.some.injEq] at h
         simp only [Bool.and_eq_true, beq_t, Nat.ble_eq, Bool.not_eq_true'] at hk
         obtain ⟨⟨rfl, rfl, rfl, hmk, hbig⟩, hbig2⟩ := hk
         subst h
         have hj : own j = some (.arr k' ⟨e', ov⟩ i.size es) := by rw [hob j (by simp), hbx]
         have hv := ar_cur (w := w) (hl [] s _ hs holds_nil hp) hj
         obtain ⟨A2, c2, xs2, hx2, hr2, hl2, hA2⟩ := readX_ok m hl hp hrx (fun i hi => hob i (by simp [hi]))
         obtain ⟨xs, hxs, hview, hfl⟩ := arr_view (m.obj j _ hj)
         rw [show mkd (AT.mk e' ov).ov = false from hmk] at hxs
         have hview : All2 (COk w pl own) (viewC ov 0 es.flatten) xs := hview
         have hl2' : xs2.length = nx * i.size := by rw [← hr2.1, hl2]
         obtain ⟨A', c', w', h1, h2, h3, h4⟩ := run_append2 (P := P) (w := w) 0 T o.type e' i z hu hi hz hc1 hc2 hxs hl2' (all2_one hr2) hA2 hbig (Nat.zero_le _)
         intro K Q hK
         have hall := hview.append hr2
         have hcl : (viewC ov 0 es.flatten ++ news).length = (es.length + nx) * i.size := by rw [List.length_append, viewC_len, hfl, hl2, Nat.add_mul]
         obtain ⟨hch1, hch2, hch3⟩ := chunks_flatten i.size (es.length + nx) (flatC (viewC ov 0 es.flatten ++ news)) (by rw [flatC_len]; exact hcl)
         have hmk2 : mkd (ovOf 0 (viewC ov 0 es.flatten ++ news)) = false := mkd_ovOf _ 0 (by omega)
         obtain ⟨pl', m', L, hA⟩ := m.turnArrO (k' := k' + 1) (e' := ⟨e', ovOf 0 (viewC ov 0 es.flatten ++ news)⟩) (es' := chunks i.size (es.length + nx) (flatC (viewC ov 0 es.flatten ++ news))) (A := A') (cap := c') (xs := xs ++ xs2) hj h3 (by
           rw [show mkd (AT.mk e' (ovOf 0 (viewC ov 0 es.flatten ++ news))).ov = false from hmk2, hch2]; exact h2)
          (h4.imp id (fun h ad had => by rw [had] at h; simp only [Option.map_some, Option.some.injEq] at h; omega))
          (by rw [hch1]; exact allO_of hall) hch3 (.inl (by omega))
         have := hrun (v := .slice A' (es.length + nx) c') (w' := w') (by rw [hv, hx2]; exact h1)
         unfold Oper.wp
         rw [this, Oper.upon_value]
         exact hK _ _ pl' m' L (.inr ⟨k' + 1, _, i.size, _, upd_same _ _ _, Nat.le_refl _, fun _ => by rw [hA, hch2], rfl⟩)
      ·cases h
     ·rename_i hs
      split at h
      ·rename_i hnone
       cases hc0 : allD news with
       | true => rw [hc0] at h; cases h
       | false =>
        rw [hc0] at h
        simp only [cond_false] at h
        cases hk : (Nat.ble (nx * (i.bytes + 1)) 140737488355328 && Nat.ble (nx * i.size) 4611686018427387904) with
        | false => rw [hk] at h; cases h
        | true =>
         rw [hk] at h
         simp only [cond_true, Option.some.injEq] at h
         simp only [Bool.and_eq_true, Nat.ble_eq] at hk
         obtain ⟨hbig, hbig2⟩ := hk
         subst h
         have hv : a.eval s = .slice none 0 0 := Rd.exact (hl [] s _ hs holds_nil hp)
         obtain ⟨A2, c2, xs2, hx2, hr2, hl2, hA2⟩ := readX_ok m hl hp hrx (fun i hi => hob i (by simp [hi]))
         have hl2' : xs2.length = nx * i.size := by rw [← hr2.1, hl2]
         obtain ⟨A', c', w', h1, h2, h3, h4⟩ := run_append2 (P := P) (w := w) 0 T o.type el i z hu hi hz hc1 hc2 (World.ownsRow_nil w _ _ _) hl2' (all2_one hr2) hA2 (by rw [Nat.zero_add]; exact hbig) (Nat.zero_le _)
         rw [Nat.zero_add] at h1 h2
         intro K Q hK
         obtain ⟨hch1, hch2, hch3⟩ := chunks_flatten i.size nx (flatC news) (by rw [flatC_len]; exact hl2)
         have hmk2 : mkd (ovOf 0 news) = false := mkd_ovOf _ 0 (by omega)
         obtain ⟨pl', m', L, hA⟩ := m.newArr (i := nid) (e := ⟨el, ovOf 0 news⟩) (sz := i.size) (es := chunks i.size nx (flatC news)) (xs := xs2) (A := A') (cap := c') (by rw [hob nid (by simp), hnone]) h3 (by
           rw [show mkd (AT.mk el (ovOf 0 news)).ov = false from hmk2, hch2]; simp only [List.nil_append] at h2; exact h2)
          (fun ad had => by
           rw [had] at h4
           rcases h4 with h | h
           ·simp at h
           ·simp only [Option.map_some, Option.some.injEq] at h; omega) (by rw [hch1]; exact allO_of hr2) hch3
         have := hrun (v := .slice A' nx c') (w' := w') (by rw [hv, hx2]; exact h1)
         unfold Oper.wp
         rw [this, Oper.upon_value]
         exact hK _ _ pl' m' L (.inr ⟨0, _, i.size, _, upd_same _ _ _, Nat.le_refl _, fun _ => by rw [hA, hch2], rfl⟩)
      ·cases h
     ·cases h
   ·cases h
  ·cases h
 ·cases h
end
end Go.V
namespace Go.V
open Go.RowKit
def okKey : TypeDesc → Value → Bool
 | .int _, .int _ _ => true
 | .string, .string _ => true
 | _, _ => false
def valX (agg : Bool) (wd : Nat) (vs : List Value) : Value := if agg then .agg (vs.take wd).toArray else vs.headD undef
theorem findX {agg : Bool} {wd : Nat} {kd : TypeDesc} {k : Value} : ∀ (ks : List (Value × Nat)) (vs vs' : List Value) (i : Nat),
  (∀ j v', Instr.findNow kd k (entsX agg wd ks vs') i = some (some (j, v')) → ∃ m, j = i + m ∧ m < ks.length ∧ Instr.findNow kd k (entsX agg wd ks vs) i = some (some (j, valX agg wd (vs.drop (m * wd))))) ∧
  (Instr.findNow kd k (entsX agg wd ks vs') i = some none → Instr.findNow kd k (entsX agg wd ks vs) i = some none)
 | [], vs, vs', i => ⟨fun j v' h => by simp [entsX, Instr.findNow] at h, fun h => h⟩
 | (x, b) :: r, vs, vs', i => by
  simp only [entsX, Instr.findNow]
  cases hs : Instr.sameNow kd k x with
  | none => simp
  | some t =>
   cases t with
   | true =>
    refine ⟨fun j v' h => ?_, fun h => by simp at h⟩
    simp only [Option.some.injEq, Prod.mk.injEq] at h
    obtain ⟨rfl, _⟩ := h
    exact ⟨0, rfl, by simp, by simp [valX]⟩
   | false =>
    simp only
    obtain ⟨h1, h2⟩ := findX (agg := agg) (wd := wd) (kd := kd) (k := k) r (vs.drop wd) (vs'.drop wd) (i + 1)
    refine ⟨fun j v' h => ?_, h2⟩
    obtain ⟨m, e1, e2, e3⟩ := h1 j v' h
    refine ⟨m + 1, by omega, by simp; omega, ?_⟩
    rw [e3, List.drop_drop, Nat.succ_mul, Nat.add_comm]
theorem entsX_app (agg : Bool) (wd : Nat) : ∀ (ks : List (Value × Nat)) (vs us : List Value) (k : Value) (b : Nat), vs.length = ks.length * wd → (agg = false → wd = 1) → us.length = wd → entsX agg wd (ks ++ [(k, b)]) (vs ++ us) = entsX agg wd ks vs ++ [{ key := k, val := valX agg wd us, born := b }]
 | [], vs, us, k, b, h, _, hu => by
  have : vs = [] := List.eq_nil_of_length_eq_zero (by simpa using h)
  subst this
  simp [entsX, valX]
 | (x, b') :: r, vs, us, k, b, h, ha, hu => by
  have hl : wd ≤ vs.length := by rw [h]; simp [Nat.succ_mul]
  simp only [List.cons_append, entsX]
  rw [List.drop_append_of_le_length hl, entsX_app agg wd r (vs.drop wd) us k b (by simp [h, Nat.succ_mul]) ha hu, List.take_append_of_le_length hl]
  cases agg with
  | true => rfl
  | false =>
   have := ha rfl
   subst this
   cases vs with
   | nil => simp at hl
   | cons y ys => rfl
theorem splice_drop {α : Type} {l vs : List α} {off d : Nat} (h : d ≤ off) (h2 : off + vs.length ≤ l.length) : (spliceC l off vs).drop d = spliceC (l.drop d) (off - d) vs := by
 unfold spliceC
 rw [List.drop_drop, show d + (off - d + vs.length) = off + vs.length by omega, List.append_assoc, List.append_assoc, List.drop_append_of_le_length (by simp; omega), List.drop_take]
theorem entsX_set (agg : Bool) (wd : Nat) : ∀ (ks : List (Value × Nat)) (vs us : List Value) (m : Nat), vs.length = ks.length * wd → (agg = false → wd = 1) → us.length = wd → m < ks.length → entsX agg wd ks (spliceC vs (m * wd) us) = (entsX agg wd ks vs).modify m fun e => { e with val := valX agg wd us }
 | [], vs, us, m, _, _, _, hm => by simp at hm
 | (x, b) :: r, vs, us, m, h, ha, hu, hm => by
  have hl : wd ≤ vs.length := by rw [h]; simp [Nat.succ_mul]
  cases m with
  | zero =>
   simp only [Nat.zero_mul, entsX, List.modify_zero_cons]
   have e1 : spliceC vs 0 us = us ++ vs.drop wd := by simp [spliceC, hu]
   rw [e1, List.drop_left' hu, List.take_left' hu]
   cases agg with
   | true => simp [valX, ← hu]
   | false =>
    have := ha rfl
    subst this
    cases us with
    | nil => simp at hu
    | cons y ys => simp [valX]
  | succ m =>
   have hm' : m < r.length := by simpa using hm
   have hle : (m + 1) * wd + us.length ≤ vs.length := by
    rw [h, hu]
    have : (m + 2) * wd ≤ (r.length + 1) * wd := Nat.mul_le_mul_right _ (by omega)
    have e : (m + 2) * wd = (m + 1) * wd + wd := by rw [Nat.succ_mul]
    simp only [List.length_cons]
    omega
   have hge : wd ≤ (m + 1) * wd := by rw [Nat.succ_mul]; omega
   simp only [entsX, List.modify_succ_cons]
   rw [splice_drop hge hle, show (m + 1) * wd - wd = m * wd by rw [Nat.succ_mul]; omega, entsX_set agg wd r (vs.drop wd) us m (by simp [h, Nat.succ_mul]) ha hu hm']
   have e2 : (spliceC vs ((m + 1) * wd) us).take wd = vs.take wd := by
    unfold spliceC
    rw [List.append_assoc, List.take_append_of_le_length (by simp; omega), List.take_take, Nat.min_eq_left hge]
   have e3 : agg = false → (spliceC vs ((m + 1) * wd) us).headD undef = vs.headD undef := by
    intro ha'
    have := ha ha'
    subst this
    cases vs with
    | nil => simp at hl
    | cons y ys => simp [spliceC]
   rw [e2]
   cases agg with
   | true => rfl
   | false => simp only [Bool.false_eq_true, if_false]; rw [e3 rfl]
section
variable {P : Program} {fr : Fr} {own : Own} {a : Act} {w w' : World} {pl : Pl} {o : Oper} {p : Path} {lk : Lk}
def mmX (P : Program) (ob : Own) (T : TypeId) (nid : Nat) : Option Eff :=
 match P.underlying T, ob nid with
 | some (.map _ et), none => match Eng.isAggB P et, P.info? et with
  | some agg, some i => if agg || Nat.beq i.size 1 then some ⟨.c (.mp nid), [(nid, .box ⟨.mapx agg i.size [] 0, none⟩ [])], [nid], []⟩ else none
  | _, _ => none
 | _, _ => none
theorem mmX_ok (m : Mem fr own w pl) {T : TypeId} (hop : o.op = .makeMap T none) {ob : Own} {nid : Nat} {e : Eff} (h : mmX P ob T nid = some e) (hob : ∀ i ∈ e.touch, own i = ob i) : Does P fr own a w pl o e := by
 unfold mmX at h
 split at h
 ·rename_i kt et hu hnone
  split at h
  ·rename_i agg i ha hi
   split at h
   ·simp only [Option.some.injEq] at h
    subst h
    intro K Q hK
    obtain ⟨pl', m', L, hb, _⟩ := m.newBoxO (i := nid) (by rw [hob nid (by simp), hnone]) ⟨.mapx agg i.size [] 0, none⟩ (fun b hb => by cases hb) (cells := []) (vs := []) All2.nil (x := .map #[] 0) rfl
    have hrun : (execOp a.eval o).run P w = .ok (.value (.map (some w.heap.size))) (w.alloc (.map #[] 0)) := by
     unfold execOp
     simp only [hop]
     simp [Instr.makeMap, run_underlying hu, newObj]
     rfl
    unfold Oper.wp
    rw [hrun, Oper.upon_value]
    exact hK _ _ pl' m' L (.inr ⟨⟨_, [], upd_same _ _ _⟩, by rw [hb]⟩)
   ·cases h
  ·cases h
 ·cases h
def cellsX (agg : Bool) (wd : Nat) : SV → Option (List C)
 | .c x => if agg then none else some [x]
 | .agg xs => if agg && Nat.beq xs.length wd then some xs else none
 | .tup _ => none
theorem cellsX_ok {agg : Bool} {wd : Nat} (hw : agg = false → wd = 1) {s : SV} {cs : List C} {v : Value} (h : cellsX agg wd s = some cs) (hv : SvOk w pl own s v) : ∃ us : List Value, v = valX agg wd us ∧ us.length = wd ∧ All2 (COk w pl own) cs us := by
 unfold cellsX at h
 split at h
 ·split at h
  ·cases h
  ·rename_i x ha
   simp only [Option.some.injEq] at h; subst h
   have ha : agg = false := by simpa using ha
   exact ⟨[v], by simp [valX, ha], (hw ha).symm, All2.one hv⟩
 ·split at h
  ·rename_i xs ha
   simp only [Bool.and_eq_true, beq_t] at ha
   simp only [Option.some.injEq] at h; subst h
   obtain ⟨vs, rfl, h2⟩ := hv
   have hl : vs.length = wd := by rw [← h2.1]; exact ha.2
   exact ⟨vs, by simp [valX, ha.1, ← hl], hl, h2⟩
  ·cases h
 ·cases h
def svX (agg : Bool) (cs : List C) : Option SV := if agg then some (.agg cs) else match cs with
 | [c] => some (.c c)
 | _ => none
def insX (P : Program) (lk : Lk) (ob : Own) (T : TypeId) (m k x : Operand) : Option Eff :=
 match lk [] m, exO lk [] k, lk [] x with
 | some (.c (.mp i)), some key, some s => match ob i, P.underlying T with
  | some (.box ⟨.mapx agg wd ks next, q⟩ cells), some (.map kt _) => match P.underlying kt, cellsX agg wd s with
   | some kd, some cs => if okKey kd key && Nat.beq cells.length (ks.length * wd) && (agg || Nat.beq wd 1) then match Instr.findNow kd key (entsX agg wd ks []) 0 with
     | some none => some ⟨.c .any, [(i, .box ⟨.mapx agg wd (ks ++ [(key, next)]) (next + 1), q⟩ (cells ++ cs))], [i], []⟩
     | some (some (j, _)) => match ks[j]? with
      | some (key0, _) => if Instr.sameBits 10000 key0 key then some ⟨.c .any, [(i, .box ⟨.mapx agg wd (ks.modify j fun y => (key, y.2)) next, q⟩ (spliceC cells (j * wd) cs))], [i], []⟩ else none
      | none => none
     | none => none
    else none
   | _, _ => none
  | _, _ => none
 | _, _, _ => none
theorem run_checkKey {e : Bool} {kt : TypeId} {kd : TypeDesc} {key : Value} (hkt : P.underlying kt = some kd) (hk : okKey kd key = true) : (Instr.checkKey e 10000 kt key).run P w = .ok () w := by
 unfold Instr.checkKey
 cases kd <;> cases key <;> first | (simp [okKey] at hk; done) | simp [Sem.run_bind, run_underlying hkt, Result.andThen]
theorem run_findKey {kt : TypeId} {kd : TypeDesc} {key : Value} {es : List MapEntry} {x : Option (Nat × Value)} (hkt : P.underlying kt = some kd) (h : Instr.findNow kd key es 0 = some x) : (Instr.findKey kt key es).run P w = .ok x w := by
 unfold Instr.findKey
 simp [Sem.run_bind, run_underlying hkt, Result.andThen, h]
theorem entsX_key (agg : Bool) (wd : Nat) (key : Value) : ∀ (ks : List (Value × Nat)) (vs : List Value) (j : Nat), entsX agg wd (ks.modify j fun y => (key, y.2)) vs = (entsX agg wd ks vs).modify j fun e => { e with key }
 | [], vs, j => by cases j <;> rfl
 | x :: r, vs, 0 => rfl
 | x :: r, vs, j + 1 => by simp only [List.modify_succ_cons, entsX]; rw [entsX_key agg wd key r]
theorem insX_ok (m : Mem fr own w pl) (hl : LkOk a w pl own p lk) (hp : Eng.Holds a p) {T : TypeId} {y k x : Operand} (hop : o.op = .insert T y k x ∨ o.op = .mapUpdate T y k x) (hd : o.dst = none) {ob : Own} {e : Eff} (h : insX P lk ob T y k x = some e) (hob : ∀ i ∈ e.touch, own i = ob i) : Does P fr own a w pl o e := by
  unfold insX at h
  split at h
  · rename_i i key s hy hk hx
    split at h
    · rename_i agg wd ks next q cells kt et hbx hu
      split at h
      · rename_i kd cs hkt hc
        split at h
        · rename_i hchk
          simp only [Bool.and_eq_true, Bool.or_eq_true, beq_t] at hchk
          obtain ⟨⟨hokk, hlen⟩, hwd⟩ := hchk
          have hw : agg = false → wd = 1 := fun ha => by rcases hwd with h | h; · rw [ha] at h; cases h
                                                         · exact h
          obtain ⟨uv, huv, hul, hcu⟩ := cellsX_ok hw hc (hl [] x s hx holds_nil hp)
          obtain ⟨_, hv⟩ := hl [] y _ hy holds_nil hp
          have hkv := exO_eq hl hp holds_nil hk
          split at h
          · rename_i hfn
            simp only [Option.some.injEq] at h
            subst h
            have hi : own i = some (.box ⟨.mapx agg wd ks next, q⟩ cells) := by rw [hob i (by simp), hbx]
            obtain ⟨vs, hb, hcells⟩ := m.obj i _ hi
            have hb : w.heap[pl.blk i]? = some (.map (entsX agg wd ks vs).toArray next) := hb
            have hvl : vs.length = ks.length * wd := by rw [← hcells.1]; exact hlen
            have hf := (findX (agg := agg) (wd := wd) (kd := kd) (k := key) ks vs [] 0).2 hfn
            intro K Q hK
            obtain ⟨m', L⟩ := m.turnObjO (ty' := ⟨.mapx agg wd (ks ++ [(key, next)]) (next + 1), q⟩) (cells' := cells ++ cs) (vs' := vs ++ uv) hi rfl (hcells.append hcu) (x := .map ((entsX agg wd ks vs).toArray.push { key, val := valX agg wd uv, born := next }) (next + 1)) (by
              show _ = _
              rw [entsX_app agg wd ks vs uv key next hvl hw hul]
              simp)
            have hgo : (getObj (pl.blk i)).run P w = .ok (.map (entsX agg wd ks vs).toArray next) w := by simp [getObj, Sem.run, hb]
            have hso : ∀ ob2, (setObj (pl.blk i) ob2).run P w = .ok () { w with heap := w.heap.setIfInBounds (pl.blk i) ob2 } := fun ob2 => by simp [setObj, Sem.run, hb]
            have hmu : (Instr.mapUpdate T (.map (some (pl.blk i))) key (valX agg wd uv)).run P w = .ok () { w with heap := w.heap.setIfInBounds (pl.blk i) (.map ((entsX agg wd ks vs).toArray.push { key, val := valX agg wd uv, born := next }) (next + 1)) } := by
              unfold Instr.mapUpdate
              simp only [Sem.run_bind, run_underlying hu, Result.andThen_ok, hgo, run_checkKey hkt hokk, run_findKey hkt hf]
              rw [hso]
            have hrun : (execOp a.eval o).run P w = .ok .skip { w with heap := w.heap.setIfInBounds (pl.blk i) (.map ((entsX agg wd ks vs).toArray.push { key, val := valX agg wd uv, born := next }) (next + 1)) } := by
              unfold execOp
              rcases hop with hop | hop
              · simp only [hop, hv, hkv, huv, Sem.run_bind, hmu, Result.andThen_ok, Sem.run_pure]
              · simp only [hop, hv, hkv, huv, Sem.run_bind, hmu, Result.andThen_ok, Sem.run_pure]
            unfold Oper.wp
            rw [hrun, Oper.upon_skip]
            exact hK undef _ pl m' L (.inl hd)
          · rename_i j v0 hfn
            split at h
            · rename_i key0 b0 hks
              split at h
              · rename_i hsb
                simp only [Option.some.injEq] at h
                subst h
                have hi : own i = some (.box ⟨.mapx agg wd ks next, q⟩ cells) := by rw [hob i (by simp), hbx]
                obtain ⟨vs, hb, hcells⟩ := m.obj i _ hi
                have hb : w.heap[pl.blk i]? = some (.map (entsX agg wd ks vs).toArray next) := hb
                have hvl : vs.length = ks.length * wd := by rw [← hcells.1]; exact hlen
                obtain ⟨mm, hjm, hlt, hf⟩ := (findX (agg := agg) (wd := wd) (kd := kd) (k := key) ks vs [] 0).1 j v0 hfn
                have : mm = j := by omega
                subst this
                have hek : ((entsX agg wd ks vs).toArray[mm]?).map (·.key) = some key0 := by
                  have : ∀ (ks : List (Value × Nat)) (vs : List Value) (j : Nat) (x : Value × Nat), ks[j]? = some x → ((entsX agg wd ks vs)[j]?).map (·.key) = some x.1 := by
                    intro ks
                    induction ks with
                    | nil => intro vs j x h; simp at h
                    | cons y r ih =>
                      intro vs j x h
                      cases j with
                      | zero => simp only [List.getElem?_cons_zero, Option.some.injEq] at h; subst h; rfl
                      | succ j => simpa [entsX] using ih (vs.drop wd) j x (by simpa using h)
                  simpa using this ks vs mm _ hks
                intro K Q hK
                obtain ⟨m', L⟩ := m.turnObjO (ty' := ⟨.mapx agg wd (ks.modify mm fun y => (key, y.2)) next, q⟩) (cells' := spliceC cells (mm * wd) cs) (vs' := spliceC vs (mm * wd) uv) hi rfl (spliceC_ok hcells hcu _) (x := .map ((entsX agg wd ks vs).toArray.modify mm fun e => { e with key, val := valX agg wd uv }) next) (by
                  show _ = _
                  rw [entsX_key, entsX_set agg wd ks vs uv mm hvl hw hul hlt]
                  congr 2
                  apply Array.ext'
                  simp only [Array.toList_modify]
                  apply List.ext_getElem?
                  intro z
                  simp only [List.getElem?_modify]
                  by_cases hz : mm = z
                  · subst hz
                    cases (entsX agg wd ks vs)[mm]? <;> simp
                  · simp [hz])
                have hgo : (getObj (pl.blk i)).run P w = .ok (.map (entsX agg wd ks vs).toArray next) w := by simp [getObj, Sem.run, hb]
                have hso : ∀ ob2, (setObj (pl.blk i) ob2).run P w = .ok () { w with heap := w.heap.setIfInBounds (pl.blk i) ob2 } := fun ob2 => by simp [setObj, Sem.run, hb]
                have hks2 : (Instr.keyThatStays key0 key).run P w = .ok key w := by simp [Instr.keyThatStays, hsb]
                have hmu : (Instr.mapUpdate T (.map (some (pl.blk i))) key (valX agg wd uv)).run P w = .ok () { w with heap := w.heap.setIfInBounds (pl.blk i) (.map ((entsX agg wd ks vs).toArray.modify mm fun e => { e with key, val := valX agg wd uv }) next) } := by
                  unfold Instr.mapUpdate
                  simp only [Sem.run_bind, run_underlying hu, Result.andThen_ok, hgo, run_checkKey hkt hokk, run_findKey hkt hf, hek, Option.getD_some, hks2]
                  rw [hso]
                have hrun : (execOp a.eval o).run P w = .ok .skip { w with heap := w.heap.setIfInBounds (pl.blk i) (.map ((entsX agg wd ks vs).toArray.modify mm fun e => { e with key, val := valX agg wd uv }) next) } := by
                  unfold execOp
                  rcases hop with hop | hop
                  · simp only [hop, hv, hkv, huv, Sem.run_bind, hmu, Result.andThen_ok, Sem.run_pure]
                  · simp only [hop, hv, hkv, huv, Sem.run_bind, hmu, Result.andThen_ok, Sem.run_pure]
                unfold Oper.wp
                rw [hrun, Oper.upon_skip]
                exact hK undef _ pl m' L (.inl hd)
              · cases h
            · cases h
          · cases h
        · cases h
      · cases h
    · cases h
  · cases h
def tupX (agg : Bool) (cs : List C) (b : Bool) : SV := .tup [(agg, cs), (false, [.d (.v (.bool b))])]
def lkpX (P : Program) (lk : Lk) (ob : Own) (T : TypeId) (m k : Operand) (ok : Bool) : Option Eff :=
 match lk [] m, exO lk [] k with
 | some (.c (.mp i)), some key => match ob i, P.underlying T with
  | some (.box ⟨.mapx agg wd ks next, q⟩ cells), some (.map kt et) => match P.underlying kt with
   | some kd => if okKey kd key && Nat.beq cells.length (ks.length * wd) && (agg || Nat.beq wd 1) then match Instr.findNow kd key (entsX agg wd ks []) 0 with
     | some (some (j, _)) => match svX agg ((cells.drop (j * wd)).take wd) with
      | some s => some ⟨if ok then tupX agg ((cells.drop (j * wd)).take wd) true else s, [], [i], []⟩
      | none => none
     | some none => match P.info? et with
      | some ti => match ti.zero with
       | some z => match ofV z with
        | some s => match s with
         | .c c => some ⟨if ok then tupX false [c] false else s, [], [i], []⟩
         | .agg cs => some ⟨if ok then tupX true cs false else s, [], [i], []⟩
         | .tup _ => none
        | none => none
       | none => none
      | none => none
     | none => none
    else none
   | none => none
  | _, _ => none
 | _, _ => none
theorem run_lookupX {T kt et : TypeId} {kd : TypeDesc} {key : Value} {r cl : Nat} {es : List MapEntry} {ok : Bool} {v : Value} {b : Bool} (hu : P.underlying T = some (.map kt et)) (hkt : P.underlying kt = some kd) (hk : okKey kd key = true) (hb : w.heap[r]? = some (.map es.toArray cl))
  (hf : (b = true ∧ ∃ j, Instr.findNow kd key es 0 = some (some (j, v))) ∨ (b = false ∧ Instr.findNow kd key es 0 = some none ∧ ∃ ti, P.info? et = some ti ∧ ti.zero = some v)) :
  (Instr.lookup T (.map (some r)) key ok).run P w = .ok (if ok then .tuple #[v, .bool b] else v) w := by
 unfold Instr.lookup
 have hgo : (getObj r).run P w = .ok (.map es.toArray cl) w := by simp [getObj, Sem.run, hb]
 rcases hf with ⟨rfl, j, hj⟩ | ⟨rfl, hn, ti, hti, hz⟩
 ·simp only [Sem.run_bind, run_underlying hu, Result.andThen_ok, hgo, run_checkKey hkt hk, run_findKey hkt hj, Sem.run_pure]
 ·have hzv : (zeroValue et).run P w = .ok v w := by simp [zeroValue, typeInfo, hti, hz]
  simp only [Sem.run_bind, run_underlying hu, Result.andThen_ok, hgo, run_checkKey hkt hk, run_findKey hkt hn, Sem.run_pure, hzv]
theorem part_bool {b : Bool} : PartOk w pl own (false, [.d (.v (.bool b))]) (.bool b) := Rd.v _ rfl
theorem tupX_ok {agg : Bool} {cs : List C} {b : Bool} {v : Value} (h : PartOk w pl own (agg, cs) v) : SvOk w pl own (tupX agg cs b) (.tuple #[v, .bool b]) := ⟨[v, .bool b], rfl, All2.cons h (All2.one part_bool)⟩
theorem lkpX_ok (m : Mem fr own w pl) (hl : LkOk a w pl own p lk) (hp : Eng.Holds a p) {T : TypeId} {y k : Operand} {ok : Bool} (hop : o.op = .lookup T y k ok) {ob : Own} {e : Eff} (h : lkpX P lk ob T y k ok = some e) (hob : ∀ i ∈ e.touch, own i = ob i) : Does P fr own a w pl o e := by
  unfold lkpX at h
  split at h
  · rename_i i key hy hk
    split at h
    · rename_i agg wd ks next q cells kt et hbx hu
      split at h
      · rename_i kd hkt
        split at h
        · rename_i hchk
          simp only [Bool.and_eq_true, Bool.or_eq_true, beq_t] at hchk
          obtain ⟨⟨hokk, hlen⟩, hwd⟩ := hchk
          have hw : agg = false → wd = 1 := fun ha => by rcases hwd with h | h; · rw [ha] at h; cases h
                                                         · exact h
          obtain ⟨_, hv⟩ := hl [] y _ hy holds_nil hp
          have hkv := exO_eq hl hp holds_nil hk
          split at h
          · rename_i j v0 hfn
            split at h
            · rename_i s hs
              simp only [Option.some.injEq] at h
              subst h
              have hi : own i = some (.box ⟨.mapx agg wd ks next, q⟩ cells) := by rw [hob i (by simp), hbx]
              obtain ⟨vs, hb, hcells⟩ := m.obj i _ hi
              have hb : w.heap[pl.blk i]? = some (.map (entsX agg wd ks vs).toArray next) := hb
              obtain ⟨mm, hjm, hlt, hf⟩ := (findX (agg := agg) (wd := wd) (kd := kd) (k := key) ks vs [] 0).1 j v0 hfn
              have : mm = j := by omega
              subst this
              have hvl : vs.length = ks.length * wd := by rw [← hcells.1]; exact hlen
              have hcut : All2 (COk w pl own) ((cells.drop (mm * wd)).take wd) ((vs.drop (mm * wd)).take wd) := (hcells.drop _).take _
              have hpart : PartOk w pl own (agg, (cells.drop (mm * wd)).take wd) (valX agg wd (vs.drop (mm * wd))) := by
                cases agg with
                | true => exact ⟨_, by simp [valX], hcut⟩
                | false =>
                  have := hw rfl
                  subst this
                  simp only [svX, Bool.false_eq_true, if_false] at hs
                  split at hs
                  · rename_i c hc1
                    rw [hc1] at hcut ⊢
                    obtain ⟨u, t, hu1, hcu, ht⟩ := hcut.uncons
                    have : (vs.drop (mm * 1)).headD undef = u := by
                      cases hvd : vs.drop (mm * 1) with
                      | nil => rw [hvd] at hu1; simp at hu1
                      | cons z zs => rw [hvd] at hu1; simp at hu1; simp [hu1.1]
                    simp only [valX, Bool.false_eq_true, if_false, this]
                    exact hcu
                  · cases hs
              have hsv : SvOk w pl own s (valX agg wd (vs.drop (mm * wd))) := by
                unfold svX at hs
                cases agg with
                | true => simp only [if_true, Option.some.injEq] at hs; subst hs; exact hpart
                | false =>
                  simp only [Bool.false_eq_true, if_false] at hs
                  split at hs
                  · rename_i c hc1
                    simp only [Option.some.injEq] at hs; subst hs
                    rw [hc1] at hpart
                    exact hpart
                  · cases hs
              have hrun := run_lookupX (w := w) (ok := ok) hu hkt hokk hb (.inl ⟨rfl, _, hf⟩)
              refine does_value (v := if ok then .tuple #[valX agg wd (vs.drop (mm * wd)), .bool true] else valX agg wd (vs.drop (mm * wd))) m ?_ ?_
              · unfold execOp
                simp only [hop, hv, hkv, Sem.run_bind, hrun, Result.andThen_ok, Sem.run_pure]
                done
              · cases ok with
                | true => exact tupX_ok hpart
                | false => exact hsv
            · cases h
          · rename_i hfn
            split at h
            · rename_i ti hti
              split at h
              · rename_i z hz
                split at h
                · rename_i s hs
                  have fin : ∀ (s' : SV) (tp : SV), e = ⟨if ok then tp else s', [], [i], []⟩ → SvOk w pl own s' z → SvOk w pl own tp (.tuple #[z, .bool false]) → Does P fr own a w pl o e := by
                    rintro s' tp rfl h1 h2
                    have hi : own i = some (.box ⟨.mapx agg wd ks next, q⟩ cells) := by rw [hob i (by simp), hbx]
                    obtain ⟨vs, hb, hcells⟩ := m.obj i _ hi
                    have hb : w.heap[pl.blk i]? = some (.map (entsX agg wd ks vs).toArray next) := hb
                    have hf := (findX (agg := agg) (wd := wd) (kd := kd) (k := key) ks vs [] 0).2 hfn
                    have hrun := run_lookupX (w := w) (ok := ok) hu hkt hokk hb (.inr ⟨rfl, hf, ti, hti, hz⟩)
                    refine does_value (v := if ok then .tuple #[z, .bool false] else z) m ?_ ?_
                    · unfold execOp
                      simp only [hop, hv, hkv, Sem.run_bind, hrun, Result.andThen_ok, Sem.run_pure]
                      done
                    · cases ok with
                      | true => exact h2
                      | false => exact h1
                  have hsv : SvOk w pl own s z := ofV_ok hs
                  split at h
                  · rename_i c
                    simp only [Option.some.injEq] at h
                    exact fin _ _ h.symm hsv (tupX_ok (agg := false) hsv)
                  · rename_i cs'
                    simp only [Option.some.injEq] at h
                    exact fin _ _ h.symm hsv (tupX_ok (agg := true) hsv)
                  · cases h
                · cases h
              · cases h
            · cases h
          · cases h
        · cases h
      · cases h
    · cases h
  · cases h
def lkpN (P : Program) (lk : Lk) (T : TypeId) (m k : Operand) (ok : Bool) : Option Eff :=
 match lk [] m, exO lk [] k with
 | some (.c (.d (.v (.map none)))), some key => match P.underlying T with
  | some (.map kt et) => match P.underlying kt, P.info? et with
   | some kd, some ti => bif okKey kd key then (match ti.zero with
    | some z => match ofV z with
     | some s => match s with
      | .c c => some ⟨if ok then tupX false [c] false else s, [], [], []⟩
      | .agg cs => some ⟨if ok then tupX true cs false else s, [], [], []⟩
      | .tup _ => none
     | none => none
    | none => none) else none
   | _, _ => none
  | _ => none
 | _, _ => none
theorem lkpN_ok (m : Mem fr own w pl) (hl : LkOk a w pl own p lk) (hp : Eng.Holds a p) {T : TypeId} {y k : Operand} {ok : Bool} (hop : o.op = .lookup T y k ok) {e : Eff} (h : lkpN P lk T y k ok = some e) : Does P fr own a w pl o e := by
 unfold lkpN at h
 split at h
 ·rename_i key hy hk
  split at h
  ·rename_i kt et hu
   split at h
   ·rename_i kd ti hkt hti
    cases hokk : okKey kd key with
    | false => rw [hokk] at h; cases h
    | true =>
     rw [hokk] at h
     simp only [cond_true] at h
     have hv : a.eval y = .map none := Rd.exact (hl [] y _ hy holds_nil hp)
     have hkv := exO_eq hl hp holds_nil hk
     split at h
     ·rename_i z hz
      split at h
      ·rename_i s hs
       have hzv : (zeroValue et).run P w = .ok z w := by simp [zeroValue, typeInfo, hti, hz]
       have hrun : (Instr.lookup T (.map none) key ok).run P w = .ok (if ok then .tuple #[z, .bool false] else z) w := by
        unfold Instr.lookup
        have hfk : (Instr.findKey kt key []).run P w = .ok none w := run_findKey hkt rfl
        simp only [Sem.run_bind, run_underlying hu, Result.andThen_ok, run_checkKey hkt hokk, hfk, Sem.run_pure, hzv]
       have fin : ∀ (s' : SV) (tp : SV), e = ⟨if ok then tp else s', [], [], []⟩ → SvOk w pl own s' z → SvOk w pl own tp (.tuple #[z, .bool false]) → Does P fr own a w pl o e := by
        rintro s' tp rfl h1 h2
        refine does_value (v := if ok then .tuple #[z, .bool false] else z) m ?_ ?_
        ·unfold execOp
         simp only [hop, hv, hkv, Sem.run_bind, hrun, Result.andThen_ok, Sem.run_pure]
         done
        ·cases ok with
         | true => exact h2
         | false => exact h1
       have hsv : SvOk w pl own s z := ofV_ok hs
       split at h
       ·rename_i c
        simp only [Option.some.injEq] at h
        exact fin _ _ h.symm hsv (tupX_ok (agg := false) hsv)
       ·rename_i cs'
        simp only [Option.some.injEq] at h
        exact fin _ _ h.symm hsv (tupX_ok (agg := true) hsv)
       ·cases h
      ·cases h
     ·cases h
   ·cases h
  ·cases h
 ·cases h
def opW (P : Program) (lk : Lk) (ob : Own) (o : Oper) (nid : Nat) : Option Eff := match o.op with
 | .makeMap T none => mmX P ob T nid
 | .insert T m k x => match o.dst with
  | none => insX P lk ob T m k x
  | some _ => none
 | .mapUpdate T m k x => match o.dst with
  | none => insX P lk ob T m k x
  | some _ => none
 | .lookup T m k ok => match lkpX P lk ob T m k ok with
  | some e => some e
  | none => lkpN P lk T m k ok
 | .load t x => loadG P lk ob t x
 | .store ty x v => match o.dst with
  | none => storeG P lk ob ty x v
  | some _ => none
 | .buildSlice T len parts => bslG P lk ob T len parts nid
 | .call { callee := .builtin .append, args := ⟨[s, x]⟩, argTypes := ⟨[T, T']⟩ } => bif Nat.beq T T' then appG P lk ob T s x nid else none
 | _ => none
theorem opW_ok (m : Mem fr own w pl) (hl : LkOk a w pl own p lk) (hp : Eng.Holds a p) {ob : Own} {nid : Nat} {e : Eff} (h : opW P lk ob o nid = some e) (hob : ∀ i ∈ e.touch, own i = ob i) : Does P fr own a w pl o e := by
 unfold opW at h
 split at h
 ·rename_i hop; exact mmX_ok m hop h hob
 ·rename_i hop
  split at h
  ·rename_i hd; exact insX_ok m hl hp (.inl hop) hd h hob
  ·cases h
 ·rename_i hop
  split at h
  ·rename_i hd; exact insX_ok m hl hp (.inr hop) hd h hob
  ·cases h
 ·rename_i hop
  split at h
  ·rename_i e' he
   simp only [Option.some.injEq] at h
   subst h
   exact lkpX_ok m hl hp hop he hob
  ·exact lkpN_ok m hl hp hop h
 ·rename_i hop; exact loadG_ok m hl hp hop h hob
 ·rename_i hop
  split at h
  ·rename_i hd; exact storeG_ok m hl hp hop hd h hob
  ·cases h
 ·rename_i hop; exact bslG_ok m hl hp hop h hob
 ·rename_i s x T T' hop
  cases hT : Nat.beq T T' with
  | false => rw [hT] at h; cases h
  | true =>
   rw [hT] at h
   have := Nat.eq_of_beq_eq_true hT
   subst this
   exact appG_ok m hl hp hop h hob
 ·cases h
end
end Go.V
namespace Go.V
open Go.RowKit
section
variable {P : Program} {fr : Fr} {own own' : Own} {a : Act} {w w' : World} {pl pl' : Pl} {o : Oper} {p : Path} {lk : Lk}
theorem Mem.freeze (h : Mem fr own w pl) {i k : Nat} {e : TypeId} {sz : Nat} {es : List (List D)} (hi : own i = some (.arr k ⟨e, []⟩ sz es)) (h100 : 100 ≤ i) :
  ∃ pl', Mem fr (upd own i (.arr (k + 1) ⟨e, []⟩ sz [])) w pl' ∧ Later w pl own w pl' (upd own i (.arr (k + 1) ⟨e, []⟩ sz [])) ∧
   Rd w (Sh pl' (upd own i (.arr (k + 1) ⟨e, []⟩ sz []))) (.sl sz es) (.slice (pl.sl i).1 es.length (pl.sl i).2) := by
 obtain ⟨xs, hxs, hr, hs⟩ := h.obj i _ hi
 have hr : All2 (Rd w (Sh pl own)) es.flatten xs := hr
 have hb0 : blkOf pl own i = (pl.sl i).1.map (·.block) := by unfold blkOf; rw [hi]
 have := Mem.set (own' := upd own i (.arr (k + 1) ⟨e, []⟩ sz [])) (pl' := ⟨pl.S, pl.blk, setN pl.sl i (none, 0)⟩) (w' := w) h i (.arr (k + 1) ⟨e, []⟩ sz []) rfl rfl (fun j hj => ⟨rfl, setN_ne _ _ hj⟩) (fun _ _ _ => rfl)
  (fun _ _ => ⟨[], by simp only [setN_same]; exact ⟨by simp, .inl ⟨rfl, rfl⟩⟩, AllO.of All2.nil, by simp⟩)
  (fun b hb => by simp [blkOf, upd_same, setN_same] at hb)
  (fun ty cs h => by rw [hi] at h; cases h)
  (fun k2 e2 sz2 es2 h => by
   rw [hi] at h
   injection h with h
   injection h with h1 h2 h3 h4
   subst h1
   exact ⟨k + 1, _, _, _, rfl, by omega, fun hk => by omega⟩) rfl rfl rfl (Nat.le_refl _) (fun _ _ _ he => by cases he)
 obtain ⟨m', L⟩ := this
 refine ⟨_, m', L, ?_⟩
 rcases hxs.2 with ⟨hA, h0⟩ | ⟨g, cap, cur, hA, hB, hg, hn, hc, hsz, htk⟩
 ·injection hA with h1 h2 h3
  have : es = [] := List.eq_nil_of_length_eq_zero h0
  subst this
  rw [h1, h3]
  exact .nil sz
 ·injection hA with h1 h2 h3
  rw [h1, h3]
  have hbg : blkOf pl own i = some g := by rw [hb0, h1]; rfl
  have hSg : pl.S g := (h.hS g).2 (.inr (by
   rcases h.base i g hbg with hh | hh
   ·exact hh
   ·have := h.frOk.few i g hh; omega))
  have hget : ∀ (i j : Nat) (ds : List D) (d : D), es[i]? = some ds → ds[j]? = some d → ∃ x, xs[i * sz + j]? = some x ∧ Rd w (Sh pl own) d x := fun i j ds d hi hj => hr.get (flatten_get hs hi hj)
  have hus : ∀ {q : Nat} {x : Value}, xs[q]? = some x → xs.getD q undef = x := fun hx => by rw [List.getD_eq_getElem?_getD, hx]; rfl
  refine Rd.sl (off := 0) (fun i j => xs.getD (i * sz + j) undef) ⟨hSg, fun j hj => ?_⟩ hg hn (by omega) hs (fun i' j ds d hi' hj => ?_) (fun i' j ds d hi' hj => ?_)
  ·by_cases hji : j = i
   ·subst hji
    simp [blkOf, upd_same, setN_same] at hj
   ·rw [blkOf_congr (own' := upd own i (.arr (k + 1) ⟨e, []⟩ sz [])) (own := own) (pl' := ⟨pl.S, pl.blk, setN pl.sl i (none, 0)⟩) (pl := pl) (upd_ne _ _ hji) rfl (setN_ne _ _ hji)] at hj
    exact hji (h.inj j i g hj hbg)
  ·obtain ⟨x, hx, _⟩ := hget i' j ds d hi' hj
   rw [hus hx]
   rw [← htk, List.getElem?_take] at hx
   split at hx
   ·simpa using hx
   ·cases hx
  ·obtain ⟨x, hx, hrx⟩ := hget i' j ds d hi' hj
   rw [hus hx]
   exact L.rd hrx
def frC (i k sz : Nat) (es : List (List D)) : C → C
 | .ar j k' => bif Nat.beq j i && Nat.beq k' k then .d (.sl sz es) else .ar j k'
 | c => c
def lkF (lk : Lk) (i k sz : Nat) (es : List (List D)) : Lk := fun q x => match lk q x with
 | some (.c c) => some (.c (frC i k sz es c))
 | some (.agg xs) => some (.agg (xs.map (frC i k sz es)))
 | r => r
def frzOne (lk : Lk) (own : Tr Ob) (i : Nat) : Option (Lk × Tr Ob × (Nat × Ob)) := match own.get i with
 | some (.arr k ⟨e, []⟩ sz es) => bif Nat.ble 100 i then (match setL own [(i, .arr (k + 1) ⟨e, []⟩ sz [])] with
  | some own' => some (lkF lk i k sz es, own', (i, .arr (k + 1) ⟨e, []⟩ sz []))
  | none => none) else none
 | _ => none
def frzAll : List Nat → Lk → Tr Ob → Option (Lk × Tr Ob × List (Nat × Ob))
 | [], lk, own => some (lk, own, [])
 | i :: r, lk, own => match frzOne lk own i with
  | some (lk1, own1, u) => match frzAll r lk1 own1 with
   | some (lk2, own2, us) => some (lk2, own2, u :: us)
   | none => none
  | none => none
def arsC : List C → List Nat → List Nat
 | [], a => a
 | .ar i _ :: r, a => bif (arsC r a).contains i then arsC r a else i :: arsC r a
 | _ :: r, a => arsC r a
def arsOf (lk : Lk) : List Operand → List Nat
 | [] => []
 | x :: r => match lk [] x with
  | some (.c c) => arsC [c] (arsOf lk r)
  | some (.agg xs) => arsC xs (arsOf lk r)
  | _ => arsOf lk r
theorem All2.mapL {α β γ : Type} {R : α → β → Prop} {S : γ → β → Prop} {f : α → γ} {xs : List α} {ys : List β} (h : All2 R xs ys) (hf : ∀ x y, R x y → S (f x) y) : All2 S (xs.map f) ys := by
 refine ⟨by simp [h.1], fun j x y hx hy => ?_⟩
 rw [List.getElem?_map] at hx
 cases hj : xs[j]? with
 | none => rw [hj] at hx; cases hx
 | some z =>
  rw [hj] at hx
  simp only [Option.map_some, Option.some.injEq] at hx
  subst hx
  exact hf _ _ (h.2 j z y hj hy)
theorem frzOne_ok {T T1 : Tr Ob} {i : Nat} {lk1 : Lk} {u : Nat × Ob} (h : frzOne lk T i = some (lk1, T1, u)) : u.1 = i ∧ T1.get = upd T.get i u.2 ∧
  ∀ {fr : Fr} {own0 : Own} {a : Act} {w : World} {pl : Pl} {p : Path}, own0 i = T.get i → Mem fr own0 w pl → LkOk a w pl own0 p lk → ∃ pl', Mem fr (upd own0 i u.2) w pl' ∧ Later w pl own0 w pl' (upd own0 i u.2) ∧ LkOk a w pl' (upd own0 i u.2) p lk1 := by
 unfold frzOne at h
 split at h
 ·rename_i k e sz es hi
  cases h100 : Nat.ble 100 i with
  | false => rw [h100] at h; cases h
  | true =>
   rw [h100] at h
   simp only [cond_true] at h
   split at h
   ·rename_i T' hs
    simp only [Option.some.injEq, Prod.mk.injEq] at h
    obtain ⟨rfl, rfl, rfl⟩ := h
    refine ⟨rfl, setL_get hs, fun {fr own0 a w pl p} h0 m hl => ?_⟩
    obtain ⟨pl', m', L, hr⟩ := m.freeze (i := i) (by rw [h0]; exact hi) (Nat.le_of_ble_eq_true h100)
    refine ⟨pl', m', L, fun q x sv hx hq hp => ?_⟩
    have key : ∀ {c : C} {v : Value}, COk w pl own0 c v → COk w pl' (upd own0 i (.arr (k + 1) ⟨e, []⟩ sz [])) (frC i k sz es c) v := by
     intro c v hv
     cases c with
     | ar j k' =>
      simp only [frC]
      cases hb : (Nat.beq j i && Nat.beq k' k) with
      | false => exact L.c hv
      | true =>
       simp only [Bool.and_eq_true] at hb
       have e1 := Nat.eq_of_beq_eq_true hb.1
       have e2 := Nat.eq_of_beq_eq_true hb.2
       subst e1; subst e2
       rw [ar_cur (w := w) hv (by rw [h0]; exact hi)]
       exact hr
     | _ => exact L.c hv
    unfold lkF at hx
    split at hx
    ·rename_i c hj
     simp only [Option.some.injEq] at hx
     subst hx
     exact key (hl q x _ hj hq hp)
    ·rename_i xs hj
     simp only [Option.some.injEq] at hx
     subst hx
     obtain ⟨vs, hv, h2⟩ := hl q x _ hj hq hp
     exact ⟨vs, hv, h2.mapL fun _ _ h => key h⟩
    ·exact L.sv (hl q x _ hx hq hp)
   ·cases h
 ·cases h
theorem frzAll_ok : ∀ {l : List Nat} {lk lk1 : Lk} {T T1 : Tr Ob} {us : List (Nat × Ob)}, frzAll l lk T = some (lk1, T1, us) → keys us = l ∧ T1.get = updL T.get us ∧
  ∀ {fr : Fr} {own0 : Own} {a : Act} {w : World} {pl : Pl} {p : Path}, (∀ i ∈ l, own0 i = T.get i) → Mem fr own0 w pl → LkOk a w pl own0 p lk → ∃ pl', Mem fr (updL own0 us) w pl' ∧ Later w pl own0 w pl' (updL own0 us) ∧ LkOk a w pl' (updL own0 us) p lk1
 | [], lk, lk1, T, T1, us, h => by
  simp only [frzAll, Option.some.injEq, Prod.mk.injEq] at h
  obtain ⟨rfl, rfl, rfl⟩ := h
  exact ⟨rfl, rfl, fun {fr own0 a w pl p} _ m hl => ⟨pl, m, Later.refl _ _ _, hl⟩⟩
 | i :: r, lk, lk1, T, T1, us, h => by
  simp only [frzAll] at h
  split at h
  ·rename_i lkA TA u h1
   split at h
   ·rename_i lkB TB us' h2
    simp only [Option.some.injEq, Prod.mk.injEq] at h
    obtain ⟨rfl, rfl, rfl⟩ := h
    obtain ⟨a1, a2, a3⟩ := frzOne_ok h1
    obtain ⟨b1, b2, b3⟩ := frzAll_ok h2
    obtain ⟨ui, uo⟩ := u
    simp only at a1
    subst a1
    refine ⟨by simp only [keys, List.map_cons]; rw [← b1]; rfl, by rw [b2, a2]; rfl, fun {fr own0 a w pl p} h0 m hl => ?_⟩
    obtain ⟨pl1, m1, L1, hl1⟩ := a3 (h0 ui (by simp)) m hl
    obtain ⟨pl2, m2, L2, hl2⟩ := b3 (fun j hj => by
     rw [a2]
     by_cases hji : j = ui
     ·subst hji; rw [upd_same, upd_same]
     ·rw [upd_ne _ _ hji, upd_ne _ _ hji]; exact h0 j (by simp [hj])) m1 hl1
    exact ⟨pl2, m2, L1.trans L2, hl2⟩
   ·cases h
  ·cases h
theorem does_turn {v : Value} {s : SV} {i : Nat} {ob : Ob} {t : List Nat} {c : List Obl} (m : Mem fr (upd own i ob) w pl') (L : Later w pl own w pl' (upd own i ob)) (hr : (execOp a.eval o).run P w = .ok (.value v) w) (hs : SvOk w pl' (upd own i ob) s v) : Does P fr own a w pl o ⟨s, [(i, ob)], t, c⟩ := by
 intro K Q hK
 unfold Oper.wp
 rw [hr, Oper.upon_value]
 exact hK v w pl' m L (.inr hs)
def cutE (P : Program) (lk : Lk) (ob : Own) (t : TypeId) (x : Operand) (lo hi : Option Operand) : Option Eff :=
 match P.underlying t, lk [] x with
 | some (.slice e), some (.c (.ar i k)) => match ob i, P.info? e with
  | some (.arr k' e' sz es), some ti => bif Nat.beq k' k && Nat.beq ti.size sz then (match lo with
   | none => (match bndE lk hi es.length with
    | some (_, h) => bif decide (0 ≤ h ∧ h ≤ (es.length : Int)) && !mkd e'.ov then some ⟨.c (.ar i (k' + 1)), [(i, .arr (k' + 1) e' sz (es.take h.toNat))], [i], []⟩ else none
    | none => none)
   | some l0 => (match bndE lk (some l0) 0, bndE lk hi es.length with
    | some (_, l), some (_, h) => bif decide (0 ≤ l ∧ l ≤ h ∧ h ≤ (es.length : Int)) && !mkd e'.ov then some ⟨.c (.av i k' l.toNat (h.toNat - l.toNat)), [], [i], []⟩ else none
    | _, _ => none)) else none
  | _, _ => none
 | some (.slice e), some (.c (.d (.v (.slice none 0 0)))) => match bndE lk lo 0, bndE lk hi ((0 : Nat) : Int), P.info? e with
  | some (_, l), some (_, h), some ti => bif decide (l = 0 ∧ h = 0) then some ⟨.c (.d (.v (.slice none 0 0))), [], [], []⟩ else none
  | _, _, _ => none
 | _, _ => none
theorem run_cut {t el : TypeId} {x : Operand} {lo hi : Option Operand} {ti : TypeInfo} {A : Option Addr} {n c : Nat} {l h : Int} {v1 v2 : Option Value} (hop : o.op = .slice t x lo hi none) (hu : P.underlying t = some (.slice el)) (hti : P.info? el = some ti) (hx : a.eval x = .slice A n c)
  (hl : LkOk a w pl own p lk) (hp : Eng.Holds a p) (hb1 : bndE lk lo 0 = some (v1, l)) (hb2 : bndE lk hi (n : Int) = some (v2, h)) (hb : 0 ≤ l ∧ l ≤ h ∧ h ≤ (c : Int)) :
  (execOp a.eval o).run P w = .ok (.value (.slice (if c = l.toNat then A else A.map (·.add (l.toNat * ti.size))) (h.toNat - l.toNat) (c - l.toNat))) w := by
 obtain ⟨e1, k1⟩ := bndE_spec hl hp hb1
 obtain ⟨e2, k2⟩ := bndE_spec hl hp hb2
 unfold execOp
 simp only [hop, hx, e1, e2, Option.map_none]
 have := run_bounds (P := P) (w := w) (isS := true) (len := n) (cap := c) k1 k2 hb
 simp [Instr.sliceAt, run_underlying hu, Instr.slice, this, sizeOf, typeInfo, hti]
theorem ownsQ.take {B : Nat} {e : TypeId} {sz n c : Nat} {A : Option Addr} {xs : List Value} (h : ownsQ false w B e sz (.slice A n c) n xs) {k : Nat} (hk : k ≤ n) : ownsQ false w B e sz (.slice A k c) k (xs.take (k * sz)) := by
 obtain ⟨h1, h2⟩ := h
 have hle : k * sz ≤ n * sz := Nat.mul_le_mul_right _ hk
 refine ⟨by rw [List.length_take, h1]; omega, ?_⟩
 rcases h2 with ⟨hv, h0⟩ | ⟨g, cap, cur, hv, hB, hg, hn, hc, hs, ht⟩
 ·injection hv with e1 e2 e3
  obtain rfl : k = 0 := by omega
  exact .inl ⟨by rw [e1, e3], rfl⟩
 ·injection hv with e1 e2 e3
  exact .inr ⟨g, cap, cur, by rw [e1, e3], hB, hg, by omega, hc, hs, by rw [← ht, List.take_take, Nat.min_eq_left hle]⟩
theorem cutE_ok (m : Mem fr own w pl) (hl : LkOk a w pl own p lk) (hp : Eng.Holds a p) {t : TypeId} {x : Operand} {lo hi : Option Operand} (hop : o.op = .slice t x lo hi none) {ob : Own} {e : Eff} (h : cutE P lk ob t x lo hi = some e) (hob : ∀ i ∈ e.touch, own i = ob i) : Does P fr own a w pl o e := by
 unfold cutE at h
 split at h
 ·rename_i el i k hu hx
  split at h
  ·rename_i k' e' sz es ti hi' hti
   cases hc : (Nat.beq k' k && Nat.beq ti.size sz) with
   | false => rw [hc] at h; cases h
   | true =>
    rw [hc] at h
    simp only [cond_true] at h
    simp only [Bool.and_eq_true] at hc
    have e1 := Nat.eq_of_beq_eq_true hc.1
    have e2 := Nat.eq_of_beq_eq_true hc.2
    subst e1
    split at h
    ·split at h
     ·rename_i v2 hh hb2
      cases hd : (decide (0 ≤ hh ∧ hh ≤ (es.length : Int)) && !mkd e'.ov) with
      | false => rw [hd] at h; cases h
      | true =>
       rw [hd] at h
       simp only [cond_true, Option.some.injEq] at h
       subst h
       simp only [Bool.and_eq_true, decide_eq_true_eq, Bool.not_eq_true'] at hd
       obtain ⟨hd, hmk⟩ := hd
       have ho : own i = some (.arr k' e' sz es) := by rw [hob i (by simp)]; exact hi'
       have hv := ar_cur (w := w) (hl [] x _ hx holds_nil hp) ho
       obtain ⟨xs, hxs, hr, hs⟩ := m.obj i _ ho
       rw [hmk] at hxs
       have hcap : es.length ≤ (pl.sl i).2 := by
        rcases hxs.2 with ⟨hA, h0⟩ | ⟨g, cap, cur, hA, hB, hg, hn, _⟩
        ·omega
        ·injection hA with _ _ h3; omega
       have hlen : (es.take hh.toNat).length = hh.toNat := by rw [List.length_take]; omega
       obtain ⟨pl', m', L, hsl⟩ := m.turnArrO (k' := k' + 1) (e' := e') (es' := es.take hh.toNat) (A := (pl.sl i).1) (cap := (pl.sl i).2) ho (w' := w) (World.grownBy.refl _ _) (by rw [hmk, hlen]; exact hxs.take (by omega)) (.inl rfl)
        ⟨by rw [take_flatten hs, List.length_take, List.length_take, hr.1], fun j d y hd' hy => by
         rw [take_flatten hs, List.getElem?_take] at hd'
         rw [List.getElem?_take] at hy
         split at hd'
         ·rename_i hj; rw [if_pos hj] at hy; exact hr.2 j d y hd' hy
         ·cases hd'⟩ (fun ds hd' => hs ds (List.mem_of_mem_take hd')) (.inl (by omega))
       have hrun := run_cut (lo := none) (hi := hi) hop hu hti hv hl hp rfl hb2 ⟨by omega, by omega, by omega⟩
       refine does_turn (pl' := pl') m' L hrun ⟨k' + 1, e', sz, _, upd_same _ _ _, Nat.le_refl _, fun _ => ?_, rfl⟩
       rw [hsl, hlen]
       simp only [Int.toNat_zero, Nat.zero_mul, Nat.sub_zero]
       split
       ·rfl
       ·cases (pl.sl i).1 <;> simp [Addr.add]
     ·cases h
    ·rename_i l0
     split at h
     ·rename_i v1 l v2 hh hb1 hb2
      cases hd : (decide (0 ≤ l ∧ l ≤ hh ∧ hh ≤ (es.length : Int)) && !mkd e'.ov) with
      | false => rw [hd] at h; cases h
      | true =>
       rw [hd] at h
       simp only [cond_true, Option.some.injEq] at h
       subst h
       simp only [Bool.and_eq_true, decide_eq_true_eq, Bool.not_eq_true'] at hd
       obtain ⟨hd, hmk⟩ := hd
       have ho : own i = some (.arr k' e' sz es) := by rw [hob i (by simp)]; exact hi'
       have hv := ar_cur (w := w) (hl [] x _ hx holds_nil hp) ho
       obtain ⟨xs, hxs, hr, hs⟩ := m.obj i _ ho
       rw [hmk] at hxs
       have hcap : es.length ≤ (pl.sl i).2 := by
        rcases hxs.2 with ⟨hA, h0⟩ | ⟨g, cap, cur, hA, hB, hg, hn, _⟩
        ·omega
        ·injection hA with _ _ h3; omega
       have hrun := run_cut (lo := some l0) (hi := hi) hop hu hti hv hl hp hb1 hb2 ⟨by omega, by omega, by omega⟩
       refine does_value m hrun ⟨k', e', sz, es, ho, Nat.le_refl _, fun _ => ⟨by omega, ?_⟩, rfl⟩
       rw [e2]
     ·cases h
  ·cases h
 ·rename_i el hu hx
  split at h
  ·rename_i v1 l v2 hh ti hb1 hb2 hti
   cases hd : (decide (l = 0 ∧ hh = 0)) with
   | false => rw [hd] at h; cases h
   | true =>
    rw [hd] at h
    simp only [cond_true, Option.some.injEq] at h
    subst h
    simp only [decide_eq_true_eq] at hd
    obtain ⟨rfl, rfl⟩ := hd
    have hv : a.eval x = .slice none 0 0 := Rd.exact (hl [] x _ hx holds_nil hp)
    have hrun := run_cut hop hu hti hv hl hp hb1 hb2 ⟨by omega, by omega, by omega⟩
    refine does_value m hrun ?_
    exact Rd.v _ rfl
  ·cases h
 ·cases h
def noNil (ob : Own) : SV → Option (Bool × List Nat)
 | .c (.d (.sl _ (_ :: _))) => some (true, [])
 | .c (.ar i k) => match ob i with
  | some (.arr k' _ _ (_ :: _)) => bif Nat.beq k' k then some (true, [i]) else none
  | _ => none
 | .c (.av i k _ _) => match ob i with
  | some (.arr k' _ _ (_ :: _)) => bif Nat.beq k' k then some (true, [i]) else none
  | _ => none
 | .c (.fn _ _ _) => some (false, [])
 | _ => none
def isSl (P : Program) (t : TypeId) : Bool := match P.underlying t with
 | some (.slice _) => true
 | _ => false
def isFn (P : Program) (t : TypeId) : Bool := match P.underlying t with
 | some (.func _ _ _) => true
 | _ => false
def nilZ (P : Program) (lk : Lk) (ob : Own) (op : BinOp) (t : TypeId) (x y : Operand) : Option Eff :=
 match lk [] x, lk [] y with
 | some sv, some (.c (.d (.v (.slice none 0 0)))) => match noNil ob sv with
  | some (true, tc) => bif isSl P t then (match op with
   | .eql => some ⟨.c (.d (.v (.bool false))), [], tc, []⟩
   | .neq => some ⟨.c (.d (.v (.bool true))), [], tc, []⟩
   | _ => none) else none
  | _ => none
 | some sv, some (.c (.d (.v .nilFunc))) => match noNil ob sv with
  | some (false, tc) => bif isFn P t then (match op with
   | .eql => some ⟨.c (.d (.v (.bool false))), [], tc, []⟩
   | .neq => some ⟨.c (.d (.v (.bool true))), [], tc, []⟩
   | _ => none) else none
  | _ => none
 | _, _ => none
theorem run_sl_nil {t e : TypeId} {ad : Addr} {n c : Nat} (h : P.underlying t = some (.slice e)) : (Op.equal t (.slice (some ad) n c) (.slice none 0 0)).run P w = .ok false w := by
 have h : ∀ d : Nat, (Op.equalIn (d + 1) t (.slice (some ad) n c) (.slice none 0 0)).run P w = .ok false w := fun d => by
  simp [Op.equalIn, run_underlying h]
 simp [Op.equal, Op.maxDepth, h 9999]
theorem run_fn_nil {t : TypeId} {x y z} {g l m} (h : P.underlying t = some (.func x y z)) : (Op.equal t (.func g l m) .nilFunc).run P w = .ok false w := by
 have h : ∀ d : Nat, (Op.equalIn (d + 1) t (.func g l m) .nilFunc).run P w = .ok false w := fun d => by
  simp [Op.equalIn, run_underlying h]
 simp [Op.equal, Op.maxDepth, h 9999]
theorem noNil_sl (m : Mem fr own w pl) {ob : Own} {sv : SV} {tc : List Nat} (h : noNil ob sv = some (true, tc)) (hob : ∀ i ∈ tc, own i = ob i) {v : Value} (hv : SvOk w pl own sv v) : ∃ ad n c, v = .slice (some ad) n c := by
 have hne : ∀ {i k : Nat} {e : AT} {sz : Nat} {d : List D} {r : List (List D)}, own i = some (.arr k e sz (d :: r)) → ∃ g, (pl.sl i).1 = some g := fun {i k e sz d r} ho => by
  rcases arr_addr (m.obj i _ ho) with ⟨h0, _⟩ | ⟨b, hb⟩
  ·cases h0
  ·exact ⟨_, hb⟩
 unfold noNil at h
 split at h
 ·simp only [Option.some.injEq, Prod.mk.injEq] at h
  obtain ⟨_, rfl⟩ := h
  have hv : Rd _ _ _ _ := hv
  cases hv with
  | sl us hF hb hc hm hs hu hr => exact ⟨_, _, _, rfl⟩
 ·rename_i i k
  split at h
  ·rename_i k' e' sz d r hi
   cases hk : Nat.beq k' k with
   | false => rw [hk] at h; cases h
   | true =>
    rw [hk] at h
    simp only [cond_true, Option.some.injEq, Prod.mk.injEq] at h
    obtain ⟨_, rfl⟩ := h
    have e1 := Nat.eq_of_beq_eq_true hk
    subst e1
    have ho : own i = some (.arr k' e' sz (d :: r)) := by rw [hob i (by simp)]; exact hi
    have := ar_cur (w := w) hv ho
    obtain ⟨g, hg⟩ := hne ho
    rw [hg] at this
    exact ⟨_, _, _, this⟩
  ·cases h
 ·rename_i i k l n
  split at h
  ·rename_i k' e' sz d r hi
   cases hk : Nat.beq k' k with
   | false => rw [hk] at h; cases h
   | true =>
    rw [hk] at h
    simp only [cond_true, Option.some.injEq, Prod.mk.injEq] at h
    obtain ⟨_, rfl⟩ := h
    have e1 := Nat.eq_of_beq_eq_true hk
    subst e1
    have ho : own i = some (.arr k' e' sz (d :: r)) := by rw [hob i (by simp)]; exact hi
    have := (av_cur (w := w) hv ho).2
    obtain ⟨g, hg⟩ := hne ho
    rw [hg] at this
    split at this
    ·exact ⟨_, _, _, this⟩
    ·exact ⟨_, _, _, this⟩
  ·cases h
 ·simp at h
 ·cases h
theorem noNil_fn {ob : Own} {sv : SV} {tc : List Nat} (h : noNil ob sv = some (false, tc)) {v : Value} (hv : SvOk w pl own sv v) : ∃ g l m, v = .func g l m := by
 unfold noNil at h
 split at h
 ·simp at h
 ·split at h
  ·rename_i k' _ _ _ _ _
   cases hk : Nat.beq k' _ with
   | false => rw [hk] at h; cases h
   | true => rw [hk] at h; simp at h
  ·cases h
 ·split at h
  ·rename_i k' _ _ _ _ _
   cases hk : Nat.beq k' _ with
   | false => rw [hk] at h; cases h
   | true => rw [hk] at h; simp at h
  ·cases h
 ·exact ⟨_, _, _, hv.2⟩
 ·cases h
theorem nilZ_ok (m : Mem fr own w pl) (hl : LkOk a w pl own p lk) (hp : Eng.Holds a p) {op : BinOp} {t : TypeId} {x y : Operand} {ty : TypeId} (hop : o.op = .binOp op t x y ty) {ob : Own} {e : Eff} (h : nilZ P lk ob op t x y = some e) (hob : ∀ i ∈ e.touch, own i = ob i) : Does P fr own a w pl o e := by
 unfold nilZ at h
 split at h
 ·rename_i sv hx hy
  have hvy : a.eval y = .slice none 0 0 := Rd.exact (hl [] y _ hy holds_nil hp)
  split at h
  ·rename_i tc hn
   cases ht : isSl P t with
   | false => rw [ht] at h; cases h
   | true =>
    rw [ht] at h
    simp only [cond_true] at h
    unfold isSl at ht
    split at ht
    ·rename_i el hu
     split at h
     ·simp only [Option.some.injEq] at h
      subst h
      obtain ⟨ad, n, c, hvx⟩ := noNil_sl m hn hob (hl [] x _ hx holds_nil hp)
      refine does_value (v := .bool false) m ?_ (Rd.v _ rfl)
      unfold execOp
      simp only [hop, hvx, hvy]
      simp [eqGuard, binOp, run_sl_nil hu]
     ·simp only [Option.some.injEq] at h
      subst h
      obtain ⟨ad, n, c, hvx⟩ := noNil_sl m hn hob (hl [] x _ hx holds_nil hp)
      refine does_value (v := .bool true) m ?_ (Rd.v _ rfl)
      unfold execOp
      simp only [hop, hvx, hvy]
      simp [eqGuard, binOp, run_sl_nil hu]
     ·cases h
    ·cases ht
  ·cases h
 ·rename_i sv hx hy
  have hvy : a.eval y = .nilFunc := Rd.exact (hl [] y _ hy holds_nil hp)
  split at h
  ·rename_i tc hn
   cases ht : isFn P t with
   | false => rw [ht] at h; cases h
   | true =>
    rw [ht] at h
    simp only [cond_true] at h
    unfold isFn at ht
    split at ht
    ·rename_i _ _ _ hu
     split at h
     ·simp only [Option.some.injEq] at h
      subst h
      obtain ⟨g, l, m', hvx⟩ := noNil_fn hn (hl [] x _ hx holds_nil hp)
      refine does_value (v := .bool false) m ?_ (Rd.v _ rfl)
      unfold execOp
      simp only [hop, hvx, hvy]
      simp [eqGuard, binOp, run_fn_nil hu]
     ·simp only [Option.some.injEq] at h
      subst h
      obtain ⟨g, l, m', hvx⟩ := noNil_fn hn (hl [] x _ hx holds_nil hp)
      refine does_value (v := .bool true) m ?_ (Rd.v _ rfl)
      unfold execOp
      simp only [hop, hvx, hvy]
      simp [eqGuard, binOp, run_fn_nil hu]
     ·cases h
    ·cases ht
  ·cases h
 ·cases h
def zerE (P : Program) (lk : Lk) (ob : Own) (T tn : TypeId) (s x : Operand) (nid : Nat) : Option Eff :=
 match P.underlying T, P.underlying tn, lk [] s, exO lk [] x with
 | some (.slice e), some (.int _), some (.c (.d (.v (.slice none 0 0)))), some (.int _ (.ofNat k)) => match P.info? e, ob nid with
  | some i, none => match i.zero with
   | some z => match z.cells with
    | ⟨[v]⟩ => bif Nat.blt 0 k && Nat.ble k 1000 && Nat.beq i.size 1 && Nat.ble i.bytes 1000 && v.oneCell' then some ⟨.c (.ar nid 0), [(nid, .arr 0 ⟨e, []⟩ 1 (List.replicate k [.v v]))], [nid], []⟩ else none
    | _ => none
   | none => none
  | _, _ => none
 | _, _, _, _ => none
theorem zeros_one (v : Value) (k : Nat) : (Builtin.zeroCells #[v] k).toList = List.replicate k v := by
 apply List.ext_getElem
 ·simp [Builtin.zeroCells]
 ·intro j h1 h2
  simp [Builtin.zeroCells, Nat.mod_one]
theorem flat_rep (v : D) : ∀ k : Nat, (List.replicate k [v]).flatten = List.replicate k v
 | 0 => rfl
 | k + 1 => by simp only [List.replicate_succ, List.flatten_cons, flat_rep v k]; rfl
theorem zerE_ok (m : Mem fr own w pl) (hl : LkOk a w pl own p lk) (hp : Eng.Holds a p) {T tn : TypeId} {s x : Operand} (hop : o.op = .call { callee := .builtin .append, args := #[s, x], argTypes := #[T, tn] }) {ob : Own} {nid : Nat} {e : Eff} (h : zerE P lk ob T tn s x nid = some e) (hob : ∀ i ∈ e.touch, own i = ob i) : Does P fr own a w pl o e := by
 unfold zerE at h
 split at h
 ·rename_i el kn kq k hT htn hs hx
  split at h
  ·rename_i i hi hnone
   split at h
   ·rename_i z hz
    split at h
    ·rename_i v hzc
     cases hc : (Nat.blt 0 k && Nat.ble k 1000 && Nat.beq i.size 1 && Nat.ble i.bytes 1000 && v.oneCell') with
     | false => rw [hc] at h; cases h
     | true =>
      rw [hc] at h
      simp only [cond_true, Option.some.injEq] at h
      subst h
      simp only [Bool.and_eq_true] at hc
      obtain ⟨⟨⟨⟨c1, c2⟩, c3⟩, c4⟩, c5⟩ := hc
      have c1 : 0 < k := by simpa using c1
      have c2 := Nat.le_of_ble_eq_true c2
      have c3 := Nat.eq_of_beq_eq_true c3
      have c4 := Nat.le_of_ble_eq_true c4
      have hvs : a.eval s = .slice none 0 0 := Rd.exact (hl [] s _ hs holds_nil hp)
      have hvx : a.eval x = .int kq (k : Int) := exO_eq hl hp holds_nil hx
      have hnx : Builtin.nextslicecap (0 + k) 0 = 0 + k := by unfold Builtin.nextslicecap; rw [if_pos (by omega)]
      have hkb : k * i.bytes ≤ 1000 * 1000 := Nat.mul_le_mul c2 c4
      have hr := Lib.run_append_grow_zeros (P := P) w T tn o.type el i z kq kn hT htn hi hz none 0 0 [] (by simp [Builtin.firstCells]) k c1 (by omega) (by omega) (by omega) (by omega) (by rw [hnx, Nat.zero_add]; omega)
      simp only [Nat.zero_add] at hr
      have hge := grownCap_ge w k 0 el
      have hcm : grownCap w k 0 el ≤ maxLen := grownCap_le_maxLen w k 0 el (by unfold maxLen; omega)
      obtain ⟨pl', m', L, hsl⟩ := m.newArr (i := nid) (e := ⟨el, []⟩) (sz := 1) (es := List.replicate k [.v v]) (by rw [hob nid (by simp)]; exact hnone)
       (w' := w.drew.alloc (.cells (([] : List Value).toArray ++ Builtin.zeroCells z.cells k ++ Builtin.zeroCells z.cells (grownCap w k 0 el - k)) el)) (A := some ⟨w.heap.size, 0, none⟩) (cap := grownCap w k 0 el) (xs := List.replicate k v)
       ⟨rfl, rfl, rfl, by simp, fun j hj _ => Below.heap_alloc w.drew _ _ hj⟩
       ⟨by simp, .inr ⟨w.heap.size, _, _, rfl, Nat.zero_le _, heap_alloc_new w.drew _, by simpa using hge, hcm, by
        simp only [Array.size_append, List.size_toArray, size_zeroCells, hzc]
        simp only [List.length_nil, List.length_cons]
        omega, by
        rw [hzc]
        simp only [Array.toList_append, zeros_one, List.nil_append]
        have : (List.replicate k [D.v v]).length * 1 = (List.replicate k v).length := by simp
        rw [this]
        exact List.take_left⟩⟩
       (fun ad had => by injection had with had; rw [← had]; exact Nat.le_refl _)
       (AllO.of ⟨by simp, fun j d y hd hy => by
        rw [flat_rep] at hd
        have h1 := List.eq_of_mem_replicate (List.mem_of_getElem? hd)
        have h2 := List.eq_of_mem_replicate (List.mem_of_getElem? hy)
        subst h1; subst h2
        exact Rd.v _ c5⟩)
       (fun ds hd => by have := List.eq_of_mem_replicate hd; subst this; rfl)
      intro K Q hK
      have hrun : (execOp a.eval o).run P w = .ok (.value (.slice (some ⟨w.heap.size, 0, none⟩) k (grownCap w k 0 el))) (w.drew.alloc (.cells (([] : List Value).toArray ++ Builtin.zeroCells z.cells k ++ Builtin.zeroCells z.cells (grownCap w k 0 el - k)) el)) := by
       unfold execOp
       simp only [hop, resolve, invoke, builtin, Sem.run_bind, Sem.run_pure, Result.andThen_ok, List.map_toArray, List.map_cons, List.map_nil, hvs, hvx, hr]
      unfold Oper.wp
      rw [hrun, Oper.upon_value]
      refine hK _ _ pl' m' L (.inr ⟨0, ⟨el, []⟩, 1, _, upd_same _ _ _, Nat.le_refl _, fun _ => ?_, rfl⟩)
      rw [hsl]
      simp
    ·cases h
   ·cases h
  ·cases h
 ·cases h
def opQ (P : Program) (lk : Lk) (ob : Own) (o : Oper) (nid : Nat) : Option Eff := match o.op with
 | .call { callee := .builtin .append, args := ⟨[s, x]⟩, argTypes := ⟨[T, tn]⟩ } => zerE P lk ob T tn s x nid
 | .slice t x lo hi none => cutE P lk ob t x lo hi
 | .binOp op t x y _ => nilZ P lk ob op t x y
 | _ => none
theorem opQ_ok (m : Mem fr own w pl) (hl : LkOk a w pl own p lk) (hp : Eng.Holds a p) {ob : Own} {nid : Nat} {e : Eff} (h : opQ P lk ob o nid = some e) (hob : ∀ i ∈ e.touch, own i = ob i) : Does P fr own a w pl o e := by
 unfold opQ at h
 split at h
 ·rename_i hop; exact zerE_ok m hl hp hop h hob
 ·rename_i hop; exact cutE_ok m hl hp hop h hob
 ·rename_i hop; exact nilZ_ok m hl hp hop h hob
 ·cases h
def lkN (P : Program) (o : Oper) (lk : Lk) : Lk := match o.op with
 | .call { callee := .builtin .append, args := _, argTypes := ats } => match P.underlying (ats.getD 0 0) with
  | some (.slice e) => match P.info? e with
   | some i => fun q x => match lk q x with
    | some (.c (.d (.v (.slice none 0 0)))) => some (.c (.d (.sl i.size [])))
    | r => r
   | none => lk
  | _ => lk
 | _ => lk
theorem lkN_ok (hl : LkOk a w pl own p lk) : LkOk a w pl own p (lkN P o lk) := by
 unfold lkN
 split
 ·split
  ·split
   ·rename_i i hi
    intro q x sv hx hq hp
    simp only at hx
    split at hx
    ·rename_i hv
     simp only [Option.some.injEq] at hx
     subst hx
     have := Rd.exact (hl q x _ hv hq hp)
     show Rd _ _ _ _
     rw [this]
     exact .nil _
    ·exact hl q x _ hx hq hp
   ·exact hl
  ·exact hl
 ·exact hl
end
end Go.V
