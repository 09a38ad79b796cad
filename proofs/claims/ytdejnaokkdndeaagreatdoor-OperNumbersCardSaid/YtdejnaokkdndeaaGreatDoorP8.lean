/- Part 8 of the proof: texts Eng8. -/
import Derived.Test.YtdejnaokkdndeaaGreatDoorP7
import Derived.Laws.BytesArg
set_option linter.all false
namespace Go.Eng
open Go.RowKit
def bytesV (l : List UInt8) : List Value := l.map fun b => .int .u8 (b.toNat : Int)
theorem strOfNums_bytes (l : List UInt8) : strOfNums (l.map fun b => (b.toNat : Int)) = ⟨l.toArray⟩ := by
 unfold strOfNums
 rw [List.map_map]
 have : ((fun n : Int => UInt8.ofNat n.toNat) ∘ fun b : UInt8 => (b.toNat : Int)) = id := by
  funext b
  simp
 rw [this, List.map_id]
def u8 (x : Int) : UInt8 := UInt8.ofNat (x % 256).toNat
theorem wrap_u8 (x : Int) : IntKind.wrap .u8 x = ((u8 x).toNat : Int) := by
 have h : IntKind.wrap .u8 x = x % 256 := by simp [IntKind.wrap, IntKind.bits, IntKind.signed]
 rw [h, u8]
 have h1 := Int.emod_nonneg x (show (256 : Int) ≠ 0 by decide)
 have h2 := Int.emod_lt_of_pos x (show (0 : Int) < 256 by decide)
 simp
 omega
section
variable {P : Program} {nn : Nat} {ops : Array Oper} {Q : Exit → Act → World → Prop} {w w' : World}
end
end Go.Eng
