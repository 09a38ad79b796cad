/- Part 37 of the proof: texts Y2b. -/
import Derived.Test.YtfedkhjbkiillaaGreatDoorP28
import Derived.Test.YtfedkhjbkiillaaGreatDoorRows
import GoSem.ClaimGoes
set_option linter.all false
namespace Go.Proofs.YtfedkhjbkiillaaGreatDoor
open Go
set_option maxRecDepth 1000000 in
theorem none_goes : (Tryz.pinned.checked.prog.funcs.any Func.goes) = false := by kernel_rfl
theorem goes_no {P : Program} (h : P.funcs.any Func.goes = false) (f : FuncId) : P.goes f = false := by
 have h0 : ∀ g : FuncId, (P.funcs[g]?).any Func.goes = false := by
  intro g
  cases hg : P.funcs[g]? with
  | none => rfl
  | some fn =>
   rw [Array.any_eq_false] at h
   obtain ⟨hlt, hfn⟩ := Array.getElem?_eq_some_iff.1 hg
   have := h g hlt
   rw [hfn] at this
   simpa using this
 unfold Program.goes
 rw [h, Bool.and_false, Bool.or_false]
 simp [h0]
theorem programOrder_goes : false = Rows.programOrderRow.goesBy Tryz.pinned.checked.prog := by
 have hg := goes_no none_goes
 unfold OpenClaim.goesBy Program.goesAt Program.goesFrom
 cases Tryz.pinned.checked.prog.funcNamed Rows.programOrderRow.func <;> cases Rows.programOrderRow.start <;> simp [hg]
end Go.Proofs.YtfedkhjbkiillaaGreatDoor
