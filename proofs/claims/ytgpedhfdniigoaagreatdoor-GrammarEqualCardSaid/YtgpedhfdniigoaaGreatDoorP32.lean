/- Part 32 of the proof. -/
import Derived.Test.YtgpedhfdniigoaaGreatDoorP31
set_option linter.all false
namespace Go.Proofs.YtgpedhfdniigoaaGreatDoor
set_option maxRecDepth 100000
open Go.ChangeShapes Go.WideShapes Go.ChangeAt Go.RowKit Go.V
theorem t2 {a b : Bool} (h : a = true) (k : b = true) : (a && b) = true := by rw [h,k]; rfl
theorem m9 : (laidOutB Tryz.pinned.checked.prog) = true := by kernel_rfl
theorem m6 : (mapsRowed Tryz.pinned.checked.prog) = true := by kernel_rfl
theorem oA : ((Rows.grammarEqualRow.inPlace == Tryz.pinned.checked.prog.inPlace 7)) = true := by kernel_rfl
theorem n7 : ((Rows.grammarEqualRow.unfollowed == Tryz.pinned.checked.prog.unfollowed 7)) = true := by kernel_rfl
theorem n8 : ((Rows.grammarEqualRow.recurses == Tryz.pinned.checked.prog.recurses 7)) = true := by kernel_rfl
theorem lR : ((Rows.grammarEqualRow.named == Tryz.pinned.checked.prog.varsNamed 7)) = true := by kernel_rfl
theorem nA : ((Rows.grammarEqualRow.plainKeys == Tryz.pinned.checked.prog.plainKeys)) = true := by kernel_rfl
theorem lS : (Tryz.pinned.checked.prog.stopsHeard) = true := by kernel_rfl
theorem n9 : (Tryz.pinned.checked.prog.mayEnter) = true := by kernel_rfl
theorem m8 : ((Rows.grammarEqualRow.lifted == Tryz.pinned.checked.prog.liftsFinal)) = true := by kernel_rfl
theorem m7 : ((Tryz.pinned.checked.prog.make == some Rows.grammarEqualRow.make)) = true := by kernel_rfl
theorem aEE : joinedFacts Tryz.pinned.checked.prog 7 Tryz.f7 (OpenSpec.ofChange Rows.grammarEqualSpec).bare Rows.grammarEqualRow = true := by
 unfold joinedFacts
 exact (t2 (t2 (t2 (t2 (t2 (t2 (t2 (t2 (t2 (t2 (t2 (t2 (t2 (t2 (t2 (t2 (t2 (t2 (t2 (t2 (t2 (t2 (t2 (t2 (t2 (t2 (t2 (t2 (t2 (t2 (t2 (by kernel_rfl) m9) m6) (by kernel_rfl)) (by kernel_rfl)) (by kernel_rfl)) (by kernel_rfl)) (by kernel_rfl)) (by kernel_rfl)) oA) n7) n8) lR) (by kernel_rfl)) (by kernel_rfl)) (by kernel_rfl)) (by kernel_rfl)) (by kernel_rfl)) (by kernel_rfl)) (by kernel_rfl)) (by kernel_rfl)) (by kernel_rfl)) nA) (by kernel_rfl)) lS) n9) m8) m7) (by kernel_rfl)) (by kernel_rfl)) (by kernel_rfl)) (by kernel_rfl))
end Go.Proofs.YtgpedhfdniigoaaGreatDoor
