/- Part 30 of the proof: texts YAa. -/
import Derived.Test.YtclaplngjmgnoaaGreatDoorP29
set_option linter.all false
namespace Go.Proofs.YtclaplngjmgnoaaGreatDoor
set_option maxRecDepth 100000
open Go.ChangeShapes Go.WideShapes Go.ChangeAt Go.RowKit Go.V
theorem t2 {a b : Bool} (h : a = true) (k : b = true) : (a && b) = true := by rw [h, k]; rfl
theorem lV : (laidOutB Tryz.pinned.checked.prog) = true := by kernel_rfl
theorem lS : (mapsRowed Tryz.pinned.checked.prog) = true := by kernel_rfl
theorem nR : ((Rows.replicaOrderRow.inPlace == Tryz.pinned.checked.prog.inPlace 4)) = true := by kernel_rfl
theorem nO : ((Rows.replicaOrderRow.unfollowed == Tryz.pinned.checked.prog.unfollowed 4)) = true := by kernel_rfl
theorem nP : ((Rows.replicaOrderRow.recurses == Tryz.pinned.checked.prog.recurses 4)) = true := by kernel_rfl
theorem kQ : ((Rows.replicaOrderRow.named == Tryz.pinned.checked.prog.varsNamed 4)) = true := by kernel_rfl
theorem lW : ((Rows.replicaOrderRow.plainKeys == Tryz.pinned.checked.prog.plainKeys)) = true := by kernel_rfl
theorem kR : (Tryz.pinned.checked.prog.stopsHeard) = true := by kernel_rfl
theorem nQ : (Tryz.pinned.checked.prog.mayEnter) = true := by kernel_rfl
theorem lU : ((Rows.replicaOrderRow.lifted == Tryz.pinned.checked.prog.liftsFinal)) = true := by kernel_rfl
theorem lT : ((Tryz.pinned.checked.prog.make == some Rows.replicaOrderRow.make)) = true := by kernel_rfl
theorem aB7 : joinedFacts Tryz.pinned.checked.prog 4 Tryz.f4 (OpenSpec.ofChange Rows.replicaOrderSpec).bare Rows.replicaOrderRow = true := by
 unfold joinedFacts
 exact (t2 (t2 (t2 (t2 (t2 (t2 (t2 (t2 (t2 (t2 (t2 (t2 (t2 (t2 (t2 (t2 (t2 (t2 (t2 (t2 (t2 (t2 (t2 (t2 (t2 (t2 (t2 (t2 (t2 (t2 (t2 (by kernel_rfl) lV) lS) (by kernel_rfl)) (by kernel_rfl)) (by kernel_rfl)) (by kernel_rfl)) (by kernel_rfl)) (by kernel_rfl)) nR) nO) nP) kQ) (by kernel_rfl)) (by kernel_rfl)) (by kernel_rfl)) (by kernel_rfl)) (by kernel_rfl)) (by kernel_rfl)) (by kernel_rfl)) (by kernel_rfl)) (by kernel_rfl)) lW) (by kernel_rfl)) kR) nQ) lU) lT) (by kernel_rfl)) (by kernel_rfl)) (by kernel_rfl)) (by kernel_rfl))
end Go.Proofs.YtclaplngjmgnoaaGreatDoor
