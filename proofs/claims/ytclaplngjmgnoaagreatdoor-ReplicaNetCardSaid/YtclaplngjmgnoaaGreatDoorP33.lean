/- Part 33 of the proof. -/
import Derived.Test.YtclaplngjmgnoaaGreatDoorP32
set_option linter.all false
namespace Go.Proofs.YtclaplngjmgnoaaGreatDoor
set_option maxRecDepth 100000
open Go.ChangeShapes Go.WideShapes Go.ChangeAt Go.RowKit Go.V
theorem t2 {a b : Bool} (h : a = true) (k : b = true) : (a && b) = true := by rw [h,k]; rfl
theorem qT : (laidOutB Tryz.pinned.checked.prog) = true := by kernel_rfl
theorem qQ : (mapsRowed Tryz.pinned.checked.prog) = true := by kernel_rfl
theorem sK : ((Rows.replicaNetRow.inPlace == Tryz.pinned.checked.prog.inPlace 9)) = true := by kernel_rfl
theorem sH : ((Rows.replicaNetRow.unfollowed == Tryz.pinned.checked.prog.unfollowed 9)) = true := by kernel_rfl
theorem sI : ((Rows.replicaNetRow.recurses == Tryz.pinned.checked.prog.recurses 9)) = true := by kernel_rfl
theorem o4 : ((Rows.replicaNetRow.named == Tryz.pinned.checked.prog.varsNamed 9)) = true := by kernel_rfl
theorem qU : ((Rows.replicaNetRow.plainKeys == Tryz.pinned.checked.prog.plainKeys)) = true := by kernel_rfl
theorem o5 : (Tryz.pinned.checked.prog.stopsHeard) = true := by kernel_rfl
theorem sJ : (Tryz.pinned.checked.prog.mayEnter) = true := by kernel_rfl
theorem qS : ((Rows.replicaNetRow.lifted == Tryz.pinned.checked.prog.liftsFinal)) = true := by kernel_rfl
theorem qR : ((Tryz.pinned.checked.prog.make == some Rows.replicaNetRow.make)) = true := by kernel_rfl
theorem aGY : joinedFacts Tryz.pinned.checked.prog 9 Tryz.f9 (OpenSpec.ofChange Rows.replicaNetSpec).bare Rows.replicaNetRow = true := by
 unfold joinedFacts;exact (t2 (t2 (t2 (t2 (t2 (t2 (t2 (t2 (t2 (t2 (t2 (t2 (t2 (t2 (t2 (t2 (t2 (t2 (t2 (t2 (t2 (t2 (t2 (t2 (t2 (t2 (t2 (t2 (t2 (t2 (t2 (by kernel_rfl) qT) qQ) (by kernel_rfl)) (by kernel_rfl)) (by kernel_rfl)) (by kernel_rfl)) (by kernel_rfl)) (by kernel_rfl)) sK) sH) sI) o4) (by kernel_rfl)) (by kernel_rfl)) (by kernel_rfl)) (by kernel_rfl)) (by kernel_rfl)) (by kernel_rfl)) (by kernel_rfl)) (by kernel_rfl)) (by kernel_rfl)) qU) (by kernel_rfl)) o5) sJ) qS) qR) (by kernel_rfl)) (by kernel_rfl)) (by kernel_rfl)) (by kernel_rfl))
end Go.Proofs.YtclaplngjmgnoaaGreatDoor
