/- Part 30 of the proof: texts Y8a. -/
import Derived.Test.YtclaplngjmgnoaaGreatDoorP29
set_option linter.all false
namespace Go.Proofs.YtclaplngjmgnoaaGreatDoor
set_option maxRecDepth 100000
open Go.ChangeShapes Go.WideShapes Go.ChangeAt Go.RowKit Go.V
theorem t2 {a b : Bool} (h : a = true) (k : b = true) : (a && b) = true := by rw [h, k]; rfl
theorem lP : (laidOutB Tryz.pinned.checked.prog) = true := by kernel_rfl
theorem lM : (mapsRowed Tryz.pinned.checked.prog) = true := by kernel_rfl
theorem nH : ((Rows.replicaAloneRow.inPlace == Tryz.pinned.checked.prog.inPlace 6)) = true := by kernel_rfl
theorem nE : ((Rows.replicaAloneRow.unfollowed == Tryz.pinned.checked.prog.unfollowed 6)) = true := by kernel_rfl
theorem nF : ((Rows.replicaAloneRow.recurses == Tryz.pinned.checked.prog.recurses 6)) = true := by kernel_rfl
theorem kO : ((Rows.replicaAloneRow.named == Tryz.pinned.checked.prog.varsNamed 6)) = true := by kernel_rfl
theorem lQ : ((Rows.replicaAloneRow.plainKeys == Tryz.pinned.checked.prog.plainKeys)) = true := by kernel_rfl
theorem kP : (Tryz.pinned.checked.prog.stopsHeard) = true := by kernel_rfl
theorem nG : (Tryz.pinned.checked.prog.mayEnter) = true := by kernel_rfl
theorem lO : ((Rows.replicaAloneRow.lifted == Tryz.pinned.checked.prog.liftsFinal)) = true := by kernel_rfl
theorem lN : ((Tryz.pinned.checked.prog.make == some Rows.replicaAloneRow.make)) = true := by kernel_rfl
theorem aBS : joinedFacts Tryz.pinned.checked.prog 6 Tryz.f6 (OpenSpec.ofChange Rows.replicaAloneSpec).bare Rows.replicaAloneRow = true := by
 unfold joinedFacts
 exact (t2 (t2 (t2 (t2 (t2 (t2 (t2 (t2 (t2 (t2 (t2 (t2 (t2 (t2 (t2 (t2 (t2 (t2 (t2 (t2 (t2 (t2 (t2 (t2 (t2 (t2 (t2 (t2 (t2 (t2 (t2 (by kernel_rfl) lP) lM) (by kernel_rfl)) (by kernel_rfl)) (by kernel_rfl)) (by kernel_rfl)) (by kernel_rfl)) (by kernel_rfl)) nH) nE) nF) kO) (by kernel_rfl)) (by kernel_rfl)) (by kernel_rfl)) (by kernel_rfl)) (by kernel_rfl)) (by kernel_rfl)) (by kernel_rfl)) (by kernel_rfl)) (by kernel_rfl)) lQ) (by kernel_rfl)) kP) nG) lO) lN) (by kernel_rfl)) (by kernel_rfl)) (by kernel_rfl)) (by kernel_rfl))
end Go.Proofs.YtclaplngjmgnoaaGreatDoor
