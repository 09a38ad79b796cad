/- Part 30 of the proof: texts Y9a. -/
import Derived.Test.YtclaplngjmgnoaaGreatDoorP29
set_option linter.all false
namespace Go.Proofs.YtclaplngjmgnoaaGreatDoor
set_option maxRecDepth 100000
open Go.ChangeShapes Go.WideShapes Go.ChangeAt Go.RowKit Go.V
theorem t2 {a b : Bool} (h : a = true) (k : b = true) : (a && b) = true := by rw [h, k]; rfl
theorem iQ : (laidOutB Tryz.pinned.checked.prog) = true := by kernel_rfl
theorem iN : (mapsRowed Tryz.pinned.checked.prog) = true := by kernel_rfl
theorem i7 : ((Rows.replicaConvergesRow.inPlace == Tryz.pinned.checked.prog.inPlace 3)) = true := by kernel_rfl
theorem iY : ((Rows.replicaConvergesRow.unfollowed == Tryz.pinned.checked.prog.unfollowed 3)) = true := by kernel_rfl
theorem iZ : ((Rows.replicaConvergesRow.recurses == Tryz.pinned.checked.prog.recurses 3)) = true := by kernel_rfl
theorem g9 : ((Rows.replicaConvergesRow.named == Tryz.pinned.checked.prog.varsNamed 3)) = true := by kernel_rfl
theorem iR : ((Rows.replicaConvergesRow.plainKeys == Tryz.pinned.checked.prog.plainKeys)) = true := by kernel_rfl
theorem hJ : (Tryz.pinned.checked.prog.stopsHeard) = true := by kernel_rfl
theorem i6 : (Tryz.pinned.checked.prog.mayEnter) = true := by kernel_rfl
theorem iP : ((Rows.replicaConvergesRow.lifted == Tryz.pinned.checked.prog.liftsFinal)) = true := by kernel_rfl
theorem iO : ((Tryz.pinned.checked.prog.make == some Rows.replicaConvergesRow.make)) = true := by kernel_rfl
theorem tT : joinedFacts Tryz.pinned.checked.prog 3 Tryz.f3 (OpenSpec.ofChange Rows.replicaConvergesSpec).bare Rows.replicaConvergesRow = true := by
 unfold joinedFacts
 exact (t2 (t2 (t2 (t2 (t2 (t2 (t2 (t2 (t2 (t2 (t2 (t2 (t2 (t2 (t2 (t2 (t2 (t2 (t2 (t2 (t2 (t2 (t2 (t2 (t2 (t2 (t2 (t2 (t2 (t2 (t2 (by kernel_rfl) iQ) iN) (by kernel_rfl)) (by kernel_rfl)) (by kernel_rfl)) (by kernel_rfl)) (by kernel_rfl)) (by kernel_rfl)) i7) iY) iZ) g9) (by kernel_rfl)) (by kernel_rfl)) (by kernel_rfl)) (by kernel_rfl)) (by kernel_rfl)) (by kernel_rfl)) (by kernel_rfl)) (by kernel_rfl)) (by kernel_rfl)) iR) (by kernel_rfl)) hJ) i6) iP) iO) (by kernel_rfl)) (by kernel_rfl)) (by kernel_rfl)) (by kernel_rfl))
end Go.Proofs.YtclaplngjmgnoaaGreatDoor
