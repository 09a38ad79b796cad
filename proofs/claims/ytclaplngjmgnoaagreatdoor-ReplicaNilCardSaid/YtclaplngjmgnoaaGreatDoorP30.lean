/- Part 30 of the proof: texts Y7a. -/
import Derived.Test.YtclaplngjmgnoaaGreatDoorP29
set_option linter.all false
set_option maxRecDepth 100000
namespace Go.Proofs.YtclaplngjmgnoaaGreatDoor
open Go.ChangeShapes Go.WideShapes Go.ChangeAt Go.RowKit Go.V
theorem t2 {a b : Bool} (h : a = true) (k : b = true) : (a && b) = true := by rw [h, k]; rfl
theorem pM : (laidOutB Tryz.pinned.checked.prog) = true := by kernel_rfl
theorem pJ : (mapsRowed Tryz.pinned.checked.prog) = true := by kernel_rfl
theorem qK : ((Rows.replicaNilRow.inPlace == Tryz.pinned.checked.prog.inPlace 8)) = true := by kernel_rfl
theorem qH : ((Rows.replicaNilRow.unfollowed == Tryz.pinned.checked.prog.unfollowed 8)) = true := by kernel_rfl
theorem qI : ((Rows.replicaNilRow.recurses == Tryz.pinned.checked.prog.recurses 8)) = true := by kernel_rfl
theorem nF : ((Rows.replicaNilRow.named == Tryz.pinned.checked.prog.varsNamed 8)) = true := by kernel_rfl
theorem pN : ((Rows.replicaNilRow.plainKeys == Tryz.pinned.checked.prog.plainKeys)) = true := by kernel_rfl
theorem nG : (Tryz.pinned.checked.prog.stopsHeard) = true := by kernel_rfl
theorem qJ : (Tryz.pinned.checked.prog.mayEnter) = true := by kernel_rfl
theorem pL : ((Rows.replicaNilRow.lifted == Tryz.pinned.checked.prog.liftsFinal)) = true := by kernel_rfl
theorem pK : ((Tryz.pinned.checked.prog.make == some Rows.replicaNilRow.make)) = true := by kernel_rfl
theorem aEW : joinedFacts Tryz.pinned.checked.prog 8 Tryz.f8 (OpenSpec.ofChange Rows.replicaNilSpec).bare Rows.replicaNilRow = true := by
 unfold joinedFacts
 exact (t2 (t2 (t2 (t2 (t2 (t2 (t2 (t2 (t2 (t2 (t2 (t2 (t2 (t2 (t2 (t2 (t2 (t2 (t2 (t2 (t2 (t2 (t2 (t2 (t2 (t2 (t2 (t2 (t2 (t2 (t2 (by kernel_rfl) pM) pJ) (by kernel_rfl)) (by kernel_rfl)) (by kernel_rfl)) (by kernel_rfl)) (by kernel_rfl)) (by kernel_rfl)) qK) qH) qI) nF) (by kernel_rfl)) (by kernel_rfl)) (by kernel_rfl)) (by kernel_rfl)) (by kernel_rfl)) (by kernel_rfl)) (by kernel_rfl)) (by kernel_rfl)) (by kernel_rfl)) pN) (by kernel_rfl)) nG) qJ) pL) pK) (by kernel_rfl)) (by kernel_rfl)) (by kernel_rfl)) (by kernel_rfl))
end Go.Proofs.YtclaplngjmgnoaaGreatDoor
