/- Part 30 of the proof. -/
import Derived.Test.YtclaplngjmgnoaaGreatDoorP29
set_option linter.all false
namespace Go.Proofs.YtclaplngjmgnoaaGreatDoor
set_option maxRecDepth 100000
open Go.ChangeShapes Go.WideShapes Go.ChangeAt Go.RowKit Go.V
theorem t2 {a b : Bool} (h : a = true) (k : b = true) : (a && b) = true := by rw [h,k]; rfl
theorem mJ : (laidOutB Tryz.pinned.checked.prog) = true := by kernel_rfl
theorem mG : (mapsRowed Tryz.pinned.checked.prog) = true := by kernel_rfl
theorem oT : ((Rows.replicaGrowsRow.inPlace == Tryz.pinned.checked.prog.inPlace 5)) = true := by kernel_rfl
theorem oQ : ((Rows.replicaGrowsRow.unfollowed == Tryz.pinned.checked.prog.unfollowed 5)) = true := by kernel_rfl
theorem oR : ((Rows.replicaGrowsRow.recurses == Tryz.pinned.checked.prog.recurses 5)) = true := by kernel_rfl
theorem lJ : ((Rows.replicaGrowsRow.named == Tryz.pinned.checked.prog.varsNamed 5)) = true := by kernel_rfl
theorem mK : ((Rows.replicaGrowsRow.plainKeys == Tryz.pinned.checked.prog.plainKeys)) = true := by kernel_rfl
theorem lK : (Tryz.pinned.checked.prog.stopsHeard) = true := by kernel_rfl
theorem oS : (Tryz.pinned.checked.prog.mayEnter) = true := by kernel_rfl
theorem mI : ((Rows.replicaGrowsRow.lifted == Tryz.pinned.checked.prog.liftsFinal)) = true := by kernel_rfl
theorem mH : ((Tryz.pinned.checked.prog.make == some Rows.replicaGrowsRow.make)) = true := by kernel_rfl
theorem aDP : joinedFacts Tryz.pinned.checked.prog 5 Tryz.f5 (OpenSpec.ofChange Rows.replicaGrowsSpec).bare Rows.replicaGrowsRow = true := by
 unfold joinedFacts
 exact (t2 (t2 (t2 (t2 (t2 (t2 (t2 (t2 (t2 (t2 (t2 (t2 (t2 (t2 (t2 (t2 (t2 (t2 (t2 (t2 (t2 (t2 (t2 (t2 (t2 (t2 (t2 (t2 (t2 (t2 (t2 (by kernel_rfl) mJ) mG) (by kernel_rfl)) (by kernel_rfl)) (by kernel_rfl)) (by kernel_rfl)) (by kernel_rfl)) (by kernel_rfl)) oT) oQ) oR) lJ) (by kernel_rfl)) (by kernel_rfl)) (by kernel_rfl)) (by kernel_rfl)) (by kernel_rfl)) (by kernel_rfl)) (by kernel_rfl)) (by kernel_rfl)) (by kernel_rfl)) mK) (by kernel_rfl)) lK) oS) mI) mH) (by kernel_rfl)) (by kernel_rfl)) (by kernel_rfl)) (by kernel_rfl))
end Go.Proofs.YtclaplngjmgnoaaGreatDoor
