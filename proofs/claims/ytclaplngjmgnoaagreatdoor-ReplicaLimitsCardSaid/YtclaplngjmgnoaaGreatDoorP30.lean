/- Part 30 of the proof: texts Y6a. -/
import Derived.Test.YtclaplngjmgnoaaGreatDoorP29
set_option linter.all false
namespace Go.Proofs.YtclaplngjmgnoaaGreatDoor
open Go.ChangeShapes Go.WideShapes Go.ChangeAt Go.RowKit Go.V
theorem t2 {a b : Bool} (h : a = true) (k : b = true) : (a && b) = true := by rw [h, k]; rfl
set_option maxRecDepth 100000 in
theorem replicaLimits_laid : (laidOutB Tryz.pinned.checked.prog) = true := by kernel_rfl
set_option maxRecDepth 100000 in
theorem replicaLimits_maps : (mapsRowed Tryz.pinned.checked.prog) = true := by kernel_rfl
set_option maxRecDepth 100000 in
theorem replicaLimits_inp : ((Rows.replicaLimitsRow.inPlace == Tryz.pinned.checked.prog.inPlace 7)) = true := by kernel_rfl
set_option maxRecDepth 100000 in
theorem replicaLimits_unf : ((Rows.replicaLimitsRow.unfollowed == Tryz.pinned.checked.prog.unfollowed 7)) = true := by kernel_rfl
set_option maxRecDepth 100000 in
theorem replicaLimits_rec : ((Rows.replicaLimitsRow.recurses == Tryz.pinned.checked.prog.recurses 7)) = true := by kernel_rfl
set_option maxRecDepth 100000 in
theorem replicaLimits_named : ((Rows.replicaLimitsRow.named == Tryz.pinned.checked.prog.varsNamed 7)) = true := by kernel_rfl
set_option maxRecDepth 100000 in
theorem replicaLimits_keys : ((Rows.replicaLimitsRow.plainKeys == Tryz.pinned.checked.prog.plainKeys)) = true := by kernel_rfl
set_option maxRecDepth 100000 in
theorem replicaLimits_heard : (Tryz.pinned.checked.prog.stopsHeard) = true := by kernel_rfl
set_option maxRecDepth 100000 in
theorem replicaLimits_may : (Tryz.pinned.checked.prog.mayEnter) = true := by kernel_rfl
set_option maxRecDepth 100000 in
theorem replicaLimits_lift : ((Rows.replicaLimitsRow.lifted == Tryz.pinned.checked.prog.liftsFinal)) = true := by kernel_rfl
set_option maxRecDepth 100000 in
theorem replicaLimits_make : ((Tryz.pinned.checked.prog.make == some Rows.replicaLimitsRow.make)) = true := by kernel_rfl
set_option maxRecDepth 100000 in
theorem replicaLimits_closed : joinedFacts Tryz.pinned.checked.prog 7 Tryz.f7 (OpenSpec.ofChange Rows.replicaLimitsSpec).bare Rows.replicaLimitsRow = true := by
 unfold joinedFacts
 exact (t2 (t2 (t2 (t2 (t2 (t2 (t2 (t2 (t2 (t2 (t2 (t2 (t2 (t2 (t2 (t2 (t2 (t2 (t2 (t2 (t2 (t2 (t2 (t2 (t2 (t2 (t2 (t2 (t2 (t2 (t2 (by kernel_rfl) replicaLimits_laid) replicaLimits_maps) (by kernel_rfl)) (by kernel_rfl)) (by kernel_rfl)) (by kernel_rfl)) (by kernel_rfl)) (by kernel_rfl)) replicaLimits_inp) replicaLimits_unf) replicaLimits_rec) replicaLimits_named) (by kernel_rfl)) (by kernel_rfl)) (by kernel_rfl)) (by kernel_rfl)) (by kernel_rfl)) (by kernel_rfl)) (by kernel_rfl)) (by kernel_rfl)) (by kernel_rfl)) replicaLimits_keys) (by kernel_rfl)) replicaLimits_heard) replicaLimits_may) replicaLimits_lift) replicaLimits_make) (by kernel_rfl)) (by kernel_rfl)) (by kernel_rfl)) (by kernel_rfl))
end Go.Proofs.YtclaplngjmgnoaaGreatDoor
