/- Part 36 of the proof: texts Y2a. -/
import Derived.Test.YtfedkhjbkiillaaGreatDoorP34
import Derived.Test.YtfedkhjbkiillaaGreatDoorP35
set_option linter.all false
namespace Go.Proofs.YtfedkhjbkiillaaGreatDoor
open Go.ChangeShapes Go.WideShapes Go.ChangeAt Go.RowKit Go.V
theorem t2 {a b : Bool} (h : a = true) (k : b = true) : (a && b) = true := by rw [h, k]; rfl
set_option maxRecDepth 100000 in
theorem programOrder_laid : (laidOutB Tryz.pinned.checked.prog) = true := by kernel_rfl
set_option maxRecDepth 100000 in
theorem programOrder_maps : (mapsRowed Tryz.pinned.checked.prog) = true := by kernel_rfl
set_option maxRecDepth 100000 in
theorem programOrder_keys : ((Rows.programOrderRow.plainKeys == Tryz.pinned.checked.prog.plainKeys)) = true := by kernel_rfl
set_option maxRecDepth 100000 in
theorem programOrder_heard : (Tryz.pinned.checked.prog.stopsHeard) = true := by kernel_rfl
set_option maxRecDepth 100000 in
theorem programOrder_may : (Tryz.pinned.checked.prog.mayEnter) = true := by kernel_rfl
set_option maxRecDepth 100000 in
theorem programOrder_lift : ((Rows.programOrderRow.lifted == Tryz.pinned.checked.prog.liftsFinal)) = true := by kernel_rfl
set_option maxRecDepth 100000 in
theorem programOrder_make : ((Tryz.pinned.checked.prog.make == some Rows.programOrderRow.make)) = true := by kernel_rfl
set_option maxRecDepth 100000 in
theorem programOrder_closed : joinedFacts Tryz.pinned.checked.prog 8 Tryz.f8 (OpenSpec.ofChange Rows.programOrderSpec).bare Rows.programOrderRow = true := by
 unfold joinedFacts
 exact (t2 (t2 (t2 (t2 (t2 (t2 (t2 (t2 (t2 (t2 (t2 (t2 (t2 (t2 (t2 (t2 (t2 (t2 (t2 (t2 (t2 (t2 (t2 (t2 (t2 (t2 (t2 (t2 (t2 (t2 (t2 (by kernel_rfl) programOrder_laid) programOrder_maps) (by kernel_rfl)) (by kernel_rfl)) (by kernel_rfl)) (by kernel_rfl)) (by kernel_rfl)) (by kernel_rfl)) programOrder_inp) programOrder_unf) programOrder_rec) programOrder_named) (by kernel_rfl)) (by kernel_rfl)) (by kernel_rfl)) (by kernel_rfl)) (by kernel_rfl)) (by kernel_rfl)) (by kernel_rfl)) (by kernel_rfl)) (by kernel_rfl)) programOrder_keys) (by kernel_rfl)) programOrder_heard) programOrder_may) programOrder_lift) programOrder_make) (by kernel_rfl)) (by kernel_rfl)) (by kernel_rfl)) (by kernel_rfl))
end Go.Proofs.YtfedkhjbkiillaaGreatDoor
