/- Part 30 of the proof: texts Y3a. -/
import Derived.Test.YtdejnaokkdndeaaGreatDoorP29
set_option linter.all false
namespace Go.Proofs.YtdejnaokkdndeaaGreatDoor
open Go.ChangeShapes Go.WideShapes Go.ChangeAt Go.RowKit Go.V
theorem t2 {a b : Bool} (h : a = true) (k : b = true) : (a && b) = true := by rw [h, k]; rfl
set_option maxRecDepth 100000 in
theorem operTables_laid : (laidOutB Tryz.pinned.checked.prog) = true := by kernel_rfl
set_option maxRecDepth 100000 in
theorem operTables_maps : (mapsRowed Tryz.pinned.checked.prog) = true := by kernel_rfl
set_option maxRecDepth 100000 in
theorem operTables_inp : ((Rows.operTablesRow.inPlace == Tryz.pinned.checked.prog.inPlace 7)) = true := by kernel_rfl
set_option maxRecDepth 100000 in
theorem operTables_unf : ((Rows.operTablesRow.unfollowed == Tryz.pinned.checked.prog.unfollowed 7)) = true := by kernel_rfl
set_option maxRecDepth 100000 in
theorem operTables_rec : ((Rows.operTablesRow.recurses == Tryz.pinned.checked.prog.recurses 7)) = true := by kernel_rfl
set_option maxRecDepth 100000 in
theorem operTables_named : ((Rows.operTablesRow.named == Tryz.pinned.checked.prog.varsNamed 7)) = true := by kernel_rfl
set_option maxRecDepth 100000 in
theorem operTables_keys : ((Rows.operTablesRow.plainKeys == Tryz.pinned.checked.prog.plainKeys)) = true := by kernel_rfl
set_option maxRecDepth 100000 in
theorem operTables_heard : (Tryz.pinned.checked.prog.stopsHeard) = true := by kernel_rfl
set_option maxRecDepth 100000 in
theorem operTables_may : (Tryz.pinned.checked.prog.mayEnter) = true := by kernel_rfl
set_option maxRecDepth 100000 in
theorem operTables_lift : ((Rows.operTablesRow.lifted == Tryz.pinned.checked.prog.liftsFinal)) = true := by kernel_rfl
set_option maxRecDepth 100000 in
theorem operTables_make : ((Tryz.pinned.checked.prog.make == some Rows.operTablesRow.make)) = true := by kernel_rfl
set_option maxRecDepth 100000 in
theorem operTables_closed : joinedFacts Tryz.pinned.checked.prog 7 Tryz.f7 (OpenSpec.ofChange Rows.operTablesSpec).bare Rows.operTablesRow = true := by
 unfold joinedFacts
 exact (t2 (t2 (t2 (t2 (t2 (t2 (t2 (t2 (t2 (t2 (t2 (t2 (t2 (t2 (t2 (t2 (t2 (t2 (t2 (t2 (t2 (t2 (t2 (t2 (t2 (t2 (t2 (t2 (t2 (t2 (t2 (by kernel_rfl) operTables_laid) operTables_maps) (by kernel_rfl)) (by kernel_rfl)) (by kernel_rfl)) (by kernel_rfl)) (by kernel_rfl)) (by kernel_rfl)) operTables_inp) operTables_unf) operTables_rec) operTables_named) (by kernel_rfl)) (by kernel_rfl)) (by kernel_rfl)) (by kernel_rfl)) (by kernel_rfl)) (by kernel_rfl)) (by kernel_rfl)) (by kernel_rfl)) (by kernel_rfl)) operTables_keys) (by kernel_rfl)) operTables_heard) operTables_may) operTables_lift) operTables_make) (by kernel_rfl)) (by kernel_rfl)) (by kernel_rfl)) (by kernel_rfl))
end Go.Proofs.YtdejnaokkdndeaaGreatDoor
