/- Part 35 of the proof: texts Y2c, Y2d. -/
import Derived.Test.YtfedkhjbkiillaaGreatDoorP34
set_option linter.all false
namespace Go.Proofs.YtfedkhjbkiillaaGreatDoor
open Go.ChangeShapes Go.WideShapes Go.ChangeAt Go.RowKit Go.V
set_option maxRecDepth 100000 in
theorem programOrder_inp : ((Rows.programOrderRow.inPlace == Tryz.pinned.checked.prog.inPlace 8)) = true := by kernel_rfl
set_option maxRecDepth 100000 in
theorem programOrder_unf : ((Rows.programOrderRow.unfollowed == Tryz.pinned.checked.prog.unfollowed 8)) = true := by kernel_rfl
end Go.Proofs.YtfedkhjbkiillaaGreatDoor
namespace Go.Proofs.YtfedkhjbkiillaaGreatDoor
open Go.ChangeShapes Go.WideShapes Go.ChangeAt Go.RowKit Go.V
set_option maxRecDepth 100000 in
theorem programOrder_rec : ((Rows.programOrderRow.recurses == Tryz.pinned.checked.prog.recurses 8)) = true := by kernel_rfl
set_option maxRecDepth 100000 in
theorem programOrder_named : ((Rows.programOrderRow.named == Tryz.pinned.checked.prog.varsNamed 8)) = true := by kernel_rfl
end Go.Proofs.YtfedkhjbkiillaaGreatDoor
