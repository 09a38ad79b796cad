/- Part 33 of the proof: texts U14. -/
import Derived.Test.YtfedkhjbkiillaaGreatDoorP29
import Derived.Test.YtfedkhjbkiillaaGreatDoorP30
import Derived.Test.YtfedkhjbkiillaaGreatDoorP31
import Derived.Test.YtfedkhjbkiillaaGreatDoorP32
set_option linter.all false
namespace Go.Proofs.YtfedkhjbkiillaaGreatDoor
open Go
theorem tie : Tryz.prog.laidByTextLater ldl ldk true :=
 Program.laidByTextLater_by_run 400 8 tieA tieB tieC tieD tieE tieF tieG tieH tieI tieJ
theorem programOrder_row_tie : Rows.programOrderRow.laidByTextAt .later Tryz.pinned [.data, .data, .data, .pinned, .data, .data, .pinned, .sentinel, .sentinel, .data] true :=
 OpenClaim.laidByTextAt_pinned rfl rfl tie rfl rfl rfl rfl (fun y hy _e => by
  simp only [Rows.programOrderRow, List.zip_cons_cons, List.zip_nil_right, List.mem_cons, List.mem_nil_iff, or_false] at hy
  rcases hy with rfl | rfl | rfl | rfl | rfl | rfl | rfl | rfl | rfl | rfl
  ·cases _e
  ·cases _e
  ·cases _e
  ·exact ⟨pin_laid_unicode_utf8_first, by kernel_rfl⟩
  ·cases _e
  ·cases _e
  ·exact ⟨pin_laid_unicode_CaseRanges, by kernel_rfl⟩
  ·cases _e
  ·cases _e
  ·cases _e) fits1
end Go.Proofs.YtfedkhjbkiillaaGreatDoor
