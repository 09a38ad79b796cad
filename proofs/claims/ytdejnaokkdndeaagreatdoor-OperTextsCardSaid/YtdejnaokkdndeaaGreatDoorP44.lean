/- Part 44 of the proof: texts O2d. -/
import Derived.Test.YtdejnaokkdndeaaGreatDoorP40
set_option linter.all false
namespace Go.Proofs.YtdejnaokkdndeaaGreatDoor
open Go.RowKit Go.V
variable (m : Int)
set_option maxRecDepth 100000
theorem te62 : TyQ m [101, 120, 116, 114, 97, 99, 116] (prm 6 2) [1] 1 := rQ (by kernel_rfl)
theorem te63 : TyQ m [101, 120, 116, 114, 97, 99, 116] (prm 6 3) [1] 1 := rQ (by kernel_rfl)
theorem te70 : TyQ m [101, 120, 116, 114, 97, 99, 116] (prm 7 0) [1] 1 := rQ (by kernel_rfl)
theorem te71 : TyQ m [101, 120, 116, 114, 97, 99, 116] (prm 7 1) [1] 1 := rQ (by kernel_rfl)
theorem te72 : TyQ m [101, 120, 116, 114, 97, 99, 116] (prm 7 2) [1] 1 := rQ (by kernel_rfl)
theorem te73 : TyQ m [101, 120, 116, 114, 97, 99, 116] (prm 7 3) [1] 1 := rQ (by kernel_rfl)
theorem ex40 : ExQ m 4 0 := rQ (by kernel_rfl)
theorem ex41 : ExQ m 4 1 := rQ (by kernel_rfl)
theorem ex42 : ExQ m 4 2 := rQ (by kernel_rfl)
theorem ex43 : ExQ m 4 3 := rQ (by kernel_rfl)
theorem ex50 : ExQ m 5 0 := rQ (by kernel_rfl)
theorem ex51 : ExQ m 5 1 := rQ (by kernel_rfl)
theorem ex52 : ExQ m 5 2 := rQ (by kernel_rfl)
theorem ex53 : ExQ m 5 3 := rQ (by kernel_rfl)
theorem ex60 : ExQ m 6 0 := rQ (by kernel_rfl)
theorem ex61 : ExQ m 6 1 := rQ (by kernel_rfl)
theorem ex62 : ExQ m 6 2 := rQ (by kernel_rfl)
theorem ex63 : ExQ m 6 3 := rQ (by kernel_rfl)
theorem ex70 : ExQ m 7 0 := rQ (by kernel_rfl)
theorem ex71 : ExQ m 7 1 := rQ (by kernel_rfl)
theorem ex72 : ExQ m 7 2 := rQ (by kernel_rfl)
theorem ex73 : ExQ m 7 3 := rQ (by kernel_rfl)
theorem pa4 : PaQ m 4 := rQ (by kernel_rfl)
theorem ri4 : RiQ m 4 := rQ (by kernel_rfl)
theorem pa5 : PaQ m 5 := rQ (by kernel_rfl)
theorem ri5 : RiQ m 5 := rQ (by kernel_rfl)
theorem pa6 : PaQ m 6 := rQ (by kernel_rfl)
theorem ri6 : RiQ m 6 := rQ (by kernel_rfl)
theorem pa7 : PaQ m 7 := rQ (by kernel_rfl)
theorem ri7 : RiQ m 7 := rQ (by kernel_rfl)
end Go.Proofs.YtdejnaokkdndeaaGreatDoor
