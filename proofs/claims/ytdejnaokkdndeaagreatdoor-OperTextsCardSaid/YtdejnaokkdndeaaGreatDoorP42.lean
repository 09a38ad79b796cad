/- Part 42 of the proof: texts O2b. -/
import Derived.Test.YtdejnaokkdndeaaGreatDoorP40
set_option linter.all false
namespace Go.Proofs.YtdejnaokkdndeaaGreatDoor
open Go.RowKit Go.V
variable (m : Int)
set_option maxRecDepth 100000
theorem te00 : TyQ m [101, 120, 116, 114, 97, 99, 116] (prm 0 0) [1] 1 := rQ (by kernel_rfl)
theorem te01 : TyQ m [101, 120, 116, 114, 97, 99, 116] (prm 0 1) [1] 1 := rQ (by kernel_rfl)
theorem te02 : TyQ m [101, 120, 116, 114, 97, 99, 116] (prm 0 2) [1] 1 := rQ (by kernel_rfl)
theorem te03 : TyQ m [101, 120, 116, 114, 97, 99, 116] (prm 0 3) [1] 1 := rQ (by kernel_rfl)
theorem te10 : TyQ m [101, 120, 116, 114, 97, 99, 116] (prm 1 0) [1] 1 := rQ (by kernel_rfl)
theorem te11 : TyQ m [101, 120, 116, 114, 97, 99, 116] (prm 1 1) [1] 1 := rQ (by kernel_rfl)
theorem te12 : TyQ m [101, 120, 116, 114, 97, 99, 116] (prm 1 2) [1] 1 := rQ (by kernel_rfl)
theorem te13 : TyQ m [101, 120, 116, 114, 97, 99, 116] (prm 1 3) [1] 1 := rQ (by kernel_rfl)
theorem te20 : TyQ m [101, 120, 116, 114, 97, 99, 116] (prm 2 0) [1] 1 := rQ (by kernel_rfl)
theorem te21 : TyQ m [101, 120, 116, 114, 97, 99, 116] (prm 2 1) [1] 1 := rQ (by kernel_rfl)
theorem te22 : TyQ m [101, 120, 116, 114, 97, 99, 116] (prm 2 2) [1] 1 := rQ (by kernel_rfl)
theorem te23 : TyQ m [101, 120, 116, 114, 97, 99, 116] (prm 2 3) [1] 1 := rQ (by kernel_rfl)
theorem te30 : TyQ m [101, 120, 116, 114, 97, 99, 116] (prm 3 0) [1] 1 := rQ (by kernel_rfl)
theorem ex00 : ExQ m 0 0 := rQ (by kernel_rfl)
theorem ex01 : ExQ m 0 1 := rQ (by kernel_rfl)
theorem ex02 : ExQ m 0 2 := rQ (by kernel_rfl)
theorem ex03 : ExQ m 0 3 := rQ (by kernel_rfl)
theorem ex10 : ExQ m 1 0 := rQ (by kernel_rfl)
theorem ex11 : ExQ m 1 1 := rQ (by kernel_rfl)
theorem ex12 : ExQ m 1 2 := rQ (by kernel_rfl)
theorem ex13 : ExQ m 1 3 := rQ (by kernel_rfl)
end Go.Proofs.YtdejnaokkdndeaaGreatDoor
