/- Part 43 of the proof: texts O2c. -/
import Derived.Test.YtdejnaokkdndeaaGreatDoorP40
set_option linter.all false
namespace Go.Proofs.YtdejnaokkdndeaaGreatDoor
open Go.RowKit Go.V
variable (m : Int)
set_option maxRecDepth 100000
theorem te31 : TyQ m [101, 120, 116, 114, 97, 99, 116] (prm 3 1) [1] 1 := rQ (by kernel_rfl)
theorem te32 : TyQ m [101, 120, 116, 114, 97, 99, 116] (prm 3 2) [1] 1 := rQ (by kernel_rfl)
theorem te33 : TyQ m [101, 120, 116, 114, 97, 99, 116] (prm 3 3) [1] 1 := rQ (by kernel_rfl)
theorem te40 : TyQ m [101, 120, 116, 114, 97, 99, 116] (prm 4 0) [1] 1 := rQ (by kernel_rfl)
theorem te41 : TyQ m [101, 120, 116, 114, 97, 99, 116] (prm 4 1) [1] 1 := rQ (by kernel_rfl)
theorem te42 : TyQ m [101, 120, 116, 114, 97, 99, 116] (prm 4 2) [1] 1 := rQ (by kernel_rfl)
theorem te43 : TyQ m [101, 120, 116, 114, 97, 99, 116] (prm 4 3) [1] 1 := rQ (by kernel_rfl)
theorem te50 : TyQ m [101, 120, 116, 114, 97, 99, 116] (prm 5 0) [1] 1 := rQ (by kernel_rfl)
theorem te51 : TyQ m [101, 120, 116, 114, 97, 99, 116] (prm 5 1) [1] 1 := rQ (by kernel_rfl)
theorem te52 : TyQ m [101, 120, 116, 114, 97, 99, 116] (prm 5 2) [1] 1 := rQ (by kernel_rfl)
theorem te53 : TyQ m [101, 120, 116, 114, 97, 99, 116] (prm 5 3) [1] 1 := rQ (by kernel_rfl)
theorem te60 : TyQ m [101, 120, 116, 114, 97, 99, 116] (prm 6 0) [1] 1 := rQ (by kernel_rfl)
theorem te61 : TyQ m [101, 120, 116, 114, 97, 99, 116] (prm 6 1) [1] 1 := rQ (by kernel_rfl)
theorem ex20 : ExQ m 2 0 := rQ (by kernel_rfl)
theorem ex21 : ExQ m 2 1 := rQ (by kernel_rfl)
theorem ex22 : ExQ m 2 2 := rQ (by kernel_rfl)
theorem ex23 : ExQ m 2 3 := rQ (by kernel_rfl)
theorem ex30 : ExQ m 3 0 := rQ (by kernel_rfl)
theorem ex31 : ExQ m 3 1 := rQ (by kernel_rfl)
theorem ex32 : ExQ m 3 2 := rQ (by kernel_rfl)
theorem ex33 : ExQ m 3 3 := rQ (by kernel_rfl)
end Go.Proofs.YtdejnaokkdndeaaGreatDoor
