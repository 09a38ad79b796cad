/- Part 41 of the proof: texts O2a. -/
import Derived.Test.YtdejnaokkdndeaaGreatDoorP40
set_option linter.all false
namespace Go.Proofs.YtdejnaokkdndeaaGreatDoor
open Go.RowKit Go.V
variable (m : Int)
set_option maxRecDepth 100000
theorem ty0 : TyQ m [99, 111, 110, 99, 97, 116] [] [1, 1] 1 := rQ (by kernel_rfl)
theorem ty1 : TyQ m [108, 101, 110, 103, 116, 104] [] [1] 2 := rQ (by kernel_rfl)
theorem ty2 : TyQ m [117, 112, 112, 101, 114] [] [1] 1 := rQ (by kernel_rfl)
theorem ty3 : TyQ m [108, 111, 119, 101, 114] [] [1] 1 := rQ (by kernel_rfl)
theorem ty4 : TyQ m [116, 114, 105, 109] [] [1] 1 := rQ (by kernel_rfl)
theorem ty5 : TyQ m [109, 97, 116, 99, 104] [92, 100, 43] [1] 4 := rQ (by kernel_rfl)
theorem ty6 : TyQ m [109, 97, 116, 99, 104] [92, 97] [1] 4 := rQ (by kernel_rfl)
theorem ty7 : TyQ m [109, 97, 116, 99, 104] [92, 108, 43] [1] 4 := rQ (by kernel_rfl)
theorem ty8 : TyQ m [109, 97, 116, 99, 104] [92, 117, 92, 108, 42] [1] 4 := rQ (by kernel_rfl)
theorem ty9 : TyQ m [109, 97, 116, 99, 104] [92, 46, 123, 50, 125] [1] 4 := rQ (by kernel_rfl)
theorem ty10 : TyQ m [109, 97, 116, 99, 104] [97] [1] 4 := rQ (by kernel_rfl)
theorem ty11 : TyQ m [109, 97, 116, 99, 104] [92, 111] [1] 4 := rQ (by kernel_rfl)
theorem ty12 : TyQ m [109, 97, 116, 99, 104] [92, 100, 123, 50, 125] [1] 4 := rQ (by kernel_rfl)
theorem ty13 : TyQ m [115, 104, 111, 119] [89, 89, 89, 89, 45, 77, 77, 45, 68, 68] [3] 1 := rQ (by kernel_rfl)
theorem ty14 : TyQ m [115, 104, 111, 119] [68, 46, 77, 46, 89, 89, 89, 89] [3] 1 := rQ (by kernel_rfl)
theorem ty15 : TyQ m [115, 104, 111, 119] [89, 89, 89, 89, 47, 77, 47, 68] [3] 1 := rQ (by kernel_rfl)
theorem ty16 : TyQ m [115, 104, 111, 119] [68, 68, 77, 77, 89, 89, 89, 89] [3] 1 := rQ (by kernel_rfl)
theorem ty17 : TyQ m [114, 101, 97, 100] [89, 89, 89, 89, 45, 77, 77, 45, 68, 68] [1] 3 := rQ (by kernel_rfl)
theorem ty18 : TyQ m [114, 101, 97, 100] [68, 46, 77, 46, 89, 89, 89, 89] [1] 3 := rQ (by kernel_rfl)
theorem ty19 : TyQ m [114, 101, 97, 100] [89, 89, 89, 89, 47, 77, 47, 68] [1] 3 := rQ (by kernel_rfl)
theorem ty20 : TyQ m [114, 101, 97, 100] [68, 68, 77, 77, 89, 89, 89, 89] [1] 3 := rQ (by kernel_rfl)
theorem pa0 : PaQ m 0 := rQ (by kernel_rfl)
theorem ri0 : RiQ m 0 := rQ (by kernel_rfl)
theorem pa1 : PaQ m 1 := rQ (by kernel_rfl)
theorem ri1 : RiQ m 1 := rQ (by kernel_rfl)
theorem pa2 : PaQ m 2 := rQ (by kernel_rfl)
theorem ri2 : RiQ m 2 := rQ (by kernel_rfl)
theorem pa3 : PaQ m 3 := rQ (by kernel_rfl)
theorem ri3 : RiQ m 3 := rQ (by kernel_rfl)
end Go.Proofs.YtdejnaokkdndeaaGreatDoor
