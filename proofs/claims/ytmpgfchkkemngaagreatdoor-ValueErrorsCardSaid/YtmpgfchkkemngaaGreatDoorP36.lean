/- Part 36 of the proof: texts E1. -/
import Derived.Test.YtmpgfchkkemngaaGreatDoorP35
set_option linter.all false
namespace Go.Proofs.YtmpgfchkkemngaaGreatDoor
open Go.RowKit Go.V
open Go.Eng (inR byteAt u8 bytesV)
variable {g : Gv}
def failV (e : Int) : Vl := ⟨0, [], 0, 0, e, [], []⟩
theorem failV_fit (e : Int) : (failV e).fit := ⟨by simp [failV], fun t ht => (by cases ht), fun r hr => (by cases hr)⟩
theorem failV_right (e : Int) : rightB (failV e) = (decide (e ≥ 0) && decide (e ≤ 99)) := by
  have h : rightB (failV e) = (decide (0 ≤ e) && decide (e ≤ 99) && true) := rfl
  rw [h, Bool.and_true]
theorem failV_err (e : Int) : errI (failV e) = if e = 0 then 16 else e := rfl
theorem made_err (l : List Int) : decide (errI (madeV l) = 0) = !decide ((madeV l).kind = 0) := by
  have hr := made_right l
  unfold errI
  by_cases hk : (madeV l).kind = 0
  · rw [if_pos hk]
    split
    · simp [hk]
    · rename_i h; simp [hk, h]
  · rw [if_neg hk]; simp [hk]
theorem valueErrors_ok (e : Int) (l : List Int) :
    SpG g 6 [.c (.d (.i e)), .c (.d (.sl 1 (intsD l)))] [] (.c (.d (.b true))) [] := by
  refine enterB 54 Tryz.func6 (by kernel_rfl) fun fr hG => ?_
  refine stepC hG hmix [(1, 0, .call (.c (.d (.b true))) [] []), (2, 1, .call (.agg [.d (.i ((madeV l).kind)), .d (.s (S (madeV l).s)), .d (.i ((madeV l).dn)), .d (.i ((madeV l).ds)), .d (.i ((madeV l).n)), .d (.sl 1 (strs ((madeV l).cols))), .d (.sl 1 (rowsD ((madeV l).rows)))]) [] []), (3, 1, .call (.agg [.d (.i 0), .d (.s (S [])), .d (.i 0), .d (.i 0), .d (.i e), .d (.nil), .d (.nil)]) [] [])] [1, 0, 1, 1, 1, 1, 1] (decide ((e : Int) = 0)) (⟨[(0, [], .c (.d (.i e))), (4, [], .c (.d (.b false))), (5, [], .c (.d (.b true))), (6, [], .c (.bx 302 0)), (7, [], .c (.bx 402 0)), (8, [], .c (.d (.i e)))], [(302, .box 30 [.d (.i ((madeV l).kind)), .d (.s (S (madeV l).s)), .d (.i ((madeV l).dn)), .d (.i ((madeV l).ds)), .d (.i ((madeV l).n)), .d (.sl 1 (strs ((madeV l).cols))), .d (.sl 1 (rowsD ((madeV l).rows)))]), (402, .box 30 [.d (.i 0), .d (.s (S [])), .d (.i 0), .d (.i 0), .d (.i e), .d (.nil), .d (.nil)])]⟩) _ (by kernel_rfl) (conjC ((sanity_ok : SpG g _ _ _ _ _)) (conjC ((made_ok l : SpG g _ _ _ _ _)) (conj1 ((fail_ok e : SpG g _ _ _ _ _))))) (fun hc1 => ?_) (fun hc1 => ?_)
  · (try simp only [blS] at hc1)
    refine stepR' hG hmix [(7, 8, .call (.c (.d (.i (errI (failV e))))) [] []), (7, 14, .call (.c (.d (.b (rightB (failV e))))) [] []), (7, 25, .call (.c (.d (.i (errI (madeV l))))) [] []), (7, 34, .call (.c (.d (.i (errI (failV 0))))) [] [])] [] (.c (.d (.b ((((decide ((errI (failV e) : Int) = 16)) && ((rightB (failV e)) == ((decide ((e : Int) ≥ 0)) && (decide ((e : Int) ≤ 99))))) && ((decide ((errI (madeV l) : Int) = 0)) == (!decide (((madeV l).kind : Int) = 0)))) && (decide ((errI (failV 0) : Int) = 16)))))) [] (by kernel_rfl) (conjC (fun (hg1 : true = true) => ((spec_mask (ins := [.agg [.d (.i 0), .d (.s (S [])), .d (.i 0), .d (.i 0), .d (.i e), .d (.nil), .d (.nil)]]) [[none, none, none, none, none, some 1, some 1]] (error_ok (failV e)) : SpG g _ _ _ _ _))) (conjC (fun (hg1 : (decide ((errI (failV e) : Int) = 16)) = true) => ((spec_mask (ins := [.agg [.d (.i 0), .d (.s (S [])), .d (.i 0), .d (.i 0), .d (.i e), .d (.nil), .d (.nil)]]) [[none, none, none, none, none, some 1, some 1]] (right_ok (failV e) (failV_fit _)) : SpG g _ _ _ _ _))) (conjC (fun (hg1 : ((decide ((errI (failV e) : Int) = 16)) && ((rightB (failV e)) == ((decide ((e : Int) ≥ 0)) && (decide ((e : Int) ≤ 99))))) = true) => ((error_ok (madeV l) : SpG g _ _ _ _ _))) (conj1 (fun (hg1 : (((decide ((errI (failV e) : Int) = 16)) && ((rightB (failV e)) == ((decide ((e : Int) ≥ 0)) && (decide ((e : Int) ≤ 99))))) && ((decide ((errI (madeV l) : Int) = 0)) == (!decide (((madeV l).kind : Int) = 0)))) = true) => ((spec_mask (ins := [.agg [.d (.i 0), .d (.s (S [])), .d (.i 0), .d (.i 0), .d (.i 0), .d (.nil), .d (.nil)]]) [[none, none, none, none, none, some 1, some 1]] (error_ok (failV 0)) : SpG g _ _ _ _ _))))))) ?_ ?_
    · simp [failV_right, failV_err, made_err, hc1]
    · rfl
  · (try simp only [blS] at hc1)
    refine stepR' hG hmix [(7, 8, .call (.c (.d (.i (errI (failV e))))) [] []), (7, 14, .call (.c (.d (.b (rightB (failV e))))) [] []), (7, 25, .call (.c (.d (.i (errI (madeV l))))) [] []), (7, 34, .call (.c (.d (.i (errI (failV 0))))) [] [])] [] (.c (.d (.b ((((decide ((errI (failV e) : Int) = e)) && ((rightB (failV e)) == ((decide ((e : Int) ≥ 0)) && (decide ((e : Int) ≤ 99))))) && ((decide ((errI (madeV l) : Int) = 0)) == (!decide (((madeV l).kind : Int) = 0)))) && (decide ((errI (failV 0) : Int) = 16)))))) [] (by kernel_rfl) (conjC (fun (hg1 : true = true) => ((spec_mask (ins := [.agg [.d (.i 0), .d (.s (S [])), .d (.i 0), .d (.i 0), .d (.i e), .d (.nil), .d (.nil)]]) [[none, none, none, none, none, some 1, some 1]] (error_ok (failV e)) : SpG g _ _ _ _ _))) (conjC (fun (hg1 : (decide ((errI (failV e) : Int) = e)) = true) => ((spec_mask (ins := [.agg [.d (.i 0), .d (.s (S [])), .d (.i 0), .d (.i 0), .d (.i e), .d (.nil), .d (.nil)]]) [[none, none, none, none, none, some 1, some 1]] (right_ok (failV e) (failV_fit _)) : SpG g _ _ _ _ _))) (conjC (fun (hg1 : ((decide ((errI (failV e) : Int) = e)) && ((rightB (failV e)) == ((decide ((e : Int) ≥ 0)) && (decide ((e : Int) ≤ 99))))) = true) => ((error_ok (madeV l) : SpG g _ _ _ _ _))) (conj1 (fun (hg1 : (((decide ((errI (failV e) : Int) = e)) && ((rightB (failV e)) == ((decide ((e : Int) ≥ 0)) && (decide ((e : Int) ≤ 99))))) && ((decide ((errI (madeV l) : Int) = 0)) == (!decide (((madeV l).kind : Int) = 0)))) = true) => ((spec_mask (ins := [.agg [.d (.i 0), .d (.s (S [])), .d (.i 0), .d (.i 0), .d (.i 0), .d (.nil), .d (.nil)]]) [[none, none, none, none, none, some 1, some 1]] (error_ok (failV 0)) : SpG g _ _ _ _ _))))))) ?_ ?_
    · simp [failV_right, failV_err, made_err, hc1]
    · rfl
end Go.Proofs.YtmpgfchkkemngaaGreatDoor
