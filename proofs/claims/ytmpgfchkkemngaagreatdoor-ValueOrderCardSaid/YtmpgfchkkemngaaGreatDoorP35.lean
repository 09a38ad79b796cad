/- Part 35 of the proof: texts D10, F1, D11, D12, L1, D13, D14. -/
import Derived.Test.YtmpgfchkkemngaaGreatDoorP34
import Derived.Lib.AppendIntMem
import Derived.WalkKit
import Derived.WalkSpells
import Derived.WalkLawsBesides
import Derived.Deep.QuietTactic
import Derived.BigQuiet
import Derived.KernelRfl
set_option linter.all false
namespace Go.Proofs.YtmpgfchkkemngaaGreatDoor
open Go.RowKit Go.V
open Go.Eng (inR byteAt u8 bytesV)
variable {g : Gv}
theorem of_same {f : FuncId} {ins : List SV} {out : SV} {args : List Value} {v : Value} (hi : exAll ins = some args) (ho : exT out = some v) (hk : okS out = true) (h : ∀ w : World, Calls Tryz.prog f args.toArray w fun e w' => e = .returned v ∧ w' = w) : SpG g f ins [] out [] :=
  spec_of hi ho hk fun w _ => (h w).mono fun _ _ ⟨a, b⟩ => ⟨a, by rw [b]; exact Below.refl _ _⟩
theorem hasPrefix_lit (s p : List UInt8) (r : Bool) (h : Lib.hasPrefix s p = r) : SpG g 198 [.c (.d (.s (S s))), .c (.d (.s (S p)))] [] (.c (.d (.b r))) [] := by
  refine of_same (args := [.string (S s), .string (S p)]) rfl rfl rfl fun w => ?_
  have := Tryz.strings_HasPrefix (S s) (S p) w
  rw [S_data, S_data, h] at this
  exact this
def layF : Nat → List UInt8
  | 0 => [89, 89, 89, 89, 45, 77, 77, 45, 68, 68]
  | 1 => [45, 77, 77, 45, 68, 68]
  | 2 => [77, 77, 45, 68, 68]
  | 3 => [45, 68, 68]
  | 4 => [68, 68]
  | _ => []
def rY (k : Nat) : Int := if k = 0 then 0 else 1
def rM (k : Nat) : Int := if k ≤ 2 then 0 else 1
def rD (k : Nat) : Int := if k ≤ 4 then 0 else 1
theorem first0  :
    SpG g 173 [.c (.d (.s (S [89, 89, 89, 89, 45, 77, 77, 45, 68, 68])))] [] (.agg [.d (.s (S [89, 89, 89, 89])), .d (.b true)]) [] := by
  refine enterB 18 Tryz.func173 (by kernel_rfl) fun fr hG => ?_
  refine stepL hG hmix [] [0, 1, 0, 1] ((fun (zz : Nat) => match zz with | i => ⟨[(0, [], .c (.d (.s (S [89, 89, 89, 89, 45, 77, 77, 45, 68, 68])))), (2, [], .c (.bx 100 0)), (5, [], .agg [.d (.s (S [89, 89, 89, 89])), .d (.s (S [77, 77])), .d (.s (S [77])), .d (.s (S [68, 68])), .d (.s (S [68]))]), (6, [], .c (.d (.i (i : Int))))], [(100, .box 159 [.d (.s (S [])), .d (.b false)])]⟩) 0) _ (by kernel_rfl) conj0 ?_
  refine loopR (σ := Nat) (fun (zz : Nat) => match zz with | i => 6 - i) (fun (zz : Nat) => match zz with | i => ⟨[(0, [], .c (.d (.s (S [89, 89, 89, 89, 45, 77, 77, 45, 68, 68])))), (2, [], .c (.bx 100 0)), (5, [], .agg [.d (.s (S [89, 89, 89, 89])), .d (.s (S [77, 77])), .d (.s (S [77])), .d (.s (S [68, 68])), .d (.s (S [68]))]), (6, [], .c (.d (.i (i : Int))))], [(100, .box 159 [.d (.s (S [])), .d (.b false)])]⟩) (fun (zz : Nat) => match zz with | i => i ≤ 0) 0 (by kernel_rfl) ?_ ?_
  · exact Nat.zero_le _
  rintro i hI
  rcases (by omega : i = 0) with rfl
  · skip
    refine stepC hG hmix [] [0, 1] (true) (⟨[(0, [], .c (.d (.s (S [89, 89, 89, 89, 45, 77, 77, 45, 68, 68])))), (2, [], .c (.bx 100 0)), (5, [], .agg [.d (.s (S [89, 89, 89, 89])), .d (.s (S [77, 77])), .d (.s (S [77])), .d (.s (S [68, 68])), .d (.s (S [68]))]), (6, [], .c (.d (.i 0)))], [(100, .box 159 [.d (.s (S [])), .d (.b false)])]⟩) _ (by kernel_rfl) conj0 (fun _ => ?_) (fun hc2 => absurd hc2 (by decide))
    refine stepC hG hmix [(4, 2, .call (.c (.d (.b true))) [] [])] [1, 1, 0, 0, 1, 1] (true) (⟨[(0, [], .c (.d (.s (S [89, 89, 89, 89, 45, 77, 77, 45, 68, 68])))), (2, [], .c (.bx 100 0)), (4, [], .c (.d (.s (S [89, 89, 89, 89])))), (5, [], .agg [.d (.s (S [89, 89, 89, 89])), .d (.s (S [77, 77])), .d (.s (S [77])), .d (.s (S [68, 68])), .d (.s (S [68]))]), (6, [], .c (.d (.i 0)))], [(100, .box 159 [.d (.s (S [])), .d (.b false)])]⟩) _ (by kernel_rfl) (conj1 ((hasPrefix_lit [89, 89, 89, 89, 45, 77, 77, 45, 68, 68] [89, 89, 89, 89] true (by decide) : SpG g _ _ _ _ _))) (fun _ => ?_) (fun hc3 => absurd hc3 (by decide))
    refine leaveE hG hmix [] .ret (⟨[(0, [], .c (.d (.s (S [89, 89, 89, 89, 45, 77, 77, 45, 68, 68])))), (2, [], .c (.bx 100 0))], [(100, .box 159 [.d (.s (S [89, 89, 89, 89])), .d (.b true)])]⟩) _ (by kernel_rfl) conj0 rfl ?_
    refine stepR' hG hmix [] [] (.agg [.d (.s (S [89, 89, 89, 89])), .d (.b true)]) [] (by kernel_rfl) conj0 ?_ ?_
    · rfl
    · rfl
theorem first1  :
    SpG g 173 [.c (.d (.s (S [45, 77, 77, 45, 68, 68])))] [] (.agg [.d (.s (S [45])), .d (.b false)]) [] := by
  refine enterB 18 Tryz.func173 (by kernel_rfl) fun fr hG => ?_
  refine stepL hG hmix [] [0, 1, 0, 1] ((fun (zz : Nat) => match zz with | i => ⟨[(0, [], .c (.d (.s (S [45, 77, 77, 45, 68, 68])))), (2, [], .c (.bx 100 0)), (5, [], .agg [.d (.s (S [89, 89, 89, 89])), .d (.s (S [77, 77])), .d (.s (S [77])), .d (.s (S [68, 68])), .d (.s (S [68]))]), (6, [], .c (.d (.i (i : Int))))], [(100, .box 159 [.d (.s (S [])), .d (.b false)])]⟩) 0) _ (by kernel_rfl) conj0 ?_
  refine loopR (σ := Nat) (fun (zz : Nat) => match zz with | i => 6 - i) (fun (zz : Nat) => match zz with | i => ⟨[(0, [], .c (.d (.s (S [45, 77, 77, 45, 68, 68])))), (2, [], .c (.bx 100 0)), (5, [], .agg [.d (.s (S [89, 89, 89, 89])), .d (.s (S [77, 77])), .d (.s (S [77])), .d (.s (S [68, 68])), .d (.s (S [68]))]), (6, [], .c (.d (.i (i : Int))))], [(100, .box 159 [.d (.s (S [])), .d (.b false)])]⟩) (fun (zz : Nat) => match zz with | i => i ≤ 5) 0 (by kernel_rfl) ?_ ?_
  · exact Nat.zero_le _
  rintro i hI
  rcases (by omega : i = 0 ∨ i = 1 ∨ i = 2 ∨ i = 3 ∨ i = 4 ∨ i = 5) with rfl | rfl | rfl | rfl | rfl | rfl
  · skip
    refine stepC hG hmix [] [0, 1] (true) (⟨[(0, [], .c (.d (.s (S [45, 77, 77, 45, 68, 68])))), (2, [], .c (.bx 100 0)), (5, [], .agg [.d (.s (S [89, 89, 89, 89])), .d (.s (S [77, 77])), .d (.s (S [77])), .d (.s (S [68, 68])), .d (.s (S [68]))]), (6, [], .c (.d (.i 0)))], [(100, .box 159 [.d (.s (S [])), .d (.b false)])]⟩) _ (by kernel_rfl) conj0 (fun _ => ?_) (fun hc2 => absurd hc2 (by decide))
    refine stepC hG hmix [(4, 2, .call (.c (.d (.b false))) [] [])] [1, 1, 0, 0, 1, 1] (false) (⟨[(0, [], .c (.d (.s (S [45, 77, 77, 45, 68, 68])))), (2, [], .c (.bx 100 0)), (4, [], .c (.d (.s (S [89, 89, 89, 89])))), (5, [], .agg [.d (.s (S [89, 89, 89, 89])), .d (.s (S [77, 77])), .d (.s (S [77])), .d (.s (S [68, 68])), .d (.s (S [68]))]), (6, [], .c (.d (.i 0)))], [(100, .box 159 [.d (.s (S [])), .d (.b false)])]⟩) _ (by kernel_rfl) (conj1 ((hasPrefix_lit [45, 77, 77, 45, 68, 68] [89, 89, 89, 89] false (by decide) : SpG g _ _ _ _ _))) (fun hc3 => absurd hc3 (by decide)) (fun _ => ?_)
    refine roundE hG hmix [] 1 _ (by kernel_rfl) (conj1 (show inR (0 + 1) from (by intros; first | decide | (simp only [inR] at *; omega) | omega))) ?_ ?_
    · decide
    · decide
  · skip
    refine stepC hG hmix [] [0, 1] (true) (⟨[(0, [], .c (.d (.s (S [45, 77, 77, 45, 68, 68])))), (2, [], .c (.bx 100 0)), (5, [], .agg [.d (.s (S [89, 89, 89, 89])), .d (.s (S [77, 77])), .d (.s (S [77])), .d (.s (S [68, 68])), .d (.s (S [68]))]), (6, [], .c (.d (.i 1)))], [(100, .box 159 [.d (.s (S [])), .d (.b false)])]⟩) _ (by kernel_rfl) conj0 (fun _ => ?_) (fun hc4 => absurd hc4 (by decide))
    refine stepC hG hmix [(4, 2, .call (.c (.d (.b false))) [] [])] [1, 1, 0, 0, 1, 1] (false) (⟨[(0, [], .c (.d (.s (S [45, 77, 77, 45, 68, 68])))), (2, [], .c (.bx 100 0)), (4, [], .c (.d (.s (S [77, 77])))), (5, [], .agg [.d (.s (S [89, 89, 89, 89])), .d (.s (S [77, 77])), .d (.s (S [77])), .d (.s (S [68, 68])), .d (.s (S [68]))]), (6, [], .c (.d (.i 1)))], [(100, .box 159 [.d (.s (S [])), .d (.b false)])]⟩) _ (by kernel_rfl) (conj1 ((hasPrefix_lit [45, 77, 77, 45, 68, 68] [77, 77] false (by decide) : SpG g _ _ _ _ _))) (fun hc5 => absurd hc5 (by decide)) (fun _ => ?_)
    refine roundE hG hmix [] 2 _ (by kernel_rfl) (conj1 (show inR (1 + 1) from (by intros; first | decide | (simp only [inR] at *; omega) | omega))) ?_ ?_
    · decide
    · decide
  · skip
    refine stepC hG hmix [] [0, 1] (true) (⟨[(0, [], .c (.d (.s (S [45, 77, 77, 45, 68, 68])))), (2, [], .c (.bx 100 0)), (5, [], .agg [.d (.s (S [89, 89, 89, 89])), .d (.s (S [77, 77])), .d (.s (S [77])), .d (.s (S [68, 68])), .d (.s (S [68]))]), (6, [], .c (.d (.i 2)))], [(100, .box 159 [.d (.s (S [])), .d (.b false)])]⟩) _ (by kernel_rfl) conj0 (fun _ => ?_) (fun hc6 => absurd hc6 (by decide))
    refine stepC hG hmix [(4, 2, .call (.c (.d (.b false))) [] [])] [1, 1, 0, 0, 1, 1] (false) (⟨[(0, [], .c (.d (.s (S [45, 77, 77, 45, 68, 68])))), (2, [], .c (.bx 100 0)), (4, [], .c (.d (.s (S [77])))), (5, [], .agg [.d (.s (S [89, 89, 89, 89])), .d (.s (S [77, 77])), .d (.s (S [77])), .d (.s (S [68, 68])), .d (.s (S [68]))]), (6, [], .c (.d (.i 2)))], [(100, .box 159 [.d (.s (S [])), .d (.b false)])]⟩) _ (by kernel_rfl) (conj1 ((hasPrefix_lit [45, 77, 77, 45, 68, 68] [77] false (by decide) : SpG g _ _ _ _ _))) (fun hc7 => absurd hc7 (by decide)) (fun _ => ?_)
    refine roundE hG hmix [] 3 _ (by kernel_rfl) (conj1 (show inR (2 + 1) from (by intros; first | decide | (simp only [inR] at *; omega) | omega))) ?_ ?_
    · decide
    · decide
  · skip
    refine stepC hG hmix [] [0, 1] (true) (⟨[(0, [], .c (.d (.s (S [45, 77, 77, 45, 68, 68])))), (2, [], .c (.bx 100 0)), (5, [], .agg [.d (.s (S [89, 89, 89, 89])), .d (.s (S [77, 77])), .d (.s (S [77])), .d (.s (S [68, 68])), .d (.s (S [68]))]), (6, [], .c (.d (.i 3)))], [(100, .box 159 [.d (.s (S [])), .d (.b false)])]⟩) _ (by kernel_rfl) conj0 (fun _ => ?_) (fun hc8 => absurd hc8 (by decide))
    refine stepC hG hmix [(4, 2, .call (.c (.d (.b false))) [] [])] [1, 1, 0, 0, 1, 1] (false) (⟨[(0, [], .c (.d (.s (S [45, 77, 77, 45, 68, 68])))), (2, [], .c (.bx 100 0)), (4, [], .c (.d (.s (S [68, 68])))), (5, [], .agg [.d (.s (S [89, 89, 89, 89])), .d (.s (S [77, 77])), .d (.s (S [77])), .d (.s (S [68, 68])), .d (.s (S [68]))]), (6, [], .c (.d (.i 3)))], [(100, .box 159 [.d (.s (S [])), .d (.b false)])]⟩) _ (by kernel_rfl) (conj1 ((hasPrefix_lit [45, 77, 77, 45, 68, 68] [68, 68] false (by decide) : SpG g _ _ _ _ _))) (fun hc9 => absurd hc9 (by decide)) (fun _ => ?_)
    refine roundE hG hmix [] 4 _ (by kernel_rfl) (conj1 (show inR (3 + 1) from (by intros; first | decide | (simp only [inR] at *; omega) | omega))) ?_ ?_
    · decide
    · decide
  · skip
    refine stepC hG hmix [] [0, 1] (true) (⟨[(0, [], .c (.d (.s (S [45, 77, 77, 45, 68, 68])))), (2, [], .c (.bx 100 0)), (5, [], .agg [.d (.s (S [89, 89, 89, 89])), .d (.s (S [77, 77])), .d (.s (S [77])), .d (.s (S [68, 68])), .d (.s (S [68]))]), (6, [], .c (.d (.i 4)))], [(100, .box 159 [.d (.s (S [])), .d (.b false)])]⟩) _ (by kernel_rfl) conj0 (fun _ => ?_) (fun hc10 => absurd hc10 (by decide))
    refine stepC hG hmix [(4, 2, .call (.c (.d (.b false))) [] [])] [1, 1, 0, 0, 1, 1] (false) (⟨[(0, [], .c (.d (.s (S [45, 77, 77, 45, 68, 68])))), (2, [], .c (.bx 100 0)), (4, [], .c (.d (.s (S [68])))), (5, [], .agg [.d (.s (S [89, 89, 89, 89])), .d (.s (S [77, 77])), .d (.s (S [77])), .d (.s (S [68, 68])), .d (.s (S [68]))]), (6, [], .c (.d (.i 4)))], [(100, .box 159 [.d (.s (S [])), .d (.b false)])]⟩) _ (by kernel_rfl) (conj1 ((hasPrefix_lit [45, 77, 77, 45, 68, 68] [68] false (by decide) : SpG g _ _ _ _ _))) (fun hc11 => absurd hc11 (by decide)) (fun _ => ?_)
    refine roundE hG hmix [] 5 _ (by kernel_rfl) (conj1 (show inR (4 + 1) from (by intros; first | decide | (simp only [inR] at *; omega) | omega))) ?_ ?_
    · decide
    · decide
  · skip
    refine stepC hG hmix [] [0, 1] (false) (⟨[(0, [], .c (.d (.s (S [45, 77, 77, 45, 68, 68])))), (2, [], .c (.bx 100 0)), (5, [], .agg [.d (.s (S [89, 89, 89, 89])), .d (.s (S [77, 77])), .d (.s (S [77])), .d (.s (S [68, 68])), .d (.s (S [68]))]), (6, [], .c (.d (.i 5)))], [(100, .box 159 [.d (.s (S [])), .d (.b false)])]⟩) _ (by kernel_rfl) conj0 (fun hc12 => absurd hc12 (by decide)) (fun _ => ?_)
    refine leaveE hG hmix [] (.exit 0) (⟨[(0, [], .c (.d (.s (S [45, 77, 77, 45, 68, 68])))), (2, [], .c (.bx 100 0))], [(100, .box 159 [.d (.s (S [])), .d (.b false)])]⟩) _ (by kernel_rfl) conj0 rfl ?_
    refine stepR' hG hmix [] [] (.agg [.d (.s (S [45])), .d (.b false)]) [] (by kernel_rfl) (conj1 (show (0 : Int) ≤ 0 ∧ (0 : Int) ≤ 1 ∧ 1 ≤ ((S [45, 77, 77, 45, 68, 68]).size : Int) from (by decide))) ?_ ?_
    · rfl
    · rfl
theorem first2  :
    SpG g 173 [.c (.d (.s (S [77, 77, 45, 68, 68])))] [] (.agg [.d (.s (S [77, 77])), .d (.b true)]) [] := by
  refine enterB 18 Tryz.func173 (by kernel_rfl) fun fr hG => ?_
  refine stepL hG hmix [] [0, 1, 0, 1] ((fun (zz : Nat) => match zz with | i => ⟨[(0, [], .c (.d (.s (S [77, 77, 45, 68, 68])))), (2, [], .c (.bx 100 0)), (5, [], .agg [.d (.s (S [89, 89, 89, 89])), .d (.s (S [77, 77])), .d (.s (S [77])), .d (.s (S [68, 68])), .d (.s (S [68]))]), (6, [], .c (.d (.i (i : Int))))], [(100, .box 159 [.d (.s (S [])), .d (.b false)])]⟩) 0) _ (by kernel_rfl) conj0 ?_
  refine loopR (σ := Nat) (fun (zz : Nat) => match zz with | i => 6 - i) (fun (zz : Nat) => match zz with | i => ⟨[(0, [], .c (.d (.s (S [77, 77, 45, 68, 68])))), (2, [], .c (.bx 100 0)), (5, [], .agg [.d (.s (S [89, 89, 89, 89])), .d (.s (S [77, 77])), .d (.s (S [77])), .d (.s (S [68, 68])), .d (.s (S [68]))]), (6, [], .c (.d (.i (i : Int))))], [(100, .box 159 [.d (.s (S [])), .d (.b false)])]⟩) (fun (zz : Nat) => match zz with | i => i ≤ 1) 0 (by kernel_rfl) ?_ ?_
  · exact Nat.zero_le _
  rintro i hI
  rcases (by omega : i = 0 ∨ i = 1) with rfl | rfl
  · skip
    refine stepC hG hmix [] [0, 1] (true) (⟨[(0, [], .c (.d (.s (S [77, 77, 45, 68, 68])))), (2, [], .c (.bx 100 0)), (5, [], .agg [.d (.s (S [89, 89, 89, 89])), .d (.s (S [77, 77])), .d (.s (S [77])), .d (.s (S [68, 68])), .d (.s (S [68]))]), (6, [], .c (.d (.i 0)))], [(100, .box 159 [.d (.s (S [])), .d (.b false)])]⟩) _ (by kernel_rfl) conj0 (fun _ => ?_) (fun hc2 => absurd hc2 (by decide))
    refine stepC hG hmix [(4, 2, .call (.c (.d (.b false))) [] [])] [1, 1, 0, 0, 1, 1] (false) (⟨[(0, [], .c (.d (.s (S [77, 77, 45, 68, 68])))), (2, [], .c (.bx 100 0)), (4, [], .c (.d (.s (S [89, 89, 89, 89])))), (5, [], .agg [.d (.s (S [89, 89, 89, 89])), .d (.s (S [77, 77])), .d (.s (S [77])), .d (.s (S [68, 68])), .d (.s (S [68]))]), (6, [], .c (.d (.i 0)))], [(100, .box 159 [.d (.s (S [])), .d (.b false)])]⟩) _ (by kernel_rfl) (conj1 ((hasPrefix_lit [77, 77, 45, 68, 68] [89, 89, 89, 89] false (by decide) : SpG g _ _ _ _ _))) (fun hc3 => absurd hc3 (by decide)) (fun _ => ?_)
    refine roundE hG hmix [] 1 _ (by kernel_rfl) (conj1 (show inR (0 + 1) from (by intros; first | decide | (simp only [inR] at *; omega) | omega))) ?_ ?_
    · decide
    · decide
  · skip
    refine stepC hG hmix [] [0, 1] (true) (⟨[(0, [], .c (.d (.s (S [77, 77, 45, 68, 68])))), (2, [], .c (.bx 100 0)), (5, [], .agg [.d (.s (S [89, 89, 89, 89])), .d (.s (S [77, 77])), .d (.s (S [77])), .d (.s (S [68, 68])), .d (.s (S [68]))]), (6, [], .c (.d (.i 1)))], [(100, .box 159 [.d (.s (S [])), .d (.b false)])]⟩) _ (by kernel_rfl) conj0 (fun _ => ?_) (fun hc4 => absurd hc4 (by decide))
    refine stepC hG hmix [(4, 2, .call (.c (.d (.b true))) [] [])] [1, 1, 0, 0, 1, 1] (true) (⟨[(0, [], .c (.d (.s (S [77, 77, 45, 68, 68])))), (2, [], .c (.bx 100 0)), (4, [], .c (.d (.s (S [77, 77])))), (5, [], .agg [.d (.s (S [89, 89, 89, 89])), .d (.s (S [77, 77])), .d (.s (S [77])), .d (.s (S [68, 68])), .d (.s (S [68]))]), (6, [], .c (.d (.i 1)))], [(100, .box 159 [.d (.s (S [])), .d (.b false)])]⟩) _ (by kernel_rfl) (conj1 ((hasPrefix_lit [77, 77, 45, 68, 68] [77, 77] true (by decide) : SpG g _ _ _ _ _))) (fun _ => ?_) (fun hc5 => absurd hc5 (by decide))
    refine leaveE hG hmix [] .ret (⟨[(0, [], .c (.d (.s (S [77, 77, 45, 68, 68])))), (2, [], .c (.bx 100 0))], [(100, .box 159 [.d (.s (S [77, 77])), .d (.b true)])]⟩) _ (by kernel_rfl) conj0 rfl ?_
    refine stepR' hG hmix [] [] (.agg [.d (.s (S [77, 77])), .d (.b true)]) [] (by kernel_rfl) conj0 ?_ ?_
    · rfl
    · rfl
theorem first3  :
    SpG g 173 [.c (.d (.s (S [45, 68, 68])))] [] (.agg [.d (.s (S [45])), .d (.b false)]) [] := by
  refine enterB 18 Tryz.func173 (by kernel_rfl) fun fr hG => ?_
  refine stepL hG hmix [] [0, 1, 0, 1] ((fun (zz : Nat) => match zz with | i => ⟨[(0, [], .c (.d (.s (S [45, 68, 68])))), (2, [], .c (.bx 100 0)), (5, [], .agg [.d (.s (S [89, 89, 89, 89])), .d (.s (S [77, 77])), .d (.s (S [77])), .d (.s (S [68, 68])), .d (.s (S [68]))]), (6, [], .c (.d (.i (i : Int))))], [(100, .box 159 [.d (.s (S [])), .d (.b false)])]⟩) 0) _ (by kernel_rfl) conj0 ?_
  refine loopR (σ := Nat) (fun (zz : Nat) => match zz with | i => 6 - i) (fun (zz : Nat) => match zz with | i => ⟨[(0, [], .c (.d (.s (S [45, 68, 68])))), (2, [], .c (.bx 100 0)), (5, [], .agg [.d (.s (S [89, 89, 89, 89])), .d (.s (S [77, 77])), .d (.s (S [77])), .d (.s (S [68, 68])), .d (.s (S [68]))]), (6, [], .c (.d (.i (i : Int))))], [(100, .box 159 [.d (.s (S [])), .d (.b false)])]⟩) (fun (zz : Nat) => match zz with | i => i ≤ 5) 0 (by kernel_rfl) ?_ ?_
  · exact Nat.zero_le _
  rintro i hI
  rcases (by omega : i = 0 ∨ i = 1 ∨ i = 2 ∨ i = 3 ∨ i = 4 ∨ i = 5) with rfl | rfl | rfl | rfl | rfl | rfl
  · skip
    refine stepC hG hmix [] [0, 1] (true) (⟨[(0, [], .c (.d (.s (S [45, 68, 68])))), (2, [], .c (.bx 100 0)), (5, [], .agg [.d (.s (S [89, 89, 89, 89])), .d (.s (S [77, 77])), .d (.s (S [77])), .d (.s (S [68, 68])), .d (.s (S [68]))]), (6, [], .c (.d (.i 0)))], [(100, .box 159 [.d (.s (S [])), .d (.b false)])]⟩) _ (by kernel_rfl) conj0 (fun _ => ?_) (fun hc2 => absurd hc2 (by decide))
    refine stepC hG hmix [(4, 2, .call (.c (.d (.b false))) [] [])] [1, 1, 0, 0, 1, 1] (false) (⟨[(0, [], .c (.d (.s (S [45, 68, 68])))), (2, [], .c (.bx 100 0)), (4, [], .c (.d (.s (S [89, 89, 89, 89])))), (5, [], .agg [.d (.s (S [89, 89, 89, 89])), .d (.s (S [77, 77])), .d (.s (S [77])), .d (.s (S [68, 68])), .d (.s (S [68]))]), (6, [], .c (.d (.i 0)))], [(100, .box 159 [.d (.s (S [])), .d (.b false)])]⟩) _ (by kernel_rfl) (conj1 ((hasPrefix_lit [45, 68, 68] [89, 89, 89, 89] false (by decide) : SpG g _ _ _ _ _))) (fun hc3 => absurd hc3 (by decide)) (fun _ => ?_)
    refine roundE hG hmix [] 1 _ (by kernel_rfl) (conj1 (show inR (0 + 1) from (by intros; first | decide | (simp only [inR] at *; omega) | omega))) ?_ ?_
    · decide
    · decide
  · skip
    refine stepC hG hmix [] [0, 1] (true) (⟨[(0, [], .c (.d (.s (S [45, 68, 68])))), (2, [], .c (.bx 100 0)), (5, [], .agg [.d (.s (S [89, 89, 89, 89])), .d (.s (S [77, 77])), .d (.s (S [77])), .d (.s (S [68, 68])), .d (.s (S [68]))]), (6, [], .c (.d (.i 1)))], [(100, .box 159 [.d (.s (S [])), .d (.b false)])]⟩) _ (by kernel_rfl) conj0 (fun _ => ?_) (fun hc4 => absurd hc4 (by decide))
    refine stepC hG hmix [(4, 2, .call (.c (.d (.b false))) [] [])] [1, 1, 0, 0, 1, 1] (false) (⟨[(0, [], .c (.d (.s (S [45, 68, 68])))), (2, [], .c (.bx 100 0)), (4, [], .c (.d (.s (S [77, 77])))), (5, [], .agg [.d (.s (S [89, 89, 89, 89])), .d (.s (S [77, 77])), .d (.s (S [77])), .d (.s (S [68, 68])), .d (.s (S [68]))]), (6, [], .c (.d (.i 1)))], [(100, .box 159 [.d (.s (S [])), .d (.b false)])]⟩) _ (by kernel_rfl) (conj1 ((hasPrefix_lit [45, 68, 68] [77, 77] false (by decide) : SpG g _ _ _ _ _))) (fun hc5 => absurd hc5 (by decide)) (fun _ => ?_)
    refine roundE hG hmix [] 2 _ (by kernel_rfl) (conj1 (show inR (1 + 1) from (by intros; first | decide | (simp only [inR] at *; omega) | omega))) ?_ ?_
    · decide
    · decide
  · skip
    refine stepC hG hmix [] [0, 1] (true) (⟨[(0, [], .c (.d (.s (S [45, 68, 68])))), (2, [], .c (.bx 100 0)), (5, [], .agg [.d (.s (S [89, 89, 89, 89])), .d (.s (S [77, 77])), .d (.s (S [77])), .d (.s (S [68, 68])), .d (.s (S [68]))]), (6, [], .c (.d (.i 2)))], [(100, .box 159 [.d (.s (S [])), .d (.b false)])]⟩) _ (by kernel_rfl) conj0 (fun _ => ?_) (fun hc6 => absurd hc6 (by decide))
    refine stepC hG hmix [(4, 2, .call (.c (.d (.b false))) [] [])] [1, 1, 0, 0, 1, 1] (false) (⟨[(0, [], .c (.d (.s (S [45, 68, 68])))), (2, [], .c (.bx 100 0)), (4, [], .c (.d (.s (S [77])))), (5, [], .agg [.d (.s (S [89, 89, 89, 89])), .d (.s (S [77, 77])), .d (.s (S [77])), .d (.s (S [68, 68])), .d (.s (S [68]))]), (6, [], .c (.d (.i 2)))], [(100, .box 159 [.d (.s (S [])), .d (.b false)])]⟩) _ (by kernel_rfl) (conj1 ((hasPrefix_lit [45, 68, 68] [77] false (by decide) : SpG g _ _ _ _ _))) (fun hc7 => absurd hc7 (by decide)) (fun _ => ?_)
    refine roundE hG hmix [] 3 _ (by kernel_rfl) (conj1 (show inR (2 + 1) from (by intros; first | decide | (simp only [inR] at *; omega) | omega))) ?_ ?_
    · decide
    · decide
  · skip
    refine stepC hG hmix [] [0, 1] (true) (⟨[(0, [], .c (.d (.s (S [45, 68, 68])))), (2, [], .c (.bx 100 0)), (5, [], .agg [.d (.s (S [89, 89, 89, 89])), .d (.s (S [77, 77])), .d (.s (S [77])), .d (.s (S [68, 68])), .d (.s (S [68]))]), (6, [], .c (.d (.i 3)))], [(100, .box 159 [.d (.s (S [])), .d (.b false)])]⟩) _ (by kernel_rfl) conj0 (fun _ => ?_) (fun hc8 => absurd hc8 (by decide))
    refine stepC hG hmix [(4, 2, .call (.c (.d (.b false))) [] [])] [1, 1, 0, 0, 1, 1] (false) (⟨[(0, [], .c (.d (.s (S [45, 68, 68])))), (2, [], .c (.bx 100 0)), (4, [], .c (.d (.s (S [68, 68])))), (5, [], .agg [.d (.s (S [89, 89, 89, 89])), .d (.s (S [77, 77])), .d (.s (S [77])), .d (.s (S [68, 68])), .d (.s (S [68]))]), (6, [], .c (.d (.i 3)))], [(100, .box 159 [.d (.s (S [])), .d (.b false)])]⟩) _ (by kernel_rfl) (conj1 ((hasPrefix_lit [45, 68, 68] [68, 68] false (by decide) : SpG g _ _ _ _ _))) (fun hc9 => absurd hc9 (by decide)) (fun _ => ?_)
    refine roundE hG hmix [] 4 _ (by kernel_rfl) (conj1 (show inR (3 + 1) from (by intros; first | decide | (simp only [inR] at *; omega) | omega))) ?_ ?_
    · decide
    · decide
  · skip
    refine stepC hG hmix [] [0, 1] (true) (⟨[(0, [], .c (.d (.s (S [45, 68, 68])))), (2, [], .c (.bx 100 0)), (5, [], .agg [.d (.s (S [89, 89, 89, 89])), .d (.s (S [77, 77])), .d (.s (S [77])), .d (.s (S [68, 68])), .d (.s (S [68]))]), (6, [], .c (.d (.i 4)))], [(100, .box 159 [.d (.s (S [])), .d (.b false)])]⟩) _ (by kernel_rfl) conj0 (fun _ => ?_) (fun hc10 => absurd hc10 (by decide))
    refine stepC hG hmix [(4, 2, .call (.c (.d (.b false))) [] [])] [1, 1, 0, 0, 1, 1] (false) (⟨[(0, [], .c (.d (.s (S [45, 68, 68])))), (2, [], .c (.bx 100 0)), (4, [], .c (.d (.s (S [68])))), (5, [], .agg [.d (.s (S [89, 89, 89, 89])), .d (.s (S [77, 77])), .d (.s (S [77])), .d (.s (S [68, 68])), .d (.s (S [68]))]), (6, [], .c (.d (.i 4)))], [(100, .box 159 [.d (.s (S [])), .d (.b false)])]⟩) _ (by kernel_rfl) (conj1 ((hasPrefix_lit [45, 68, 68] [68] false (by decide) : SpG g _ _ _ _ _))) (fun hc11 => absurd hc11 (by decide)) (fun _ => ?_)
    refine roundE hG hmix [] 5 _ (by kernel_rfl) (conj1 (show inR (4 + 1) from (by intros; first | decide | (simp only [inR] at *; omega) | omega))) ?_ ?_
    · decide
    · decide
  · skip
    refine stepC hG hmix [] [0, 1] (false) (⟨[(0, [], .c (.d (.s (S [45, 68, 68])))), (2, [], .c (.bx 100 0)), (5, [], .agg [.d (.s (S [89, 89, 89, 89])), .d (.s (S [77, 77])), .d (.s (S [77])), .d (.s (S [68, 68])), .d (.s (S [68]))]), (6, [], .c (.d (.i 5)))], [(100, .box 159 [.d (.s (S [])), .d (.b false)])]⟩) _ (by kernel_rfl) conj0 (fun hc12 => absurd hc12 (by decide)) (fun _ => ?_)
    refine leaveE hG hmix [] (.exit 0) (⟨[(0, [], .c (.d (.s (S [45, 68, 68])))), (2, [], .c (.bx 100 0))], [(100, .box 159 [.d (.s (S [])), .d (.b false)])]⟩) _ (by kernel_rfl) conj0 rfl ?_
    refine stepR' hG hmix [] [] (.agg [.d (.s (S [45])), .d (.b false)]) [] (by kernel_rfl) (conj1 (show (0 : Int) ≤ 0 ∧ (0 : Int) ≤ 1 ∧ 1 ≤ ((S [45, 68, 68]).size : Int) from (by decide))) ?_ ?_
    · rfl
    · rfl
theorem first4  :
    SpG g 173 [.c (.d (.s (S [68, 68])))] [] (.agg [.d (.s (S [68, 68])), .d (.b true)]) [] := by
  refine enterB 18 Tryz.func173 (by kernel_rfl) fun fr hG => ?_
  refine stepL hG hmix [] [0, 1, 0, 1] ((fun (zz : Nat) => match zz with | i => ⟨[(0, [], .c (.d (.s (S [68, 68])))), (2, [], .c (.bx 100 0)), (5, [], .agg [.d (.s (S [89, 89, 89, 89])), .d (.s (S [77, 77])), .d (.s (S [77])), .d (.s (S [68, 68])), .d (.s (S [68]))]), (6, [], .c (.d (.i (i : Int))))], [(100, .box 159 [.d (.s (S [])), .d (.b false)])]⟩) 0) _ (by kernel_rfl) conj0 ?_
  refine loopR (σ := Nat) (fun (zz : Nat) => match zz with | i => 6 - i) (fun (zz : Nat) => match zz with | i => ⟨[(0, [], .c (.d (.s (S [68, 68])))), (2, [], .c (.bx 100 0)), (5, [], .agg [.d (.s (S [89, 89, 89, 89])), .d (.s (S [77, 77])), .d (.s (S [77])), .d (.s (S [68, 68])), .d (.s (S [68]))]), (6, [], .c (.d (.i (i : Int))))], [(100, .box 159 [.d (.s (S [])), .d (.b false)])]⟩) (fun (zz : Nat) => match zz with | i => i ≤ 3) 0 (by kernel_rfl) ?_ ?_
  · exact Nat.zero_le _
  rintro i hI
  rcases (by omega : i = 0 ∨ i = 1 ∨ i = 2 ∨ i = 3) with rfl | rfl | rfl | rfl
  · skip
    refine stepC hG hmix [] [0, 1] (true) (⟨[(0, [], .c (.d (.s (S [68, 68])))), (2, [], .c (.bx 100 0)), (5, [], .agg [.d (.s (S [89, 89, 89, 89])), .d (.s (S [77, 77])), .d (.s (S [77])), .d (.s (S [68, 68])), .d (.s (S [68]))]), (6, [], .c (.d (.i 0)))], [(100, .box 159 [.d (.s (S [])), .d (.b false)])]⟩) _ (by kernel_rfl) conj0 (fun _ => ?_) (fun hc2 => absurd hc2 (by decide))
    refine stepC hG hmix [(4, 2, .call (.c (.d (.b false))) [] [])] [1, 1, 0, 0, 1, 1] (false) (⟨[(0, [], .c (.d (.s (S [68, 68])))), (2, [], .c (.bx 100 0)), (4, [], .c (.d (.s (S [89, 89, 89, 89])))), (5, [], .agg [.d (.s (S [89, 89, 89, 89])), .d (.s (S [77, 77])), .d (.s (S [77])), .d (.s (S [68, 68])), .d (.s (S [68]))]), (6, [], .c (.d (.i 0)))], [(100, .box 159 [.d (.s (S [])), .d (.b false)])]⟩) _ (by kernel_rfl) (conj1 ((hasPrefix_lit [68, 68] [89, 89, 89, 89] false (by decide) : SpG g _ _ _ _ _))) (fun hc3 => absurd hc3 (by decide)) (fun _ => ?_)
    refine roundE hG hmix [] 1 _ (by kernel_rfl) (conj1 (show inR (0 + 1) from (by intros; first | decide | (simp only [inR] at *; omega) | omega))) ?_ ?_
    · decide
    · decide
  · skip
    refine stepC hG hmix [] [0, 1] (true) (⟨[(0, [], .c (.d (.s (S [68, 68])))), (2, [], .c (.bx 100 0)), (5, [], .agg [.d (.s (S [89, 89, 89, 89])), .d (.s (S [77, 77])), .d (.s (S [77])), .d (.s (S [68, 68])), .d (.s (S [68]))]), (6, [], .c (.d (.i 1)))], [(100, .box 159 [.d (.s (S [])), .d (.b false)])]⟩) _ (by kernel_rfl) conj0 (fun _ => ?_) (fun hc4 => absurd hc4 (by decide))
    refine stepC hG hmix [(4, 2, .call (.c (.d (.b false))) [] [])] [1, 1, 0, 0, 1, 1] (false) (⟨[(0, [], .c (.d (.s (S [68, 68])))), (2, [], .c (.bx 100 0)), (4, [], .c (.d (.s (S [77, 77])))), (5, [], .agg [.d (.s (S [89, 89, 89, 89])), .d (.s (S [77, 77])), .d (.s (S [77])), .d (.s (S [68, 68])), .d (.s (S [68]))]), (6, [], .c (.d (.i 1)))], [(100, .box 159 [.d (.s (S [])), .d (.b false)])]⟩) _ (by kernel_rfl) (conj1 ((hasPrefix_lit [68, 68] [77, 77] false (by decide) : SpG g _ _ _ _ _))) (fun hc5 => absurd hc5 (by decide)) (fun _ => ?_)
    refine roundE hG hmix [] 2 _ (by kernel_rfl) (conj1 (show inR (1 + 1) from (by intros; first | decide | (simp only [inR] at *; omega) | omega))) ?_ ?_
    · decide
    · decide
  · skip
    refine stepC hG hmix [] [0, 1] (true) (⟨[(0, [], .c (.d (.s (S [68, 68])))), (2, [], .c (.bx 100 0)), (5, [], .agg [.d (.s (S [89, 89, 89, 89])), .d (.s (S [77, 77])), .d (.s (S [77])), .d (.s (S [68, 68])), .d (.s (S [68]))]), (6, [], .c (.d (.i 2)))], [(100, .box 159 [.d (.s (S [])), .d (.b false)])]⟩) _ (by kernel_rfl) conj0 (fun _ => ?_) (fun hc6 => absurd hc6 (by decide))
    refine stepC hG hmix [(4, 2, .call (.c (.d (.b false))) [] [])] [1, 1, 0, 0, 1, 1] (false) (⟨[(0, [], .c (.d (.s (S [68, 68])))), (2, [], .c (.bx 100 0)), (4, [], .c (.d (.s (S [77])))), (5, [], .agg [.d (.s (S [89, 89, 89, 89])), .d (.s (S [77, 77])), .d (.s (S [77])), .d (.s (S [68, 68])), .d (.s (S [68]))]), (6, [], .c (.d (.i 2)))], [(100, .box 159 [.d (.s (S [])), .d (.b false)])]⟩) _ (by kernel_rfl) (conj1 ((hasPrefix_lit [68, 68] [77] false (by decide) : SpG g _ _ _ _ _))) (fun hc7 => absurd hc7 (by decide)) (fun _ => ?_)
    refine roundE hG hmix [] 3 _ (by kernel_rfl) (conj1 (show inR (2 + 1) from (by intros; first | decide | (simp only [inR] at *; omega) | omega))) ?_ ?_
    · decide
    · decide
  · skip
    refine stepC hG hmix [] [0, 1] (true) (⟨[(0, [], .c (.d (.s (S [68, 68])))), (2, [], .c (.bx 100 0)), (5, [], .agg [.d (.s (S [89, 89, 89, 89])), .d (.s (S [77, 77])), .d (.s (S [77])), .d (.s (S [68, 68])), .d (.s (S [68]))]), (6, [], .c (.d (.i 3)))], [(100, .box 159 [.d (.s (S [])), .d (.b false)])]⟩) _ (by kernel_rfl) conj0 (fun _ => ?_) (fun hc8 => absurd hc8 (by decide))
    refine stepC hG hmix [(4, 2, .call (.c (.d (.b true))) [] [])] [1, 1, 0, 0, 1, 1] (true) (⟨[(0, [], .c (.d (.s (S [68, 68])))), (2, [], .c (.bx 100 0)), (4, [], .c (.d (.s (S [68, 68])))), (5, [], .agg [.d (.s (S [89, 89, 89, 89])), .d (.s (S [77, 77])), .d (.s (S [77])), .d (.s (S [68, 68])), .d (.s (S [68]))]), (6, [], .c (.d (.i 3)))], [(100, .box 159 [.d (.s (S [])), .d (.b false)])]⟩) _ (by kernel_rfl) (conj1 ((hasPrefix_lit [68, 68] [68, 68] true (by decide) : SpG g _ _ _ _ _))) (fun _ => ?_) (fun hc9 => absurd hc9 (by decide))
    refine leaveE hG hmix [] .ret (⟨[(0, [], .c (.d (.s (S [68, 68])))), (2, [], .c (.bx 100 0))], [(100, .box 159 [.d (.s (S [68, 68])), .d (.b true)])]⟩) _ (by kernel_rfl) conj0 rfl ?_
    refine stepR' hG hmix [] [] (.agg [.d (.s (S [68, 68])), .d (.b true)]) [] (by kernel_rfl) conj0 ?_ ?_
    · rfl
    · rfl
theorem plain45  :
    SpG g 170 [.c (.d (.y 45))] [] (.c (.d (.b true))) [] := by
  refine enterB 27 Tryz.func170 (by kernel_rfl) fun fr hG => ?_
  refine stepC hG hmix [] [1, 0, 1] (false) (⟨[(0, [], .c (.d (.y 45))), (2, [], .c (.d (.b false)))], []⟩) _ (by kernel_rfl) conj0 (fun hc1 => absurd hc1 (by decide)) (fun _ => ?_)
  refine stepR' hG hmix [] [] (.c (.d (.b true))) [] (by kernel_rfl) conj0 ?_ ?_
  · rfl
  · rfl
theorem tokens_ok (s : ByteArray) :
    SpG g 125 [.c (.d (.s s))] [] (.c (.fn 172 [] [(100, 0)])) [(100, .box 9 [.d (.s s)])] := by
  refine enterB 4 Tryz.func125 (by kernel_rfl) fun fr hG => ?_
  refine stepR' hG hmix [] [100] (.c (.fn 172 [] [(100, 0)])) [(100, .box 9 [.d (.s s)])] (by kernel_rfl) conj0 ?_ ?_
  · rfl
  · rfl
theorem rightY0 (b3 b4 b5 b6 D l : Nat) (fn : FuncId) (tm : Array Value) (h3 : tm.getD 3 undef = .pointer (some ⟨b3, 0, none⟩)) (h4 : tm.getD 4 undef = .pointer (some ⟨b4, 0, none⟩)) (h5 : tm.getD 5 undef = .pointer (some ⟨b5, 0, none⟩)) (h6 : tm.getD 6 undef = .pointer (some ⟨b6, 0, none⟩)) (hn : tm.size = 69) :
    YSpec Tryz.prog (Gl g) l [.agg [.d (.s (S [89, 89, 89, 89])), .d (.b true)]] [(0, .box ⟨.raw (.loop (recOf (bodyOf Tryz.f123) [0, 1, 0, 1, 1, 1, 1] fn tm D)), some l⟩ []), (1, .box ⟨.c 3, some b3⟩ [.d (.i 0)]), (2, .box ⟨.c 3, some b4⟩ [.d (.i 0)]), (3, .box ⟨.c 3, some b5⟩ [.d (.i 0)]), (4, .box ⟨.c 4, some b6⟩ [.d (.b false)])] (.c (.d (.b true))) [(0, .box ⟨.raw (.loop (recOf (bodyOf Tryz.f123) [0, 1, 0, 1, 1, 1, 1] fn tm D)), some l⟩ []), (1, .box ⟨.c 3, some b3⟩ [.d (.i 1)]), (2, .box ⟨.c 3, some b4⟩ [.d (.i 0)]), (3, .box ⟨.c 3, some b5⟩ [.d (.i 0)]), (4, .box ⟨.c 4, some b6⟩ [.d (.b false)])] := by
  refine enterY (iL := 0) (p := 13) (env0 := [(3, [], .c (.bx 1 0)), (4, [], .c (.bx 2 0)), (5, [], .c (.bx 3 0)), (6, [], .c (.bx 4 0))]) (n := 69) (r := (recOf (bodyOf Tryz.f123) [0, 1, 0, 1, 1, 1, 1] fn tm D)) rfl (by kernel_rfl) hn (by decide) ⟨rfl, ⟨_, _, _, rfl, rfl, h3⟩, ⟨rfl, ⟨_, _, _, rfl, rfl, h4⟩, ⟨rfl, ⟨_, _, _, rfl, rfl, h5⟩, ⟨rfl, ⟨_, _, _, rfl, rfl, h6⟩, trivial⟩⟩⟩⟩ rfl fun fr hG => ?_
  refine stepB hG hmix [] (⟨[(3, [], .c (.bx 1 0)), (4, [], .c (.bx 2 0)), (5, [], .c (.bx 3 0)), (6, [], .c (.bx 4 0)), (7, [], .c (.bx 700 0))], [(0, .box ⟨.raw (.loop (recOf (bodyOf Tryz.f123) [0, 1, 0, 1, 1, 1, 1] fn tm D)), some l⟩ []), (1, .box ⟨.c 3, some b3⟩ [.d (.i 0)]), (2, .box ⟨.c 3, some b4⟩ [.d (.i 0)]), (3, .box ⟨.c 3, some b5⟩ [.d (.i 0)]), (4, .box ⟨.c 4, some b6⟩ [.d (.b false)]), (700, .box 159 [.d (.s (S [89, 89, 89, 89])), .d (.b true)])]⟩) 0 (r := (recOf (bodyOf Tryz.f123) [0, 1, 0, 1, 1, 1, 1] fn tm D)) (by kernel_rfl) conj0 rfl rfl ?_
  refine stepK hG (⟨[(3, [], .c (.bx 1 0)), (4, [], .c (.bx 2 0)), (5, [], .c (.bx 3 0)), (6, [], .c (.bx 4 0)), (7, [], .c (.bx 700 0))], [(0, .box ⟨.raw (.loop { (recOf (bodyOf Tryz.f123) [0, 1, 0, 1, 1, 1, 1] fn tm D) with state := .busy }), some l⟩ []), (1, .box ⟨.c 3, some b3⟩ [.d (.i 0)]), (2, .box ⟨.c 3, some b4⟩ [.d (.i 0)]), (3, .box ⟨.c 3, some b5⟩ [.d (.i 0)]), (4, .box ⟨.c 4, some b6⟩ [.d (.b false)]), (700, .box 159 [.d (.s (S [89, 89, 89, 89])), .d (.b true)])]⟩) (by kernel_rfl) ?_
  refine stepC hG hmix [(7, 13, .call (.c (.d (.b true))) [] [])] [1, 0, 0] (false) (⟨[(3, [], .c (.bx 1 0)), (4, [], .c (.bx 2 0)), (5, [], .c (.bx 3 0)), (6, [], .c (.bx 4 0)), (7, [], .c (.bx 700 0))], [(0, .box ⟨.raw (.loop { (recOf (bodyOf Tryz.f123) [0, 1, 0, 1, 1, 1, 1] fn tm D) with state := .busy }), some l⟩ []), (1, .box ⟨.c 3, some b3⟩ [.d (.i 0)]), (2, .box ⟨.c 3, some b4⟩ [.d (.i 0)]), (3, .box ⟨.c 3, some b5⟩ [.d (.i 0)]), (4, .box ⟨.c 4, some b6⟩ [.d (.b false)]), (700, .box 159 [.d (.s (S [89, 89, 89, 89])), .d (.b true)])]⟩) _ (by kernel_rfl) (conjC (show false = true → false = false → (0 : Int) ≤ 0 ∧ 0 < ((S [89, 89, 89, 89]).size : Int) from fun hg1 hg2 => absurd hg1 (by decide)) (conj1 (show false = true → false = false → SpG g 170 [.c (.d (.y 89))] [] (.c (.d (.b true))) [] from fun hg1 hg2 => absurd hg1 (by decide)))) (fun hc1 => absurd hc1 (by decide)) (fun _ => ?_)
  refine stepC hG hmix [] [1, 0, 1, 1, 0] (false) (⟨[(3, [], .c (.bx 1 0)), (4, [], .c (.bx 2 0)), (5, [], .c (.bx 3 0)), (7, [], .c (.bx 700 0))], [(0, .box ⟨.raw (.loop { (recOf (bodyOf Tryz.f123) [0, 1, 0, 1, 1, 1, 1] fn tm D) with state := .busy }), some l⟩ []), (1, .box ⟨.c 3, some b3⟩ [.d (.i 0)]), (2, .box ⟨.c 3, some b4⟩ [.d (.i 0)]), (3, .box ⟨.c 3, some b5⟩ [.d (.i 0)]), (4, .box ⟨.c 4, some b6⟩ [.d (.b false)]), (700, .box 159 [.d (.s (S [89, 89, 89, 89])), .d (.b true)])]⟩) _ (by kernel_rfl) conj0 (fun hc2 => absurd hc2 (by decide)) (fun _ => ?_)
  refine stepC hG hmix [] [1, 1, 1, 0, 1, 1, 0] (true) (⟨[(3, [], .c (.bx 1 0)), (4, [], .c (.bx 2 0)), (5, [], .c (.bx 3 0)), (7, [], .c (.bx 700 0))], [(0, .box ⟨.raw (.loop { (recOf (bodyOf Tryz.f123) [0, 1, 0, 1, 1, 1, 1] fn tm D) with state := .busy }), some l⟩ []), (1, .box ⟨.c 3, some b3⟩ [.d (.i 0)]), (2, .box ⟨.c 3, some b4⟩ [.d (.i 0)]), (3, .box ⟨.c 3, some b5⟩ [.d (.i 0)]), (4, .box ⟨.c 4, some b6⟩ [.d (.b false)]), (700, .box 159 [.d (.s (S [89, 89, 89, 89])), .d (.b true)])]⟩) _ (by kernel_rfl) (conj1 (show (0 : Int) ≤ 0 ∧ 0 < ((S [89, 89, 89, 89]).size : Int) from (by decide))) (fun _ => ?_) (fun hc3 => absurd hc3 (by decide))
  refine stepY hG hmix [] [] 0 .normal [(0, .box ⟨.raw (endL { (recOf (bodyOf Tryz.f123) [0, 1, 0, 1, 1, 1, 1] fn tm D) with state := .busy } .normal), some l⟩ []), (1, .box ⟨.c 3, some b3⟩ [.d (.i (0 + 1))]), (2, .box ⟨.c 3, some b4⟩ [.d (.i 0)]), (3, .box ⟨.c 3, some b5⟩ [.d (.i 0)]), (4, .box ⟨.c 4, some b6⟩ [.d (.b false)])] (by kernel_rfl) (conj1 (show inR (0 + 1) from (by intros; first | decide | (simp only [inR] at *; omega) | omega))) ?_ ?_
  · rfl
  · rfl
theorem rightY1 (b3 b4 b5 b6 D l : Nat) (fn : FuncId) (tm : Array Value) (h3 : tm.getD 3 undef = .pointer (some ⟨b3, 0, none⟩)) (h4 : tm.getD 4 undef = .pointer (some ⟨b4, 0, none⟩)) (h5 : tm.getD 5 undef = .pointer (some ⟨b5, 0, none⟩)) (h6 : tm.getD 6 undef = .pointer (some ⟨b6, 0, none⟩)) (hn : tm.size = 69) :
    YSpec Tryz.prog (Gl g) l [.agg [.d (.s (S [45])), .d (.b false)]] [(0, .box ⟨.raw (.loop (recOf (bodyOf Tryz.f123) [0, 1, 0, 1, 1, 1, 1] fn tm D)), some l⟩ []), (1, .box ⟨.c 3, some b3⟩ [.d (.i 1)]), (2, .box ⟨.c 3, some b4⟩ [.d (.i 0)]), (3, .box ⟨.c 3, some b5⟩ [.d (.i 0)]), (4, .box ⟨.c 4, some b6⟩ [.d (.b false)])] (.c (.d (.b true))) [(0, .box ⟨.raw (.loop (recOf (bodyOf Tryz.f123) [0, 1, 0, 1, 1, 1, 1] fn tm D)), some l⟩ []), (1, .box ⟨.c 3, some b3⟩ [.d (.i 1)]), (2, .box ⟨.c 3, some b4⟩ [.d (.i 0)]), (3, .box ⟨.c 3, some b5⟩ [.d (.i 0)]), (4, .box ⟨.c 4, some b6⟩ [.d (.b false)])] := by
  refine enterY (iL := 0) (p := 13) (env0 := [(3, [], .c (.bx 1 0)), (4, [], .c (.bx 2 0)), (5, [], .c (.bx 3 0)), (6, [], .c (.bx 4 0))]) (n := 69) (r := (recOf (bodyOf Tryz.f123) [0, 1, 0, 1, 1, 1, 1] fn tm D)) rfl (by kernel_rfl) hn (by decide) ⟨rfl, ⟨_, _, _, rfl, rfl, h3⟩, ⟨rfl, ⟨_, _, _, rfl, rfl, h4⟩, ⟨rfl, ⟨_, _, _, rfl, rfl, h5⟩, ⟨rfl, ⟨_, _, _, rfl, rfl, h6⟩, trivial⟩⟩⟩⟩ rfl fun fr hG => ?_
  refine stepB hG hmix [] (⟨[(3, [], .c (.bx 1 0)), (4, [], .c (.bx 2 0)), (5, [], .c (.bx 3 0)), (6, [], .c (.bx 4 0)), (7, [], .c (.bx 700 0))], [(0, .box ⟨.raw (.loop (recOf (bodyOf Tryz.f123) [0, 1, 0, 1, 1, 1, 1] fn tm D)), some l⟩ []), (1, .box ⟨.c 3, some b3⟩ [.d (.i 1)]), (2, .box ⟨.c 3, some b4⟩ [.d (.i 0)]), (3, .box ⟨.c 3, some b5⟩ [.d (.i 0)]), (4, .box ⟨.c 4, some b6⟩ [.d (.b false)]), (700, .box 159 [.d (.s (S [45])), .d (.b false)])]⟩) 0 (r := (recOf (bodyOf Tryz.f123) [0, 1, 0, 1, 1, 1, 1] fn tm D)) (by kernel_rfl) conj0 rfl rfl ?_
  refine stepK hG (⟨[(3, [], .c (.bx 1 0)), (4, [], .c (.bx 2 0)), (5, [], .c (.bx 3 0)), (6, [], .c (.bx 4 0)), (7, [], .c (.bx 700 0))], [(0, .box ⟨.raw (.loop { (recOf (bodyOf Tryz.f123) [0, 1, 0, 1, 1, 1, 1] fn tm D) with state := .busy }), some l⟩ []), (1, .box ⟨.c 3, some b3⟩ [.d (.i 1)]), (2, .box ⟨.c 3, some b4⟩ [.d (.i 0)]), (3, .box ⟨.c 3, some b5⟩ [.d (.i 0)]), (4, .box ⟨.c 4, some b6⟩ [.d (.b false)]), (700, .box 159 [.d (.s (S [45])), .d (.b false)])]⟩) (by kernel_rfl) ?_
  refine stepC hG hmix [(7, 13, .call (.c (.d (.b true))) [] [])] [1, 0, 0] (false) (⟨[(3, [], .c (.bx 1 0)), (4, [], .c (.bx 2 0)), (5, [], .c (.bx 3 0)), (6, [], .c (.bx 4 0)), (7, [], .c (.bx 700 0))], [(0, .box ⟨.raw (.loop { (recOf (bodyOf Tryz.f123) [0, 1, 0, 1, 1, 1, 1] fn tm D) with state := .busy }), some l⟩ []), (1, .box ⟨.c 3, some b3⟩ [.d (.i 1)]), (2, .box ⟨.c 3, some b4⟩ [.d (.i 0)]), (3, .box ⟨.c 3, some b5⟩ [.d (.i 0)]), (4, .box ⟨.c 4, some b6⟩ [.d (.b false)]), (700, .box 159 [.d (.s (S [45])), .d (.b false)])]⟩) _ (by kernel_rfl) (conjC (show true = true → false = false → (0 : Int) ≤ 0 ∧ 0 < ((S [45]).size : Int) from (by decide)) (conj1 (fun (hg1 : true = true) => (fun (hg2 : false = false) => ((plain45 : SpG g _ _ _ _ _)))))) (fun hc1 => absurd hc1 (by decide)) (fun _ => ?_)
  refine stepC hG hmix [] [1, 0, 1, 1, 0] (true) (⟨[(3, [], .c (.bx 1 0)), (4, [], .c (.bx 2 0)), (5, [], .c (.bx 3 0)), (7, [], .c (.bx 700 0))], [(0, .box ⟨.raw (.loop { (recOf (bodyOf Tryz.f123) [0, 1, 0, 1, 1, 1, 1] fn tm D) with state := .busy }), some l⟩ []), (1, .box ⟨.c 3, some b3⟩ [.d (.i 1)]), (2, .box ⟨.c 3, some b4⟩ [.d (.i 0)]), (3, .box ⟨.c 3, some b5⟩ [.d (.i 0)]), (4, .box ⟨.c 4, some b6⟩ [.d (.b false)]), (700, .box 159 [.d (.s (S [45])), .d (.b false)])]⟩) _ (by kernel_rfl) conj0 (fun _ => ?_) (fun hc2 => absurd hc2 (by decide))
  refine stepY hG hmix [] [] 0 .normal [(0, .box ⟨.raw (endL { (recOf (bodyOf Tryz.f123) [0, 1, 0, 1, 1, 1, 1] fn tm D) with state := .busy } .normal), some l⟩ []), (1, .box ⟨.c 3, some b3⟩ [.d (.i 1)]), (2, .box ⟨.c 3, some b4⟩ [.d (.i 0)]), (3, .box ⟨.c 3, some b5⟩ [.d (.i 0)]), (4, .box ⟨.c 4, some b6⟩ [.d (.b false)])] (by kernel_rfl) conj0 ?_ ?_
  · rfl
  · rfl
theorem rightY2 (b3 b4 b5 b6 D l : Nat) (fn : FuncId) (tm : Array Value) (h3 : tm.getD 3 undef = .pointer (some ⟨b3, 0, none⟩)) (h4 : tm.getD 4 undef = .pointer (some ⟨b4, 0, none⟩)) (h5 : tm.getD 5 undef = .pointer (some ⟨b5, 0, none⟩)) (h6 : tm.getD 6 undef = .pointer (some ⟨b6, 0, none⟩)) (hn : tm.size = 69) :
    YSpec Tryz.prog (Gl g) l [.agg [.d (.s (S [77, 77])), .d (.b true)]] [(0, .box ⟨.raw (.loop (recOf (bodyOf Tryz.f123) [0, 1, 0, 1, 1, 1, 1] fn tm D)), some l⟩ []), (1, .box ⟨.c 3, some b3⟩ [.d (.i 1)]), (2, .box ⟨.c 3, some b4⟩ [.d (.i 0)]), (3, .box ⟨.c 3, some b5⟩ [.d (.i 0)]), (4, .box ⟨.c 4, some b6⟩ [.d (.b false)])] (.c (.d (.b true))) [(0, .box ⟨.raw (.loop (recOf (bodyOf Tryz.f123) [0, 1, 0, 1, 1, 1, 1] fn tm D)), some l⟩ []), (1, .box ⟨.c 3, some b3⟩ [.d (.i 1)]), (2, .box ⟨.c 3, some b4⟩ [.d (.i 1)]), (3, .box ⟨.c 3, some b5⟩ [.d (.i 0)]), (4, .box ⟨.c 4, some b6⟩ [.d (.b false)])] := by
  refine enterY (iL := 0) (p := 13) (env0 := [(3, [], .c (.bx 1 0)), (4, [], .c (.bx 2 0)), (5, [], .c (.bx 3 0)), (6, [], .c (.bx 4 0))]) (n := 69) (r := (recOf (bodyOf Tryz.f123) [0, 1, 0, 1, 1, 1, 1] fn tm D)) rfl (by kernel_rfl) hn (by decide) ⟨rfl, ⟨_, _, _, rfl, rfl, h3⟩, ⟨rfl, ⟨_, _, _, rfl, rfl, h4⟩, ⟨rfl, ⟨_, _, _, rfl, rfl, h5⟩, ⟨rfl, ⟨_, _, _, rfl, rfl, h6⟩, trivial⟩⟩⟩⟩ rfl fun fr hG => ?_
  refine stepB hG hmix [] (⟨[(3, [], .c (.bx 1 0)), (4, [], .c (.bx 2 0)), (5, [], .c (.bx 3 0)), (6, [], .c (.bx 4 0)), (7, [], .c (.bx 700 0))], [(0, .box ⟨.raw (.loop (recOf (bodyOf Tryz.f123) [0, 1, 0, 1, 1, 1, 1] fn tm D)), some l⟩ []), (1, .box ⟨.c 3, some b3⟩ [.d (.i 1)]), (2, .box ⟨.c 3, some b4⟩ [.d (.i 0)]), (3, .box ⟨.c 3, some b5⟩ [.d (.i 0)]), (4, .box ⟨.c 4, some b6⟩ [.d (.b false)]), (700, .box 159 [.d (.s (S [77, 77])), .d (.b true)])]⟩) 0 (r := (recOf (bodyOf Tryz.f123) [0, 1, 0, 1, 1, 1, 1] fn tm D)) (by kernel_rfl) conj0 rfl rfl ?_
  refine stepK hG (⟨[(3, [], .c (.bx 1 0)), (4, [], .c (.bx 2 0)), (5, [], .c (.bx 3 0)), (6, [], .c (.bx 4 0)), (7, [], .c (.bx 700 0))], [(0, .box ⟨.raw (.loop { (recOf (bodyOf Tryz.f123) [0, 1, 0, 1, 1, 1, 1] fn tm D) with state := .busy }), some l⟩ []), (1, .box ⟨.c 3, some b3⟩ [.d (.i 1)]), (2, .box ⟨.c 3, some b4⟩ [.d (.i 0)]), (3, .box ⟨.c 3, some b5⟩ [.d (.i 0)]), (4, .box ⟨.c 4, some b6⟩ [.d (.b false)]), (700, .box 159 [.d (.s (S [77, 77])), .d (.b true)])]⟩) (by kernel_rfl) ?_
  refine stepC hG hmix [(7, 13, .call (.c (.d (.b true))) [] [])] [1, 0, 0] (false) (⟨[(3, [], .c (.bx 1 0)), (4, [], .c (.bx 2 0)), (5, [], .c (.bx 3 0)), (6, [], .c (.bx 4 0)), (7, [], .c (.bx 700 0))], [(0, .box ⟨.raw (.loop { (recOf (bodyOf Tryz.f123) [0, 1, 0, 1, 1, 1, 1] fn tm D) with state := .busy }), some l⟩ []), (1, .box ⟨.c 3, some b3⟩ [.d (.i 1)]), (2, .box ⟨.c 3, some b4⟩ [.d (.i 0)]), (3, .box ⟨.c 3, some b5⟩ [.d (.i 0)]), (4, .box ⟨.c 4, some b6⟩ [.d (.b false)]), (700, .box 159 [.d (.s (S [77, 77])), .d (.b true)])]⟩) _ (by kernel_rfl) (conjC (show false = true → false = false → (0 : Int) ≤ 0 ∧ 0 < ((S [77, 77]).size : Int) from fun hg1 hg2 => absurd hg1 (by decide)) (conj1 (show false = true → false = false → SpG g 170 [.c (.d (.y 77))] [] (.c (.d (.b true))) [] from fun hg1 hg2 => absurd hg1 (by decide)))) (fun hc1 => absurd hc1 (by decide)) (fun _ => ?_)
  refine stepC hG hmix [] [1, 0, 1, 1, 0] (false) (⟨[(3, [], .c (.bx 1 0)), (4, [], .c (.bx 2 0)), (5, [], .c (.bx 3 0)), (7, [], .c (.bx 700 0))], [(0, .box ⟨.raw (.loop { (recOf (bodyOf Tryz.f123) [0, 1, 0, 1, 1, 1, 1] fn tm D) with state := .busy }), some l⟩ []), (1, .box ⟨.c 3, some b3⟩ [.d (.i 1)]), (2, .box ⟨.c 3, some b4⟩ [.d (.i 0)]), (3, .box ⟨.c 3, some b5⟩ [.d (.i 0)]), (4, .box ⟨.c 4, some b6⟩ [.d (.b false)]), (700, .box 159 [.d (.s (S [77, 77])), .d (.b true)])]⟩) _ (by kernel_rfl) conj0 (fun hc2 => absurd hc2 (by decide)) (fun _ => ?_)
  refine stepC hG hmix [] [1, 1, 1, 0, 1, 1, 0] (false) (⟨[(3, [], .c (.bx 1 0)), (4, [], .c (.bx 2 0)), (5, [], .c (.bx 3 0)), (7, [], .c (.bx 700 0))], [(0, .box ⟨.raw (.loop { (recOf (bodyOf Tryz.f123) [0, 1, 0, 1, 1, 1, 1] fn tm D) with state := .busy }), some l⟩ []), (1, .box ⟨.c 3, some b3⟩ [.d (.i 1)]), (2, .box ⟨.c 3, some b4⟩ [.d (.i 0)]), (3, .box ⟨.c 3, some b5⟩ [.d (.i 0)]), (4, .box ⟨.c 4, some b6⟩ [.d (.b false)]), (700, .box 159 [.d (.s (S [77, 77])), .d (.b true)])]⟩) _ (by kernel_rfl) (conj1 (show (0 : Int) ≤ 0 ∧ 0 < ((S [77, 77]).size : Int) from (by decide))) (fun hc3 => absurd hc3 (by decide)) (fun _ => ?_)
  refine stepC hG hmix [] [1, 1, 1, 1, 1, 0, 1, 1, 0] (true) (⟨[(4, [], .c (.bx 2 0)), (5, [], .c (.bx 3 0))], [(0, .box ⟨.raw (.loop { (recOf (bodyOf Tryz.f123) [0, 1, 0, 1, 1, 1, 1] fn tm D) with state := .busy }), some l⟩ []), (1, .box ⟨.c 3, some b3⟩ [.d (.i 1)]), (2, .box ⟨.c 3, some b4⟩ [.d (.i 0)]), (3, .box ⟨.c 3, some b5⟩ [.d (.i 0)]), (4, .box ⟨.c 4, some b6⟩ [.d (.b false)])]⟩) _ (by kernel_rfl) (conj1 (show (0 : Int) ≤ 0 ∧ 0 < ((S [77, 77]).size : Int) from (by decide))) (fun _ => ?_) (fun hc4 => absurd hc4 (by decide))
  refine stepY hG hmix [] [] 0 .normal [(0, .box ⟨.raw (endL { (recOf (bodyOf Tryz.f123) [0, 1, 0, 1, 1, 1, 1] fn tm D) with state := .busy } .normal), some l⟩ []), (2, .box ⟨.c 3, some b4⟩ [.d (.i (0 + 1))]), (1, .box ⟨.c 3, some b3⟩ [.d (.i 1)]), (3, .box ⟨.c 3, some b5⟩ [.d (.i 0)]), (4, .box ⟨.c 4, some b6⟩ [.d (.b false)])] (by kernel_rfl) (conj1 (show inR (0 + 1) from (by intros; first | decide | (simp only [inR] at *; omega) | omega))) ?_ ?_
  · rfl
  · funext i; match i with | 0 => rfl | 1 => rfl | 2 => rfl | 3 => rfl | 4 => rfl | i + 5 => rfl
theorem rightY3 (b3 b4 b5 b6 D l : Nat) (fn : FuncId) (tm : Array Value) (h3 : tm.getD 3 undef = .pointer (some ⟨b3, 0, none⟩)) (h4 : tm.getD 4 undef = .pointer (some ⟨b4, 0, none⟩)) (h5 : tm.getD 5 undef = .pointer (some ⟨b5, 0, none⟩)) (h6 : tm.getD 6 undef = .pointer (some ⟨b6, 0, none⟩)) (hn : tm.size = 69) :
    YSpec Tryz.prog (Gl g) l [.agg [.d (.s (S [45])), .d (.b false)]] [(0, .box ⟨.raw (.loop (recOf (bodyOf Tryz.f123) [0, 1, 0, 1, 1, 1, 1] fn tm D)), some l⟩ []), (1, .box ⟨.c 3, some b3⟩ [.d (.i 1)]), (2, .box ⟨.c 3, some b4⟩ [.d (.i 1)]), (3, .box ⟨.c 3, some b5⟩ [.d (.i 0)]), (4, .box ⟨.c 4, some b6⟩ [.d (.b false)])] (.c (.d (.b true))) [(0, .box ⟨.raw (.loop (recOf (bodyOf Tryz.f123) [0, 1, 0, 1, 1, 1, 1] fn tm D)), some l⟩ []), (1, .box ⟨.c 3, some b3⟩ [.d (.i 1)]), (2, .box ⟨.c 3, some b4⟩ [.d (.i 1)]), (3, .box ⟨.c 3, some b5⟩ [.d (.i 0)]), (4, .box ⟨.c 4, some b6⟩ [.d (.b false)])] := by
  refine enterY (iL := 0) (p := 13) (env0 := [(3, [], .c (.bx 1 0)), (4, [], .c (.bx 2 0)), (5, [], .c (.bx 3 0)), (6, [], .c (.bx 4 0))]) (n := 69) (r := (recOf (bodyOf Tryz.f123) [0, 1, 0, 1, 1, 1, 1] fn tm D)) rfl (by kernel_rfl) hn (by decide) ⟨rfl, ⟨_, _, _, rfl, rfl, h3⟩, ⟨rfl, ⟨_, _, _, rfl, rfl, h4⟩, ⟨rfl, ⟨_, _, _, rfl, rfl, h5⟩, ⟨rfl, ⟨_, _, _, rfl, rfl, h6⟩, trivial⟩⟩⟩⟩ rfl fun fr hG => ?_
  refine stepB hG hmix [] (⟨[(3, [], .c (.bx 1 0)), (4, [], .c (.bx 2 0)), (5, [], .c (.bx 3 0)), (6, [], .c (.bx 4 0)), (7, [], .c (.bx 700 0))], [(0, .box ⟨.raw (.loop (recOf (bodyOf Tryz.f123) [0, 1, 0, 1, 1, 1, 1] fn tm D)), some l⟩ []), (1, .box ⟨.c 3, some b3⟩ [.d (.i 1)]), (2, .box ⟨.c 3, some b4⟩ [.d (.i 1)]), (3, .box ⟨.c 3, some b5⟩ [.d (.i 0)]), (4, .box ⟨.c 4, some b6⟩ [.d (.b false)]), (700, .box 159 [.d (.s (S [45])), .d (.b false)])]⟩) 0 (r := (recOf (bodyOf Tryz.f123) [0, 1, 0, 1, 1, 1, 1] fn tm D)) (by kernel_rfl) conj0 rfl rfl ?_
  refine stepK hG (⟨[(3, [], .c (.bx 1 0)), (4, [], .c (.bx 2 0)), (5, [], .c (.bx 3 0)), (6, [], .c (.bx 4 0)), (7, [], .c (.bx 700 0))], [(0, .box ⟨.raw (.loop { (recOf (bodyOf Tryz.f123) [0, 1, 0, 1, 1, 1, 1] fn tm D) with state := .busy }), some l⟩ []), (1, .box ⟨.c 3, some b3⟩ [.d (.i 1)]), (2, .box ⟨.c 3, some b4⟩ [.d (.i 1)]), (3, .box ⟨.c 3, some b5⟩ [.d (.i 0)]), (4, .box ⟨.c 4, some b6⟩ [.d (.b false)]), (700, .box 159 [.d (.s (S [45])), .d (.b false)])]⟩) (by kernel_rfl) ?_
  refine stepC hG hmix [(7, 13, .call (.c (.d (.b true))) [] [])] [1, 0, 0] (false) (⟨[(3, [], .c (.bx 1 0)), (4, [], .c (.bx 2 0)), (5, [], .c (.bx 3 0)), (6, [], .c (.bx 4 0)), (7, [], .c (.bx 700 0))], [(0, .box ⟨.raw (.loop { (recOf (bodyOf Tryz.f123) [0, 1, 0, 1, 1, 1, 1] fn tm D) with state := .busy }), some l⟩ []), (1, .box ⟨.c 3, some b3⟩ [.d (.i 1)]), (2, .box ⟨.c 3, some b4⟩ [.d (.i 1)]), (3, .box ⟨.c 3, some b5⟩ [.d (.i 0)]), (4, .box ⟨.c 4, some b6⟩ [.d (.b false)]), (700, .box 159 [.d (.s (S [45])), .d (.b false)])]⟩) _ (by kernel_rfl) (conjC (show true = true → false = false → (0 : Int) ≤ 0 ∧ 0 < ((S [45]).size : Int) from (by decide)) (conj1 (fun (hg1 : true = true) => (fun (hg2 : false = false) => ((plain45 : SpG g _ _ _ _ _)))))) (fun hc1 => absurd hc1 (by decide)) (fun _ => ?_)
  refine stepC hG hmix [] [1, 0, 1, 1, 0] (true) (⟨[(3, [], .c (.bx 1 0)), (4, [], .c (.bx 2 0)), (5, [], .c (.bx 3 0)), (7, [], .c (.bx 700 0))], [(0, .box ⟨.raw (.loop { (recOf (bodyOf Tryz.f123) [0, 1, 0, 1, 1, 1, 1] fn tm D) with state := .busy }), some l⟩ []), (1, .box ⟨.c 3, some b3⟩ [.d (.i 1)]), (2, .box ⟨.c 3, some b4⟩ [.d (.i 1)]), (3, .box ⟨.c 3, some b5⟩ [.d (.i 0)]), (4, .box ⟨.c 4, some b6⟩ [.d (.b false)]), (700, .box 159 [.d (.s (S [45])), .d (.b false)])]⟩) _ (by kernel_rfl) conj0 (fun _ => ?_) (fun hc2 => absurd hc2 (by decide))
  refine stepY hG hmix [] [] 0 .normal [(0, .box ⟨.raw (endL { (recOf (bodyOf Tryz.f123) [0, 1, 0, 1, 1, 1, 1] fn tm D) with state := .busy } .normal), some l⟩ []), (1, .box ⟨.c 3, some b3⟩ [.d (.i 1)]), (2, .box ⟨.c 3, some b4⟩ [.d (.i 1)]), (3, .box ⟨.c 3, some b5⟩ [.d (.i 0)]), (4, .box ⟨.c 4, some b6⟩ [.d (.b false)])] (by kernel_rfl) conj0 ?_ ?_
  · rfl
  · rfl
theorem rightY4 (b3 b4 b5 b6 D l : Nat) (fn : FuncId) (tm : Array Value) (h3 : tm.getD 3 undef = .pointer (some ⟨b3, 0, none⟩)) (h4 : tm.getD 4 undef = .pointer (some ⟨b4, 0, none⟩)) (h5 : tm.getD 5 undef = .pointer (some ⟨b5, 0, none⟩)) (h6 : tm.getD 6 undef = .pointer (some ⟨b6, 0, none⟩)) (hn : tm.size = 69) :
    YSpec Tryz.prog (Gl g) l [.agg [.d (.s (S [68, 68])), .d (.b true)]] [(0, .box ⟨.raw (.loop (recOf (bodyOf Tryz.f123) [0, 1, 0, 1, 1, 1, 1] fn tm D)), some l⟩ []), (1, .box ⟨.c 3, some b3⟩ [.d (.i 1)]), (2, .box ⟨.c 3, some b4⟩ [.d (.i 1)]), (3, .box ⟨.c 3, some b5⟩ [.d (.i 0)]), (4, .box ⟨.c 4, some b6⟩ [.d (.b false)])] (.c (.d (.b true))) [(0, .box ⟨.raw (.loop (recOf (bodyOf Tryz.f123) [0, 1, 0, 1, 1, 1, 1] fn tm D)), some l⟩ []), (1, .box ⟨.c 3, some b3⟩ [.d (.i 1)]), (2, .box ⟨.c 3, some b4⟩ [.d (.i 1)]), (3, .box ⟨.c 3, some b5⟩ [.d (.i 1)]), (4, .box ⟨.c 4, some b6⟩ [.d (.b false)])] := by
  refine enterY (iL := 0) (p := 13) (env0 := [(3, [], .c (.bx 1 0)), (4, [], .c (.bx 2 0)), (5, [], .c (.bx 3 0)), (6, [], .c (.bx 4 0))]) (n := 69) (r := (recOf (bodyOf Tryz.f123) [0, 1, 0, 1, 1, 1, 1] fn tm D)) rfl (by kernel_rfl) hn (by decide) ⟨rfl, ⟨_, _, _, rfl, rfl, h3⟩, ⟨rfl, ⟨_, _, _, rfl, rfl, h4⟩, ⟨rfl, ⟨_, _, _, rfl, rfl, h5⟩, ⟨rfl, ⟨_, _, _, rfl, rfl, h6⟩, trivial⟩⟩⟩⟩ rfl fun fr hG => ?_
  refine stepB hG hmix [] (⟨[(3, [], .c (.bx 1 0)), (4, [], .c (.bx 2 0)), (5, [], .c (.bx 3 0)), (6, [], .c (.bx 4 0)), (7, [], .c (.bx 700 0))], [(0, .box ⟨.raw (.loop (recOf (bodyOf Tryz.f123) [0, 1, 0, 1, 1, 1, 1] fn tm D)), some l⟩ []), (1, .box ⟨.c 3, some b3⟩ [.d (.i 1)]), (2, .box ⟨.c 3, some b4⟩ [.d (.i 1)]), (3, .box ⟨.c 3, some b5⟩ [.d (.i 0)]), (4, .box ⟨.c 4, some b6⟩ [.d (.b false)]), (700, .box 159 [.d (.s (S [68, 68])), .d (.b true)])]⟩) 0 (r := (recOf (bodyOf Tryz.f123) [0, 1, 0, 1, 1, 1, 1] fn tm D)) (by kernel_rfl) conj0 rfl rfl ?_
  refine stepK hG (⟨[(3, [], .c (.bx 1 0)), (4, [], .c (.bx 2 0)), (5, [], .c (.bx 3 0)), (6, [], .c (.bx 4 0)), (7, [], .c (.bx 700 0))], [(0, .box ⟨.raw (.loop { (recOf (bodyOf Tryz.f123) [0, 1, 0, 1, 1, 1, 1] fn tm D) with state := .busy }), some l⟩ []), (1, .box ⟨.c 3, some b3⟩ [.d (.i 1)]), (2, .box ⟨.c 3, some b4⟩ [.d (.i 1)]), (3, .box ⟨.c 3, some b5⟩ [.d (.i 0)]), (4, .box ⟨.c 4, some b6⟩ [.d (.b false)]), (700, .box 159 [.d (.s (S [68, 68])), .d (.b true)])]⟩) (by kernel_rfl) ?_
  refine stepC hG hmix [(7, 13, .call (.c (.d (.b true))) [] [])] [1, 0, 0] (false) (⟨[(3, [], .c (.bx 1 0)), (4, [], .c (.bx 2 0)), (5, [], .c (.bx 3 0)), (6, [], .c (.bx 4 0)), (7, [], .c (.bx 700 0))], [(0, .box ⟨.raw (.loop { (recOf (bodyOf Tryz.f123) [0, 1, 0, 1, 1, 1, 1] fn tm D) with state := .busy }), some l⟩ []), (1, .box ⟨.c 3, some b3⟩ [.d (.i 1)]), (2, .box ⟨.c 3, some b4⟩ [.d (.i 1)]), (3, .box ⟨.c 3, some b5⟩ [.d (.i 0)]), (4, .box ⟨.c 4, some b6⟩ [.d (.b false)]), (700, .box 159 [.d (.s (S [68, 68])), .d (.b true)])]⟩) _ (by kernel_rfl) (conjC (show false = true → false = false → (0 : Int) ≤ 0 ∧ 0 < ((S [68, 68]).size : Int) from fun hg1 hg2 => absurd hg1 (by decide)) (conj1 (show false = true → false = false → SpG g 170 [.c (.d (.y 68))] [] (.c (.d (.b true))) [] from fun hg1 hg2 => absurd hg1 (by decide)))) (fun hc1 => absurd hc1 (by decide)) (fun _ => ?_)
  refine stepC hG hmix [] [1, 0, 1, 1, 0] (false) (⟨[(3, [], .c (.bx 1 0)), (4, [], .c (.bx 2 0)), (5, [], .c (.bx 3 0)), (7, [], .c (.bx 700 0))], [(0, .box ⟨.raw (.loop { (recOf (bodyOf Tryz.f123) [0, 1, 0, 1, 1, 1, 1] fn tm D) with state := .busy }), some l⟩ []), (1, .box ⟨.c 3, some b3⟩ [.d (.i 1)]), (2, .box ⟨.c 3, some b4⟩ [.d (.i 1)]), (3, .box ⟨.c 3, some b5⟩ [.d (.i 0)]), (4, .box ⟨.c 4, some b6⟩ [.d (.b false)]), (700, .box 159 [.d (.s (S [68, 68])), .d (.b true)])]⟩) _ (by kernel_rfl) conj0 (fun hc2 => absurd hc2 (by decide)) (fun _ => ?_)
  refine stepC hG hmix [] [1, 1, 1, 0, 1, 1, 0] (false) (⟨[(3, [], .c (.bx 1 0)), (4, [], .c (.bx 2 0)), (5, [], .c (.bx 3 0)), (7, [], .c (.bx 700 0))], [(0, .box ⟨.raw (.loop { (recOf (bodyOf Tryz.f123) [0, 1, 0, 1, 1, 1, 1] fn tm D) with state := .busy }), some l⟩ []), (1, .box ⟨.c 3, some b3⟩ [.d (.i 1)]), (2, .box ⟨.c 3, some b4⟩ [.d (.i 1)]), (3, .box ⟨.c 3, some b5⟩ [.d (.i 0)]), (4, .box ⟨.c 4, some b6⟩ [.d (.b false)]), (700, .box 159 [.d (.s (S [68, 68])), .d (.b true)])]⟩) _ (by kernel_rfl) (conj1 (show (0 : Int) ≤ 0 ∧ 0 < ((S [68, 68]).size : Int) from (by decide))) (fun hc3 => absurd hc3 (by decide)) (fun _ => ?_)
  refine stepC hG hmix [] [1, 1, 1, 1, 1, 0, 1, 1, 0] (false) (⟨[(4, [], .c (.bx 2 0)), (5, [], .c (.bx 3 0))], [(0, .box ⟨.raw (.loop { (recOf (bodyOf Tryz.f123) [0, 1, 0, 1, 1, 1, 1] fn tm D) with state := .busy }), some l⟩ []), (1, .box ⟨.c 3, some b3⟩ [.d (.i 1)]), (2, .box ⟨.c 3, some b4⟩ [.d (.i 1)]), (3, .box ⟨.c 3, some b5⟩ [.d (.i 0)]), (4, .box ⟨.c 4, some b6⟩ [.d (.b false)])]⟩) _ (by kernel_rfl) (conj1 (show (0 : Int) ≤ 0 ∧ 0 < ((S [68, 68]).size : Int) from (by decide))) (fun hc4 => absurd hc4 (by decide)) (fun _ => ?_)
  refine stepY hG hmix [] [] 0 .normal [(0, .box ⟨.raw (endL { (recOf (bodyOf Tryz.f123) [0, 1, 0, 1, 1, 1, 1] fn tm D) with state := .busy } .normal), some l⟩ []), (3, .box ⟨.c 3, some b5⟩ [.d (.i (0 + 1))]), (1, .box ⟨.c 3, some b3⟩ [.d (.i 1)]), (2, .box ⟨.c 3, some b4⟩ [.d (.i 1)]), (4, .box ⟨.c 4, some b6⟩ [.d (.b false)])] (by kernel_rfl) (conj1 (show inR (0 + 1) from (by intros; first | decide | (simp only [inR] at *; omega) | omega))) ?_ ?_
  · rfl
  · funext i; match i with | 0 => rfl | 1 => rfl | 2 => rfl | 3 => rfl | 4 => rfl | i + 5 => rfl
theorem right_it (b0 : Nat) (b3 b4 b5 b6 D l : Nat) (fn : FuncId) (tm : Array Value) (h3 : tm.getD 3 undef = .pointer (some ⟨b3, 0, none⟩)) (h4 : tm.getD 4 undef = .pointer (some ⟨b4, 0, none⟩)) (h5 : tm.getD 5 undef = .pointer (some ⟨b5, 0, none⟩)) (h6 : tm.getD 6 undef = .pointer (some ⟨b6, 0, none⟩)) (hn : tm.size = 69) :
    SpG g 172 [.c (.d (.v (.func (.yield l) #[] #[]))), .c (.bx 0 0)] [(0, .box ⟨.c 9, some b0⟩ [.d (.s (S [89, 89, 89, 89, 45, 77, 77, 45, 68, 68]))]), (1, .box ⟨.raw (.loop (recOf (bodyOf Tryz.f123) [0, 1, 0, 1, 1, 1, 1] fn tm D)), some l⟩ []), (2, .box ⟨.c 3, some b3⟩ [.d (.i 0)]), (3, .box ⟨.c 3, some b4⟩ [.d (.i 0)]), (4, .box ⟨.c 3, some b5⟩ [.d (.i 0)]), (5, .box ⟨.c 4, some b6⟩ [.d (.b false)])] (.tup []) [(0, .box ⟨.c 9, some b0⟩ [.d (.s (S []))]), (1, .box ⟨.raw (.loop (recOf (bodyOf Tryz.f123) [0, 1, 0, 1, 1, 1, 1] fn tm D)), some l⟩ []), (2, .box ⟨.c 3, some b3⟩ [.d (.i 1)]), (3, .box ⟨.c 3, some b4⟩ [.d (.i 1)]), (4, .box ⟨.c 3, some b5⟩ [.d (.i 1)]), (5, .box ⟨.c 4, some b6⟩ [.d (.b false)])] := by
  refine enterB 17 Tryz.func172 (by kernel_rfl) fun fr hG => ?_
  refine stepL hG hmix [] [0] ((fun (zz : Nat) => match zz with | k => ⟨[(0, [], .c (.d (.v (.func (.yield l) #[] #[])))), (1, [], .c (.bx 0 0))], [(0, .box ⟨.c 9, some b0⟩ [.d (.s (S (layF k)))]), (1, .box ⟨.raw (.loop (recOf (bodyOf Tryz.f123) [0, 1, 0, 1, 1, 1, 1] fn tm D)), some l⟩ []), (2, .box ⟨.c 3, some b3⟩ [.d (.i (rY k))]), (3, .box ⟨.c 3, some b4⟩ [.d (.i (rM k))]), (4, .box ⟨.c 3, some b5⟩ [.d (.i (rD k))]), (5, .box ⟨.c 4, some b6⟩ [.d (.b false)])]⟩) 0) _ (by kernel_rfl) conj0 ?_
  refine loopR (σ := Nat) (fun (zz : Nat) => match zz with | k => 6 - k) (fun (zz : Nat) => match zz with | k => ⟨[(0, [], .c (.d (.v (.func (.yield l) #[] #[])))), (1, [], .c (.bx 0 0))], [(0, .box ⟨.c 9, some b0⟩ [.d (.s (S (layF k)))]), (1, .box ⟨.raw (.loop (recOf (bodyOf Tryz.f123) [0, 1, 0, 1, 1, 1, 1] fn tm D)), some l⟩ []), (2, .box ⟨.c 3, some b3⟩ [.d (.i (rY k))]), (3, .box ⟨.c 3, some b4⟩ [.d (.i (rM k))]), (4, .box ⟨.c 3, some b5⟩ [.d (.i (rD k))]), (5, .box ⟨.c 4, some b6⟩ [.d (.b false)])]⟩) (fun (zz : Nat) => match zz with | k => k ≤ 5) 0 (by kernel_rfl) ?_ ?_
  · exact Nat.zero_le _
  rintro k hI
  rcases (by omega : k = 0 ∨ k = 1 ∨ k = 2 ∨ k = 3 ∨ k = 4 ∨ k = 5) with rfl | rfl | rfl | rfl | rfl | rfl
  · skip
    refine stepC hG hmix [] [1, 0] (true) (⟨[(0, [], .c (.d (.v (.func (.yield l) #[] #[])))), (1, [], .c (.bx 0 0))], [(0, .box ⟨.c 9, some b0⟩ [.d (.s (S [89, 89, 89, 89, 45, 77, 77, 45, 68, 68]))]), (1, .box ⟨.raw (.loop (recOf (bodyOf Tryz.f123) [0, 1, 0, 1, 1, 1, 1] fn tm D)), some l⟩ []), (2, .box ⟨.c 3, some b3⟩ [.d (.i 0)]), (3, .box ⟨.c 3, some b4⟩ [.d (.i 0)]), (4, .box ⟨.c 3, some b5⟩ [.d (.i 0)]), (5, .box ⟨.c 4, some b6⟩ [.d (.b false)])]⟩) _ (by kernel_rfl) conj0 (fun _ => ?_) (fun hc2 => absurd hc2 (by decide))
    refine stepC hG hmix [(1, 1, .call (.agg [.d (.s (S [89, 89, 89, 89])), .d (.b true)]) [] []), (2, 2, .callG (.c (.d (.b true))) [1, 2, 3, 4, 5] [(0, .box ⟨.raw (.loop (recOf (bodyOf Tryz.f123) [0, 1, 0, 1, 1, 1, 1] fn tm D)), some l⟩ []), (1, .box ⟨.c 3, some b3⟩ [.d (.i 1)]), (2, .box ⟨.c 3, some b4⟩ [.d (.i 0)]), (3, .box ⟨.c 3, some b5⟩ [.d (.i 0)]), (4, .box ⟨.c 4, some b6⟩ [.d (.b false)])])] [1, 0, 1, 0, 1] (false) (⟨[(0, [], .c (.d (.v (.func (.yield l) #[] #[])))), (1, [], .c (.bx 0 0)), (3, [], .c (.bx 202 0))], [(0, .box ⟨.c 9, some b0⟩ [.d (.s (S [89, 89, 89, 89, 45, 77, 77, 45, 68, 68]))]), (1, .box ⟨.raw (.loop (recOf (bodyOf Tryz.f123) [0, 1, 0, 1, 1, 1, 1] fn tm D)), some l⟩ []), (2, .box ⟨.c 3, some b3⟩ [.d (.i 1)]), (3, .box ⟨.c 3, some b4⟩ [.d (.i 0)]), (4, .box ⟨.c 3, some b5⟩ [.d (.i 0)]), (5, .box ⟨.c 4, some b6⟩ [.d (.b false)]), (202, .box 159 [.d (.s (S [89, 89, 89, 89])), .d (.b true)])]⟩) _ (by kernel_rfl) (conjC ((first0 : SpG g _ _ _ _ _)) (conj1 ((rightY0 b3 b4 b5 b6 D l fn tm h3 h4 h5 h6 hn : YSpec Tryz.prog (Gl g) _ _ _ _ _)))) (fun hc3 => absurd hc3 (by decide)) (fun _ => ?_)
    refine roundE hG hmix [] 1 _ (by kernel_rfl) (conj1 (show (0 : Int) ≤ 4 ∧ (4 : Int) ≤ ((S [89, 89, 89, 89, 45, 77, 77, 45, 68, 68]).size : Int) ∧ ((S [89, 89, 89, 89, 45, 77, 77, 45, 68, 68]).size : Int) ≤ ((S [89, 89, 89, 89, 45, 77, 77, 45, 68, 68]).size : Int) from (by decide))) ?_ ?_
    · decide
    · decide
  · skip
    refine stepC hG hmix [] [1, 0] (true) (⟨[(0, [], .c (.d (.v (.func (.yield l) #[] #[])))), (1, [], .c (.bx 0 0))], [(0, .box ⟨.c 9, some b0⟩ [.d (.s (S [45, 77, 77, 45, 68, 68]))]), (1, .box ⟨.raw (.loop (recOf (bodyOf Tryz.f123) [0, 1, 0, 1, 1, 1, 1] fn tm D)), some l⟩ []), (2, .box ⟨.c 3, some b3⟩ [.d (.i 1)]), (3, .box ⟨.c 3, some b4⟩ [.d (.i 0)]), (4, .box ⟨.c 3, some b5⟩ [.d (.i 0)]), (5, .box ⟨.c 4, some b6⟩ [.d (.b false)])]⟩) _ (by kernel_rfl) conj0 (fun _ => ?_) (fun hc4 => absurd hc4 (by decide))
    refine stepC hG hmix [(1, 1, .call (.agg [.d (.s (S [45])), .d (.b false)]) [] []), (2, 2, .callG (.c (.d (.b true))) [1, 2, 3, 4, 5] [(0, .box ⟨.raw (.loop (recOf (bodyOf Tryz.f123) [0, 1, 0, 1, 1, 1, 1] fn tm D)), some l⟩ []), (1, .box ⟨.c 3, some b3⟩ [.d (.i 1)]), (2, .box ⟨.c 3, some b4⟩ [.d (.i 0)]), (3, .box ⟨.c 3, some b5⟩ [.d (.i 0)]), (4, .box ⟨.c 4, some b6⟩ [.d (.b false)])])] [1, 0, 1, 0, 1] (false) (⟨[(0, [], .c (.d (.v (.func (.yield l) #[] #[])))), (1, [], .c (.bx 0 0)), (3, [], .c (.bx 202 0))], [(0, .box ⟨.c 9, some b0⟩ [.d (.s (S [45, 77, 77, 45, 68, 68]))]), (1, .box ⟨.raw (.loop (recOf (bodyOf Tryz.f123) [0, 1, 0, 1, 1, 1, 1] fn tm D)), some l⟩ []), (2, .box ⟨.c 3, some b3⟩ [.d (.i 1)]), (3, .box ⟨.c 3, some b4⟩ [.d (.i 0)]), (4, .box ⟨.c 3, some b5⟩ [.d (.i 0)]), (5, .box ⟨.c 4, some b6⟩ [.d (.b false)]), (202, .box 159 [.d (.s (S [45])), .d (.b false)])]⟩) _ (by kernel_rfl) (conjC ((first1 : SpG g _ _ _ _ _)) (conj1 ((rightY1 b3 b4 b5 b6 D l fn tm h3 h4 h5 h6 hn : YSpec Tryz.prog (Gl g) _ _ _ _ _)))) (fun hc5 => absurd hc5 (by decide)) (fun _ => ?_)
    refine roundE hG hmix [] 2 _ (by kernel_rfl) (conj1 (show (0 : Int) ≤ 1 ∧ (1 : Int) ≤ ((S [45, 77, 77, 45, 68, 68]).size : Int) ∧ ((S [45, 77, 77, 45, 68, 68]).size : Int) ≤ ((S [45, 77, 77, 45, 68, 68]).size : Int) from (by decide))) ?_ ?_
    · decide
    · decide
  · skip
    refine stepC hG hmix [] [1, 0] (true) (⟨[(0, [], .c (.d (.v (.func (.yield l) #[] #[])))), (1, [], .c (.bx 0 0))], [(0, .box ⟨.c 9, some b0⟩ [.d (.s (S [77, 77, 45, 68, 68]))]), (1, .box ⟨.raw (.loop (recOf (bodyOf Tryz.f123) [0, 1, 0, 1, 1, 1, 1] fn tm D)), some l⟩ []), (2, .box ⟨.c 3, some b3⟩ [.d (.i 1)]), (3, .box ⟨.c 3, some b4⟩ [.d (.i 0)]), (4, .box ⟨.c 3, some b5⟩ [.d (.i 0)]), (5, .box ⟨.c 4, some b6⟩ [.d (.b false)])]⟩) _ (by kernel_rfl) conj0 (fun _ => ?_) (fun hc6 => absurd hc6 (by decide))
    refine stepC hG hmix [(1, 1, .call (.agg [.d (.s (S [77, 77])), .d (.b true)]) [] []), (2, 2, .callG (.c (.d (.b true))) [1, 2, 3, 4, 5] [(0, .box ⟨.raw (.loop (recOf (bodyOf Tryz.f123) [0, 1, 0, 1, 1, 1, 1] fn tm D)), some l⟩ []), (1, .box ⟨.c 3, some b3⟩ [.d (.i 1)]), (2, .box ⟨.c 3, some b4⟩ [.d (.i 1)]), (3, .box ⟨.c 3, some b5⟩ [.d (.i 0)]), (4, .box ⟨.c 4, some b6⟩ [.d (.b false)])])] [1, 0, 1, 0, 1] (false) (⟨[(0, [], .c (.d (.v (.func (.yield l) #[] #[])))), (1, [], .c (.bx 0 0)), (3, [], .c (.bx 202 0))], [(0, .box ⟨.c 9, some b0⟩ [.d (.s (S [77, 77, 45, 68, 68]))]), (1, .box ⟨.raw (.loop (recOf (bodyOf Tryz.f123) [0, 1, 0, 1, 1, 1, 1] fn tm D)), some l⟩ []), (2, .box ⟨.c 3, some b3⟩ [.d (.i 1)]), (3, .box ⟨.c 3, some b4⟩ [.d (.i 1)]), (4, .box ⟨.c 3, some b5⟩ [.d (.i 0)]), (5, .box ⟨.c 4, some b6⟩ [.d (.b false)]), (202, .box 159 [.d (.s (S [77, 77])), .d (.b true)])]⟩) _ (by kernel_rfl) (conjC ((first2 : SpG g _ _ _ _ _)) (conj1 ((rightY2 b3 b4 b5 b6 D l fn tm h3 h4 h5 h6 hn : YSpec Tryz.prog (Gl g) _ _ _ _ _)))) (fun hc7 => absurd hc7 (by decide)) (fun _ => ?_)
    refine roundE hG hmix [] 3 _ (by kernel_rfl) (conj1 (show (0 : Int) ≤ 2 ∧ (2 : Int) ≤ ((S [77, 77, 45, 68, 68]).size : Int) ∧ ((S [77, 77, 45, 68, 68]).size : Int) ≤ ((S [77, 77, 45, 68, 68]).size : Int) from (by decide))) ?_ ?_
    · decide
    · decide
  · skip
    refine stepC hG hmix [] [1, 0] (true) (⟨[(0, [], .c (.d (.v (.func (.yield l) #[] #[])))), (1, [], .c (.bx 0 0))], [(0, .box ⟨.c 9, some b0⟩ [.d (.s (S [45, 68, 68]))]), (1, .box ⟨.raw (.loop (recOf (bodyOf Tryz.f123) [0, 1, 0, 1, 1, 1, 1] fn tm D)), some l⟩ []), (2, .box ⟨.c 3, some b3⟩ [.d (.i 1)]), (3, .box ⟨.c 3, some b4⟩ [.d (.i 1)]), (4, .box ⟨.c 3, some b5⟩ [.d (.i 0)]), (5, .box ⟨.c 4, some b6⟩ [.d (.b false)])]⟩) _ (by kernel_rfl) conj0 (fun _ => ?_) (fun hc8 => absurd hc8 (by decide))
    refine stepC hG hmix [(1, 1, .call (.agg [.d (.s (S [45])), .d (.b false)]) [] []), (2, 2, .callG (.c (.d (.b true))) [1, 2, 3, 4, 5] [(0, .box ⟨.raw (.loop (recOf (bodyOf Tryz.f123) [0, 1, 0, 1, 1, 1, 1] fn tm D)), some l⟩ []), (1, .box ⟨.c 3, some b3⟩ [.d (.i 1)]), (2, .box ⟨.c 3, some b4⟩ [.d (.i 1)]), (3, .box ⟨.c 3, some b5⟩ [.d (.i 0)]), (4, .box ⟨.c 4, some b6⟩ [.d (.b false)])])] [1, 0, 1, 0, 1] (false) (⟨[(0, [], .c (.d (.v (.func (.yield l) #[] #[])))), (1, [], .c (.bx 0 0)), (3, [], .c (.bx 202 0))], [(0, .box ⟨.c 9, some b0⟩ [.d (.s (S [45, 68, 68]))]), (1, .box ⟨.raw (.loop (recOf (bodyOf Tryz.f123) [0, 1, 0, 1, 1, 1, 1] fn tm D)), some l⟩ []), (2, .box ⟨.c 3, some b3⟩ [.d (.i 1)]), (3, .box ⟨.c 3, some b4⟩ [.d (.i 1)]), (4, .box ⟨.c 3, some b5⟩ [.d (.i 0)]), (5, .box ⟨.c 4, some b6⟩ [.d (.b false)]), (202, .box 159 [.d (.s (S [45])), .d (.b false)])]⟩) _ (by kernel_rfl) (conjC ((first3 : SpG g _ _ _ _ _)) (conj1 ((rightY3 b3 b4 b5 b6 D l fn tm h3 h4 h5 h6 hn : YSpec Tryz.prog (Gl g) _ _ _ _ _)))) (fun hc9 => absurd hc9 (by decide)) (fun _ => ?_)
    refine roundE hG hmix [] 4 _ (by kernel_rfl) (conj1 (show (0 : Int) ≤ 1 ∧ (1 : Int) ≤ ((S [45, 68, 68]).size : Int) ∧ ((S [45, 68, 68]).size : Int) ≤ ((S [45, 68, 68]).size : Int) from (by decide))) ?_ ?_
    · decide
    · decide
  · skip
    refine stepC hG hmix [] [1, 0] (true) (⟨[(0, [], .c (.d (.v (.func (.yield l) #[] #[])))), (1, [], .c (.bx 0 0))], [(0, .box ⟨.c 9, some b0⟩ [.d (.s (S [68, 68]))]), (1, .box ⟨.raw (.loop (recOf (bodyOf Tryz.f123) [0, 1, 0, 1, 1, 1, 1] fn tm D)), some l⟩ []), (2, .box ⟨.c 3, some b3⟩ [.d (.i 1)]), (3, .box ⟨.c 3, some b4⟩ [.d (.i 1)]), (4, .box ⟨.c 3, some b5⟩ [.d (.i 0)]), (5, .box ⟨.c 4, some b6⟩ [.d (.b false)])]⟩) _ (by kernel_rfl) conj0 (fun _ => ?_) (fun hc10 => absurd hc10 (by decide))
    refine stepC hG hmix [(1, 1, .call (.agg [.d (.s (S [68, 68])), .d (.b true)]) [] []), (2, 2, .callG (.c (.d (.b true))) [1, 2, 3, 4, 5] [(0, .box ⟨.raw (.loop (recOf (bodyOf Tryz.f123) [0, 1, 0, 1, 1, 1, 1] fn tm D)), some l⟩ []), (1, .box ⟨.c 3, some b3⟩ [.d (.i 1)]), (2, .box ⟨.c 3, some b4⟩ [.d (.i 1)]), (3, .box ⟨.c 3, some b5⟩ [.d (.i 1)]), (4, .box ⟨.c 4, some b6⟩ [.d (.b false)])])] [1, 0, 1, 0, 1] (false) (⟨[(0, [], .c (.d (.v (.func (.yield l) #[] #[])))), (1, [], .c (.bx 0 0)), (3, [], .c (.bx 202 0))], [(0, .box ⟨.c 9, some b0⟩ [.d (.s (S [68, 68]))]), (1, .box ⟨.raw (.loop (recOf (bodyOf Tryz.f123) [0, 1, 0, 1, 1, 1, 1] fn tm D)), some l⟩ []), (2, .box ⟨.c 3, some b3⟩ [.d (.i 1)]), (3, .box ⟨.c 3, some b4⟩ [.d (.i 1)]), (4, .box ⟨.c 3, some b5⟩ [.d (.i 1)]), (5, .box ⟨.c 4, some b6⟩ [.d (.b false)]), (202, .box 159 [.d (.s (S [68, 68])), .d (.b true)])]⟩) _ (by kernel_rfl) (conjC ((first4 : SpG g _ _ _ _ _)) (conj1 ((rightY4 b3 b4 b5 b6 D l fn tm h3 h4 h5 h6 hn : YSpec Tryz.prog (Gl g) _ _ _ _ _)))) (fun hc11 => absurd hc11 (by decide)) (fun _ => ?_)
    refine roundE hG hmix [] 5 _ (by kernel_rfl) (conj1 (show (0 : Int) ≤ 2 ∧ (2 : Int) ≤ ((S [68, 68]).size : Int) ∧ ((S [68, 68]).size : Int) ≤ ((S [68, 68]).size : Int) from (by decide))) ?_ ?_
    · decide
    · decide
  · skip
    refine stepC hG hmix [] [1, 0] (false) (⟨[(0, [], .c (.d (.v (.func (.yield l) #[] #[])))), (1, [], .c (.bx 0 0))], [(0, .box ⟨.c 9, some b0⟩ [.d (.s (S []))]), (1, .box ⟨.raw (.loop (recOf (bodyOf Tryz.f123) [0, 1, 0, 1, 1, 1, 1] fn tm D)), some l⟩ []), (2, .box ⟨.c 3, some b3⟩ [.d (.i 1)]), (3, .box ⟨.c 3, some b4⟩ [.d (.i 1)]), (4, .box ⟨.c 3, some b5⟩ [.d (.i 1)]), (5, .box ⟨.c 4, some b6⟩ [.d (.b false)])]⟩) _ (by kernel_rfl) conj0 (fun hc12 => absurd hc12 (by decide)) (fun _ => ?_)
    refine leaveE hG hmix [] (.exit 0) (⟨[], [(0, .box ⟨.c 9, some b0⟩ [.d (.s (S []))]), (1, .box ⟨.raw (.loop (recOf (bodyOf Tryz.f123) [0, 1, 0, 1, 1, 1, 1] fn tm D)), some l⟩ []), (2, .box ⟨.c 3, some b3⟩ [.d (.i 1)]), (3, .box ⟨.c 3, some b4⟩ [.d (.i 1)]), (4, .box ⟨.c 3, some b5⟩ [.d (.i 1)]), (5, .box ⟨.c 4, some b6⟩ [.d (.b false)])]⟩) _ (by kernel_rfl) conj0 rfl ?_
    refine stepR' hG hmix [] [] (.tup []) [(0, .box ⟨.c 9, some b0⟩ [.d (.s (S []))]), (1, .box ⟨.raw (.loop (recOf (bodyOf Tryz.f123) [0, 1, 0, 1, 1, 1, 1] fn tm D)), some l⟩ []), (2, .box ⟨.c 3, some b3⟩ [.d (.i 1)]), (3, .box ⟨.c 3, some b4⟩ [.d (.i 1)]), (4, .box ⟨.c 3, some b5⟩ [.d (.i 1)]), (5, .box ⟨.c 4, some b6⟩ [.d (.b false)])] (by kernel_rfl) conj0 ?_ ?_
    · rfl
    · rfl
theorem dateRight_ok  :
    SpG g 123 [.c (.d (.s (S [89, 89, 89, 89, 45, 77, 77, 45, 68, 68])))] [] (.c (.d (.b true))) [] := by
  refine enterM 69 Tryz.func123 (by kernel_rfl) fun fr hG => ?_
  refine stepC hG hmix [] [1, 0, 1] (false) (⟨[(0, [], .c (.d (.s (S [89, 89, 89, 89, 45, 77, 77, 45, 68, 68])))), (2, [], .c (.bx 100 0))], [(100, .box 4 [.d (.b false)])]⟩) _ (by kernel_rfl) conj0 (fun hc1 => absurd hc1 (by decide)) (fun _ => ?_)
  refine stepL hG hmix [(5, 1, .call (.c (.fn 172 [] [(100, 0)])) [(100, .box 9 [.d (.s (S [89, 89, 89, 89, 45, 77, 77, 45, 68, 68]))])] [])] [0, 1, 0, 1, 1, 1, 1] (⟨[(2, [], .c (.bx 100 0)), (3, [], .c (.bx 400 0)), (4, [], .c (.bx 401 0)), (5, [], .c (.bx 402 0)), (6, [], .c (.bx 500 0)), (12, [], .c (.fn 172 [] [(601, 0)]))], [(100, .box 4 [.d (.b false)]), (400, .box 3 [.d (.i 0)]), (401, .box 3 [.d (.i 0)]), (402, .box 3 [.d (.i 0)]), (500, .box 4 [.d (.b false)]), (601, .box 9 [.d (.s (S [89, 89, 89, 89, 45, 77, 77, 45, 68, 68]))])]⟩) _ (by kernel_rfl) (conj1 ((tokens_ok (S [89, 89, 89, 89, 45, 77, 77, 45, 68, 68]) : SpG g _ _ _ _ _))) ?_
  refine rangeR (g := 12) (ps := rgP (bodyOf Tryz.f123) [0, 1, 0, 1, 1, 1, 1]) (assign := rgA (bodyOf Tryz.f123) [0, 1, 0, 1, 1, 1, 1]) (body := rgB (bodyOf Tryz.f123) [0, 1, 0, 1, 1, 1, 1]) hG (by kernel_rfl) 9900 9901 9910 (by kernel_rfl) rfl (by kernel_rfl) fun b D l fn tm hT hn => ?_
  refine ⟨.tup [], [601, 9901, 400, 401, 402, 500], [(0, .box ⟨.c 9, some (b 601)⟩ [.d (.s (S []))]), (1, .box ⟨.raw (.loop (recOf (bodyOf Tryz.f123) [0, 1, 0, 1, 1, 1, 1] fn tm D)), some l⟩ []), (2, .box ⟨.c 3, some (b 400)⟩ [.d (.i 1)]), (3, .box ⟨.c 3, some (b 401)⟩ [.d (.i 1)]), (4, .box ⟨.c 3, some (b 402)⟩ [.d (.i 1)]), (5, .box ⟨.c 4, some (b 500)⟩ [.d (.b false)])], none, ⟨[(2, [], .c (.bx 100 0)), (3, [], .c (.bx 400 0)), (4, [], .c (.bx 401 0)), (5, [], .c (.bx 402 0))], [(100, .box ⟨.c 4, some (b 100)⟩ [.d (.b false)]), (400, .box ⟨.c 3, some (b 400)⟩ [.d (.i 1)]), (401, .box ⟨.c 3, some (b 401)⟩ [.d (.i 1)]), (402, .box ⟨.c 3, some (b 402)⟩ [.d (.i 1)]), (9900, .box ⟨.raw (.deferred (some [])), some D⟩ [])]⟩, _, .normal, by kernel_rfl, conj1 (right_it (b 601) (b 400) (b 401) (b 402) (b 500) D l fn tm (hT.bx 3 400 0 rfl) (hT.bx 4 401 0 rfl) (hT.bx 5 402 0 rfl) (hT.bx 6 500 0 rfl) hn : SpG g _ _ _ _ _), rfl, ?_⟩
  have hG0 := hG
  replace hG := marked_is (D := D) hG
  refine stepRM hG0 hmix [] [] 9900 (.c (.d (.b true))) [] (by kernel_rfl) conj0 ?_ ?_
  · rfl
  · rfl
end Go.Proofs.YtmpgfchkkemngaaGreatDoor
namespace Go.Proofs.YtmpgfchkkemngaaGreatDoor
open Go.RowKit Go.Sort Go.Lib
set_option maxRecDepth 100000 in
theorem formatUint_in (u : Nat) (hu64 : u < 18446744073709551616) (w : World) (htab : Lib.TabIs Tryz.prog w "internal/strconv.uint64pow10" .u64 Lib.pow10Tab) :
    Calls Tryz.prog 121 #[.int .u64 u, .int .i64 10] w fun e w' => e = .returned (.string ⟨(Lib.decDigits u).toArray⟩) ∧ ∃ k os, w' = grow (w.drewN k) os := by
  by_cases hs : u < 100
  · have hw : IntKind.i64.wrap (u : Int) = (u : Int) := by rw [IntKind.wrap_i64]; omega
    go_enter Tryz.func121, Tryz.ntmps121
    go_wp2_with (go_at_call 159; refine (Tryz.internal_strconv_small u hs _).mono ?_; rintro e w' ⟨rfl, rfl⟩)
    go_ret
    exact ⟨rfl, 0, #[], by simp [World.drewN_zero]⟩
  · have hu1 : 1 ≤ u := by omega
    have hnd20 : Lib.nDigits u ≤ 20 := by have := Lib.numDigits_eq u hu1 hu64; split at this <;> omega
    have hb3 : Lib.nDigits u ≤ 24 := by omega
    have e1 : Tryz.prog.arrayLen 180 = 24 := by kernel_rfl
    have hsl1 : ∀ W, (Instr.sliceAt 180 (.pointer (some ⟨w.heap.size, 0, none⟩)) none (some (.int .i64 ((Lib.nDigits u : Int)))) none).run Tryz.prog W = .ok (.slice (some ⟨w.heap.size, 0, none⟩) (Lib.nDigits u) 24) W := fun W => by
      rw [run_sliceAt_array_h W 180 ⟨w.heap.size, 0, none⟩ (by kernel_rfl) .i64 (Lib.nDigits u : Int) (by omega) (by rw [e1]; omega)]
      have e2 : (sizeOf (Tryz.prog.elem 180)).run Tryz.prog W = .ok 1 W := by kernel_rfl
      rw [e2]
      simp [slicedAt, e1, Lib.add_plain]
    have hH0 := Lib.holds_zero0 w 180 (Lib.nDigits u) (by omega)
    have hfmt := Tryz.internal_strconv_formatBase10 w.heap.size 0 24 u (Array.replicate (Lib.nDigits u) 0) (w.alloc (.cells Lib.zeros24 180)) hH0 (by rw [Array.size_replicate]; exact Lib.lt_pow_nDigits u) hu64 (by rw [Array.size_replicate]; omega)
    rw [Array.size_replicate] at hfmt
    have HH0 := Lib.hid hH0
    clear hH0 e1
    go_enter Tryz.func121, Tryz.ntmps121
    go_wp2_with (first
      | (go_at_call 160; refine (Tryz.internal_strconv_numDigits u hu1 hu64 _ (Lib.tabIs_alloc htab _)).mono ?_; rintro e w' ⟨rfl, rfl⟩))
    go_at_call 161
    refine hfmt.mono ?_
    rintro e w' ⟨rfl, k, v', dk, rfl, hF⟩
    have hcv : (convert 41 9 (.slice (some ⟨w.heap.size, 0, none⟩) (Lib.nDigits u) 24)).run Tryz.prog ((putRow (fun (b : UInt8) => Value.int .u8 (b.toNat : Int)) (w.alloc (.cells Lib.zeros24 180)) w.heap.size 0 dk).drewN k) = .ok (.string ⟨(Lib.decDigits u).toArray⟩) ((putRow (fun (b : UInt8) => Value.int .u8 (b.toNat : Int)) (w.alloc (.cells Lib.zeros24 180)) w.heap.size 0 dk).drewN k) := by
      have h := run_convert_bytes_back (P := Tryz.prog) ((putRow (fun (b : UInt8) => Value.int .u8 (b.toNat : Int)) (w.alloc (.cells Lib.zeros24 180)) w.heap.size 0 dk).drewN k) 41 9 (Tryz.prog.elem 41) ⟨w.heap.size, 0, none⟩ 24 (Lib.decDigits u) (by kernel_rfl) (by kernel_rfl) (by kernel_rfl) (fun j hj => by
        rw [Lib.row_is_numeral hF j hj, Lib.add_plain, World.cell?_drewN]
        exact cell?_putRow (fun (b : UInt8) => Value.int .u8 (b.toNat : Int)) _ w.heap.size 0 _ dk HH0.out (by rw [hF.size, Array.size_replicate]) j (by rw [hF.size]; rw [Lib.decDigits_length] at hj; exact hj))
      rw [Lib.decDigits_length] at h
      exact h
    go_wp2
    go_ret
    refine ⟨rfl, k, ?_⟩
    rw [alloc_eq_grow]
    obtain ⟨os', _, e⟩ := putRow_grow_new (fun (b : UInt8) => Value.int .u8 (b.toNat : Int)) w #[.cells Lib.zeros24 180] w.heap.size 0 dk (Nat.le_refl _)
    exact ⟨os', by rw [e]; rfl⟩
theorem formatUint_any (u : Nat) (hu64 : u < 18446744073709551616) (w : World) (htab : Lib.TabIs Tryz.prog w "internal/strconv.uint64pow10" .u64 Lib.pow10Tab) :
    Calls Tryz.prog 80 #[.int .u64 u, .int .i64 10] w fun e w' => e = .returned (.string ⟨(Lib.decDigits u).toArray⟩) ∧ ∃ k os, w' = grow (w.drewN k) os := by
  go_enter Tryz.func80, Tryz.ntmps80
  go_wp2_with (go_at_call 121; refine (formatUint_in u hu64 _ htab).mono ?_; rintro e w' ⟨rfl, k, os, rfl⟩)
  go_ret
  exact ⟨rfl, k, os, rfl⟩
end Go.Proofs.YtmpgfchkkemngaaGreatDoor
namespace Go.Proofs.YtmpgfchkkemngaaGreatDoor
open Go.RowKit Go.V
open Go.Eng (inR byteAt u8 bytesV)
open Go.Sort (grow)
variable {g : Gv}
theorem below_grow (w : World) (q : Nat) (os : Array Obj) : Below w.heap.size w (grow (w.drewN q) os) :=
  ⟨rfl, rfl, rfl, by simp [grow, World.drewN], fun i hi => by
    show ((w.drewN q).heap ++ os)[i]? = _
    rw [Array.getElem?_append_left (by show i < w.heap.size; omega)]
    rfl⟩
theorem tab_of {w : World} (hG : ∀ b cs, (b, cs) ∈ Gl g → ∃ ty fz, w.heap[b]? = some (.cells cs.toArray ty fz)) : Lib.TabIs Tryz.prog w "internal/strconv.uint64pow10" .u64 Lib.pow10Tab := by
  obtain ⟨ty, fz, h⟩ := hG 2 (powL.map (Value.int .u64)) (by simp [Gl])
  have hn : Tryz.prog.globalNamed "internal/strconv.uint64pow10" = some 2 := by kernel_rfl
  unfold Lib.TabIs World.var?
  rw [hn]
  simp only [Option.bind_some, h]
  rfl
theorem laid_of {w : World} (hG : ∀ b cs, (b, cs) ∈ Gl g → ∃ ty fz, w.heap[b]? = some (.cells cs.toArray ty fz)) : Laid w := by
  obtain ⟨ty, fz, h⟩ := hG 5 (mlen.map (Value.int .i64)) (by simp [Gl])
  refine ⟨fun i hi => ?_, (Array.getElem?_eq_some_iff.1 h).1⟩
  rw [Lib.cell_of_heap h]
  have : i < mlen.length := hi
  simp [this]
theorem natT_dec (u : Nat) : Lib.decDigits u = natT u := by
  induction u using Nat.strongRecOn with
  | ind u ih =>
    rw [Lib.decDigits]
    by_cases h : u < 10
    · rw [dif_pos h, natT]
      by_cases h0 : u = 0
      · subst h0; rfl
      · rw [if_neg h0, natD_pos h0, show u / 10 = 0 by omega, natD_zero, show u % 10 = u by omega, ← u8_nat]; rfl
    · rw [dif_neg h, ih (u / 10) (by omega), natT, natT, if_neg (by omega), if_neg (by omega), natD_pos (n := u) (by omega), ← u8_nat]; rfl
theorem digs_nat : ∀ (f : Nat) (x k : Int) (acc : List UInt8), 0 ≤ x → x < 10 ^ f → k ≤ f → digs f x k acc = List.replicate (k.toNat - (natD x.toNat).length) 48 ++ natD x.toNat ++ acc
  | 0, x, k, acc, h0, h1, h2 => by
    have : x = 0 := by simp at h1; omega
    subst this
    rw [show k.toNat = 0 by omega]
    simp [digs, natD_zero]
  | f + 1, x, k, acc, h0, h1, h2 => by
    by_cases h : x > 0 ∨ k > 0
    · have hp : (10 : Int) ^ (f + 1) = 10 * 10 ^ f := by rw [Int.pow_succ, Int.mul_comm]
      have hx : x / 10 < 10 ^ f := Int.ediv_lt_of_lt_mul (by decide) (by rw [Int.mul_comm, ← hp]; exact h1)
      rw [digs, if_pos h, digs_nat f (x / 10) (k - 1) _ (by omega) hx (by omega)]
      have hd : (x / 10).toNat = x.toNat / 10 := by omega
      rw [hd]
      by_cases hz : x = 0
      · subst hz
        have : k.toNat = (k - 1).toNat + 1 := by omega
        simp only [Int.toNat_zero, Nat.zero_div, natD_zero, List.length_nil, Nat.sub_zero, List.append_nil]
        rw [this, List.replicate_succ']
        simp; rfl
      · rw [natD_pos (n := x.toNat) (by omega)]
        have e : (48 + x % 10 : Int) = 48 + ((x.toNat % 10 : Nat) : Int) := by omega
        have e2 : k.toNat - (natD (x.toNat / 10) ++ [u8 (48 + ((x.toNat % 10 : Nat) : Int))]).length = (k - 1).toNat - (natD (x.toNat / 10)).length := by
          simp only [List.length_append, List.length_cons, List.length_nil]; omega
        rw [e, e2]
        simp
    · have hx : x = 0 := by omega
      subst hx
      rw [digs, if_neg h, show k.toNat = 0 by omega]
      simp [natD_zero]
theorem itoa_ok (n : Int) (h0 : 0 ≤ n) (h1 : n ≤ 9223372036854775807) : SpG g 44 [.c (.d (.i n))] [] (.c (.d (.s (S (natT n.toNat))))) [] := by
  refine spec_of (args := [.int .i64 n]) rfl rfl rfl fun w hG => ?_
  have h := Tryz.strconv_Itoa n (by omega) h1 w (tab_of hG)
  refine h.mono ?_
  rintro e w' ⟨rfl, k, os, rfl⟩
  refine ⟨?_, below_grow _ _ _⟩
  obtain ⟨u, rfl⟩ : ∃ u : Nat, n = u := ⟨n.toNat, by omega⟩
  rw [Lib.itoa_nonneg, natT_dec, Int.toNat_natCast]; rfl
theorem repeat_ok (c : Int) (h0 : 0 ≤ c) (h1 : c ≤ 1000000) : SpG g 197 [.c (.d (.s (S [48]))), .c (.d (.i c))] [] (.c (.d (.s (S (List.replicate c.toNat 48))))) [] := by
  refine spec_of (args := [.string (S [48]), .int .i64 c]) rfl rfl rfl fun w _ => ?_
  obtain ⟨u, rfl⟩ : ∃ u : Nat, c = u := ⟨c.toNat, by omega⟩
  have h := Tryz.strings_Repeat (S [48]) u w (by omega) (by rw [S_size]; simp; omega)
  have e : Lib.repeatL (S [48]).data.toList u = List.replicate u 48 := by
    have := Lib.repeatL_replicate 48 1 u
    rw [Nat.mul_one] at this
    rw [S_data]; exact this
  rw [e] at h
  exact h
theorem civil_ok (n : Int) (h0 : 0 ≤ n) (h1 : n ≤ 3652058) : SpG g 122 [.c (.d (.i n))] [] (.tup [(false, [.d (.i (civ n).1)]), (false, [.d (.i (civ n).2.1)]), (false, [.d (.i (civ n).2.2)]), (false, [.d (.b true)])]) [] :=
  spec_of (args := [.int .i64 n]) rfl rfl rfl fun w hG => (civil_yes n w (laid_of hG) h0 h1).mono fun _ _ ⟨a, b⟩ => ⟨a, by subst b; exact Below.refl _ _⟩
def padL (n size : Int) : List UInt8 := List.replicate (size.toNat - (natT n.toNat).length) 48 ++ natT n.toNat
theorem padL_digs {n k : Int} (h0 : 1 ≤ n) (h1 : n ≤ 99999) (hk : k ≤ 5) : padL n k = digs 5 n k [] := by
  rw [digs_nat 5 n k [] (by omega) (by omega) (by omega), padL, natT, if_neg (by omega)]; simp
theorem padL_len {n k : Int} (h1 : n ≤ 99999) (hk : k ≤ 5) : (padL n k).length ≤ 10 := by
  have := natT_len (n := n.toNat) (k := 5) (by omega) (by decide)
  simp only [padL, List.length_append, List.length_replicate]; omega
def dT (y m d : Int) : Nat → List UInt8
  | 0 => []
  | 1 => padL y 4
  | 2 => padL y 4 ++ [45]
  | 3 => padL y 4 ++ [45] ++ padL m 2
  | 4 => padL y 4 ++ [45] ++ padL m 2 ++ [45]
  | _ => padL y 4 ++ [45] ++ padL m 2 ++ [45] ++ padL d 2
theorem dT_date {n : Int} (h0 : 0 ≤ n) (h1 : n ≤ 3652058) : dT (civ n).1 (civ n).2.1 (civ n).2.2 5 = dateText n := by
  obtain ⟨a1, a2, a3, a4, a5, a6⟩ := civ_bd h0 h1
  show padL _ 4 ++ [45] ++ padL _ 2 ++ [45] ++ padL _ 2 = _
  rw [padL_digs a1 (by omega) (by decide), padL_digs a3 (by omega) (by decide), padL_digs a5 (by omega) (by decide), dateText]
def dE (y m d : Int) : Nat → List (List D)
  | 0 => []
  | 1 => bytesD (S (padL y 4)).data.toList
  | 2 => bytesD (S (padL y 4)).data.toList ++ bytesD (S [45]).data.toList
  | 3 => bytesD (S (padL y 4)).data.toList ++ bytesD (S [45]).data.toList ++ bytesD (S (padL m 2)).data.toList
  | 4 => bytesD (S (padL y 4)).data.toList ++ bytesD (S [45]).data.toList ++ bytesD (S (padL m 2)).data.toList ++ bytesD (S [45]).data.toList
  | _ => bytesD (S (padL y 4)).data.toList ++ bytesD (S [45]).data.toList ++ bytesD (S (padL m 2)).data.toList ++ bytesD (S [45]).data.toList ++ bytesD (S (padL d 2)).data.toList
structure YMD (y m d : Int) : Prop where
  y0 : 0 ≤ y
  y1 : y ≤ 9999
  m0 : 0 ≤ m
  m1 : m ≤ 12
  d0 : 0 ≤ d
  d1 : d ≤ 31
theorem dE_len {y m d : Int} (h : YMD y m d) (k : Nat) : (dE y m d k).length ≤ 100 := by
  obtain ⟨h1, h2, h3, h4, h5, h6⟩ := h
  have a1 := padL_len (n := y) (k := 4) (by omega) (by decide)
  have a2 := padL_len (n := m) (k := 2) (by omega) (by decide)
  have a3 := padL_len (n := d) (k := 2) (by omega) (by decide)
  unfold dE
  split <;> simp only [bytesD_len, S_data, List.length_append, List.length_cons, List.length_nil] <;> omega
theorem dE_text (y m d : Int) : dE y m d 5 = bytesD (S (dT y m d 5)).data.toList := by
  show bytesD (S (padL y 4)).data.toList ++ bytesD (S [45]).data.toList ++ bytesD (S (padL m 2)).data.toList ++ bytesD (S [45]).data.toList ++ bytesD (S (padL d 2)).data.toList = bytesD (S (padL y 4 ++ [45] ++ padL m 2 ++ [45] ++ padL d 2)).data.toList
  simp only [S_data, ← bytesD_app]
theorem natT_len9 (n : Int) (h : n ≤ 99999) : (natT n.toNat).length ≤ 5 := natT_len (by omega) (by decide)
theorem padded_ (n k : Int) (h0 : 0 ≤ n) (h1 : n ≤ 99999) (hk0 : 0 ≤ k) (hk : k ≤ 5) :
    SpG g 171 [.c (.d (.i n)), .c (.d (.i k))] [] (.c (.d (.s (S (padL n k))))) [] := by
  have hl := natT_len9 n h1
  refine enterB 16 Tryz.func171 (by kernel_rfl) fun fr hG => ?_
  refine stepR' hG hmix [(1, 1, .call (.c (.d (.s (S (natT (n : Int).toNat))))) [] []), (2, 5, .call (.c (.d (.s (S (List.replicate ((if (0 : Int) > (k - ((S (natT (n : Int).toNat)).size : Int)) then 0 else (k - ((S (natT (n : Int).toNat)).size : Int))) : Int).toNat 48))))) [] [])] [] (.c (.d (.s ((S (List.replicate ((if (0 : Int) > (k - ((S (natT (n : Int).toNat)).size : Int)) then 0 else (k - ((S (natT (n : Int).toNat)).size : Int))) : Int).toNat 48)) ++ (S (natT (n : Int).toNat)))))) [] (by kernel_rfl) (conjC ((itoa_ok (n) (by omega) (by omega) : SpG g _ _ _ _ _)) (conjC (show inR (k - ((S (natT (n : Int).toNat)).size : Int)) from (by intros; (try simp only [inR, S_size, S_app, maxLen, List.length_append, List.length_replicate] at *); omega)) (conjC ((repeat_ok ((if (0 : Int) > (k - ((S (natT (n : Int).toNat)).size : Int)) then 0 else (k - ((S (natT (n : Int).toNat)).size : Int)))) (by (try simp only [S_size] at *); omega) (by (try simp only [S_size] at *); omega) : SpG g _ _ _ _ _)) (conj1 (show (S (List.replicate ((if (0 : Int) > (k - ((S (natT (n : Int).toNat)).size : Int)) then 0 else (k - ((S (natT (n : Int).toNat)).size : Int))) : Int).toNat 48)).size + (S (natT (n : Int).toNat)).size ≤ maxLen from (by intros; (try simp only [inR, S_size, S_app, maxLen, List.length_append, List.length_replicate] at *); omega)))))) ?_ ?_
  · have e : ((if ((0 : Int) : Int) > (k - ((S (natT (n : Int).toNat)).size : Int)) then 0 else (k - ((S (natT (n : Int).toNat)).size : Int))) : Int).toNat = k.toNat - (natT n.toNat).length := by rw [S_size]; split <;> omega
    rw [S_app, e]; rfl
  · rfl
theorem padded_ok (n k : Int) (h0 : 0 ≤ n) (h1 : n ≤ 99999) (hk0 : 0 ≤ k) (hk : k ≤ 5) : SpG g 171 [.c (.d (.i n)), .c (.d (.i k))] [] (.c (.d (.s (S (padL n k))))) [] := padded_ n k h0 h1 hk0 hk
theorem copyCheckO_N (bo : Nat) (y m d : Int) :
    SpG g 83 [.c (.bx 0 3)] [(0, .box ⟨.c 153, some bo⟩ [.d (.i y), .d (.i m), .d (.i d), .d (.v (.pointer none)), .d (.nil)])] (.tup []) [(0, .box ⟨.c 153, some bo⟩ [.d (.i y), .d (.i m), .d (.i d), .bx 0 3, .d (.nil)])] := by
  refine enterB 20 Tryz.func83 (by kernel_rfl) fun fr hG => ?_
  refine stepC hG hmix [] [1] (true) (⟨[(0, [], .c (.bx 0 3))], [(0, .box ⟨.c 153, some bo⟩ [.d (.i y), .d (.i m), .d (.i d), .d (.v (.pointer none)), .d (.nil)])]⟩) _ (by kernel_rfl) conj0 (fun _ => ?_) (fun hc1 => absurd hc1 (by decide))
  refine stepR' hG hmix [] [] (.tup []) [(0, .box ⟨.c 153, some bo⟩ [.d (.i y), .d (.i m), .d (.i d), .bx 0 3, .d (.nil)])] (by kernel_rfl) (conj1 (show NoEsc Tryz.prog 126 from noEsc_126)) ?_ ?_
  · rfl
  · rfl
theorem copyCheckO_1 (bo : Nat) (y m d : Int) (es : List (List D)) :
    SpG g 83 [.c (.bx 0 3)] [(0, .box ⟨.c 153, some bo⟩ [.d (.i y), .d (.i m), .d (.i d), .bx 0 3, .ar 1 0]), (1, .arr 0 5 1 (es))] (.tup []) [(0, .box ⟨.c 153, some bo⟩ [.d (.i y), .d (.i m), .d (.i d), .bx 0 3, .ar 1 0]), (1, .arr 0 5 1 (es))] := by
  refine enterB 20 Tryz.func83 (by kernel_rfl) fun fr hG => ?_
  refine stepC hG hmix [] [1] (false) (⟨[(0, [], .c (.bx 0 3))], [(0, .box ⟨.c 153, some bo⟩ [.d (.i y), .d (.i m), .d (.i d), .bx 0 3, .ar 1 0]), (1, .arr 0 5 1 (es))]⟩) _ (by kernel_rfl) conj0 (fun hc1 => absurd hc1 (by decide)) (fun _ => ?_)
  refine stepC hG hmix [] [1, 1, 1] (false) (⟨[], [(0, .box ⟨.c 153, some bo⟩ [.d (.i y), .d (.i m), .d (.i d), .bx 0 3, .ar 1 0]), (1, .arr 0 5 1 (es))]⟩) _ (by kernel_rfl) conj0 (fun hc2 => absurd hc2 (by decide)) (fun _ => ?_)
  refine stepR' hG hmix [] [] (.tup []) [(0, .box ⟨.c 153, some bo⟩ [.d (.i y), .d (.i m), .d (.i d), .bx 0 3, .ar 1 0]), (1, .arr 0 5 1 (es))] (by kernel_rfl) conj0 ?_ ?_
  · rfl
  · rfl
theorem writeStringO_N (bo : Nat) (y m d : Int) (s : ByteArray) (h : s.size ≤ 1000000000000) :
    SpG g 48 [.c (.bx 0 3), .c (.d (.s s))] [(0, .box ⟨.c 153, some bo⟩ [.d (.i y), .d (.i m), .d (.i d), .d (.v (.pointer none)), .d (.nil)])] (.tup [(false, [.d (.i (s.size : Int))]), (false, [.d (.v (.nilIface))])]) [(0, .box ⟨.c 153, some bo⟩ [.d (.i y), .d (.i m), .d (.i d), .bx 0 3, .ar 100 0]), (100, .arr 0 5 1 (bytesD s.data.toList))] := by
  refine enterB 19 Tryz.func48 (by kernel_rfl) fun fr hG => ?_
  refine stepR' hG hmix [(1, 1, .callG (.tup []) [0] [(0, .box ⟨.c 153, some bo⟩ [.d (.i y), .d (.i m), .d (.i d), .bx 0 3, .d (.nil)])])] [306] (.tup [(false, [.d (.i ((s).size : Int))]), (false, [.d (.v (.nilIface))])]) [(0, .box ⟨.c 153, some bo⟩ [.d (.i y), .d (.i m), .d (.i d), .bx 0 3, .ar 100 0]), (100, .arr 0 5 1 (bytesD (s).data.toList))] (by kernel_rfl) (conjC ((copyCheckO_N bo y m d : SpG g _ _ _ _ _)) (conj1 (show (s).size ≤ 1000000000000 from (by intros; first | assumption | omega)))) ?_ ?_
  · rfl
  · rfl
theorem writeStringO_1 (bo : Nat) (y m d : Int) (es : List (List D)) (s : ByteArray) (h : es.length + s.size ≤ 1000000000000) :
    SpG g 48 [.c (.bx 0 3), .c (.d (.s s))] [(0, .box ⟨.c 153, some bo⟩ [.d (.i y), .d (.i m), .d (.i d), .bx 0 3, .ar 1 0]), (1, .arr 0 5 1 (es))] (.tup [(false, [.d (.i (s.size : Int))]), (false, [.d (.v (.nilIface))])]) [(0, .box ⟨.c 153, some bo⟩ [.d (.i y), .d (.i m), .d (.i d), .bx 0 3, .ar 1 0]), (1, .arr 0 5 1 (es ++ bytesD s.data.toList))] := by
  refine enterB 19 Tryz.func48 (by kernel_rfl) fun fr hG => ?_
  refine stepR' hG hmix [(1, 1, .callG (.tup []) [0, 1] [(0, .box ⟨.c 153, some bo⟩ [.d (.i y), .d (.i m), .d (.i d), .bx 0 3, .ar 1 0]), (1, .arr 0 5 1 (es))])] [] (.tup [(false, [.d (.i ((s).size : Int))]), (false, [.d (.v (.nilIface))])]) [(0, .box ⟨.c 153, some bo⟩ [.d (.i y), .d (.i m), .d (.i d), .bx 0 3, .ar 1 0]), (1, .arr 0 5 1 (es ++ bytesD (s).data.toList))] (by kernel_rfl) (conjC ((copyCheckO_1 bo y m d (es) : SpG g _ _ _ _ _)) (conj1 (show (es).length + (s).size ≤ 1000000000000 from (by intros; first | assumption | omega)))) ?_ ?_
  · rfl
  · rfl
theorem builderStringO_ (bo : Nat) (y m d : Int) (es : List (List D)) (r : ByteArray) (h : es = bytesD r.data.toList) :
    SpG g 51 [.c (.bx 0 3)] [(0, .box ⟨.c 153, some bo⟩ [.d (.i y), .d (.i m), .d (.i d), .bx 0 3, .ar 1 0]), (1, .arr 0 5 1 (es))] (.c (.d (.s r))) [(1, .arr 0 5 1 []), (0, .box ⟨.c 153, some bo⟩ [.d (.i y), .d (.i m), .d (.i d), .bx 0 3, .any])] := by
  refine enterB 14 Tryz.func51 (by kernel_rfl) fun fr hG => ?_
  refine stepR' hG hmix [(1, 10, .call (.c (.d (.s (r)))) [] [])] [] (.c (.d (.s r))) [(1, .arr 0 5 1 (([] : List (List D)))), (0, .box ⟨.c 153, some bo⟩ [.d (.i y), .d (.i m), .d (.i d), .bx 0 3, .any])] (by kernel_rfl) (conjC (show es = bytesD (r).data.toList from h) (conj1 (show (((es).length : Int) : Int) = ((r).size : Int) from (by intros; first | assumption | (rw [h, bytesD_len]; rfl))))) ?_ ?_
  · rfl
  · rfl
theorem builderStringO (bo : Nat) (y m d : Int) (es : List (List D)) (r : ByteArray) (h : es = bytesD r.data.toList) :
    SpG g 51 [.c (.bx 0 3)] [(0, .box ⟨.c 153, some bo⟩ [.d (.i y), .d (.i m), .d (.i d), .bx 0 3, .ar 1 0]), (1, .arr 0 5 1 es)] (.c (.d (.s r))) [(0, .box ⟨.c 153, some bo⟩ [.d (.i y), .d (.i m), .d (.i d), .bx 0 3, .any]), (1, .arr 0 5 1 [])] :=
  spec_look (builderStringO_ bo y m d es r h) (by funext i; match i with | 0 => rfl | 1 => rfl | i + 2 => rfl)
theorem put0_ (bo : Nat) (y m d : Int) (hy : YMD y m d) :
    SpG g 124 [.c (.bx 0 0), .agg [.d (.s (S [89, 89, 89, 89])), .d (.b true)]] [(0, .box ⟨.c 153, some bo⟩ [.d (.i y), .d (.i m), .d (.i d), .d (.v (.pointer none)), .d (.nil)])] (.tup []) [(100, .arr 0 5 1 (dE y m d 1)), (0, .box ⟨.c 153, some bo⟩ [.d (.i y), .d (.i m), .d (.i d), .bx 0 3, .ar 100 0])] := by
  have hdl := dE_len hy 0
  have p1 := padL_len (n := y) (k := 4) (by have := hy.y1; omega) (by decide)
  have p2 := padL_len (n := m) (k := 2) (by have := hy.m1; omega) (by decide)
  have p3 := padL_len (n := d) (k := 2) (by have := hy.d1; omega) (by decide)
  obtain ⟨y0, y1, m0, m1, d0, d1⟩ := hy
  refine enterB 57 Tryz.func124 (by kernel_rfl) fun fr hG => ?_
  refine stepC hG hmix [] [1, 0, 1] (false) (⟨[(0, [], .c (.bx 0 0)), (3, [], .c (.bx 100 0))], [(0, .box ⟨.c 153, some bo⟩ [.d (.i y), .d (.i m), .d (.i d), .d (.v (.pointer none)), .d (.nil)]), (100, .box 159 [.d (.s (S [89, 89, 89, 89])), .d (.b true)])]⟩) _ (by kernel_rfl) conj0 (fun hc1 => absurd hc1 (by decide)) (fun _ => ?_)
  refine stepC hG hmix [] [1, 1, 1, 0, 1] (true) (⟨[(0, [], .c (.bx 0 0)), (3, [], .c (.bx 100 0))], [(0, .box ⟨.c 153, some bo⟩ [.d (.i y), .d (.i m), .d (.i d), .d (.v (.pointer none)), .d (.nil)]), (100, .box 159 [.d (.s (S [89, 89, 89, 89])), .d (.b true)])]⟩) _ (by kernel_rfl) (conj1 (show (0 : Int) ≤ 0 ∧ 0 < ((S [89, 89, 89, 89]).size : Int) from (by decide))) (fun _ => ?_) (fun hc2 => absurd hc2 (by decide))
  refine stepR' hG hmix [(5, 7, .call (.c (.d (.s (S (padL y 4))))) [] []), (5, 8, .callG (.tup [(false, [.d (.i ((S (padL y 4)).size : Int))]), (false, [.d (.v (.nilIface))])]) [0] [(0, .box ⟨.c 153, some bo⟩ [.d (.i y), .d (.i m), .d (.i d), .bx 0 3, .ar 100 0]), (100, .arr 0 5 1 (bytesD (S (padL y 4)).data.toList))])] [608] (.tup []) [(100, .arr 0 5 1 (bytesD (S (padL y 4)).data.toList)), (0, .box ⟨.c 153, some bo⟩ [.d (.i y), .d (.i m), .d (.i d), .bx 0 3, .ar 100 0])] (by kernel_rfl) (conjC ((padded_ok y 4 (by omega) (by omega) (by decide) (by decide) : SpG g _ _ _ _ _)) (conj1 ((writeStringO_N bo y m d (S (padL y 4)) (by simp only [S_size, List.length_cons, List.length_nil] at *; omega) : SpG g _ _ _ _ _)))) ?_ ?_
  · rfl
  · rfl
theorem put0 (bo : Nat) (y m d : Int) (hy : YMD y m d) :
    SpG g 124 [.c (.bx 0 0), .agg [.d (.s (S [89, 89, 89, 89])), .d (.b true)]] [(0, .box ⟨.c 153, some bo⟩ [.d (.i y), .d (.i m), .d (.i d), .d (.v (.pointer none)), .d (.nil)])] (.tup []) [(0, .box ⟨.c 153, some bo⟩ [.d (.i y), .d (.i m), .d (.i d), .bx 0 3, .ar 100 0]), (100, .arr 0 5 1 (dE y m d 1))] := by
  refine spec_look (put0_ bo y m d hy) ?_
  first | rfl | (funext i; simp only [lookO_cons, upd]; ((repeat' split) <;> first | rfl | (exfalso; omega)))
theorem put1_ (bo : Nat) (y m d : Int) (hy : YMD y m d) :
    SpG g 124 [.c (.bx 0 0), .agg [.d (.s (S [45])), .d (.b false)]] [(0, .box ⟨.c 153, some bo⟩ [.d (.i y), .d (.i m), .d (.i d), .bx 0 3, .ar 1 0]), (1, .arr 0 5 1 (dE y m d 1))] (.tup []) [(1, .arr 0 5 1 (dE y m d 2)), (0, .box ⟨.c 153, some bo⟩ [.d (.i y), .d (.i m), .d (.i d), .bx 0 3, .ar 1 0])] := by
  have hdl := dE_len hy 1
  have p1 := padL_len (n := y) (k := 4) (by have := hy.y1; omega) (by decide)
  have p2 := padL_len (n := m) (k := 2) (by have := hy.m1; omega) (by decide)
  have p3 := padL_len (n := d) (k := 2) (by have := hy.d1; omega) (by decide)
  obtain ⟨y0, y1, m0, m1, d0, d1⟩ := hy
  refine enterB 57 Tryz.func124 (by kernel_rfl) fun fr hG => ?_
  refine stepC hG hmix [] [1, 0, 1] (true) (⟨[(0, [], .c (.bx 0 0)), (3, [], .c (.bx 100 0))], [(0, .box ⟨.c 153, some bo⟩ [.d (.i y), .d (.i m), .d (.i d), .bx 0 3, .ar 1 0]), (1, .arr 0 5 1 (dE y m d 1)), (100, .box 159 [.d (.s (S [45])), .d (.b false)])]⟩) _ (by kernel_rfl) conj0 (fun _ => ?_) (fun hc1 => absurd hc1 (by decide))
  refine stepR' hG hmix [(3, 5, .callG (.tup [(false, [.d (.i ((S [45]).size : Int))]), (false, [.d (.v (.nilIface))])]) [0, 1] [(0, .box ⟨.c 153, some bo⟩ [.d (.i y), .d (.i m), .d (.i d), .bx 0 3, .ar 1 0]), (1, .arr 0 5 1 ((dE y m d 1) ++ bytesD (S [45]).data.toList))])] [] (.tup []) [(1, .arr 0 5 1 ((dE y m d 1) ++ bytesD (S [45]).data.toList)), (0, .box ⟨.c 153, some bo⟩ [.d (.i y), .d (.i m), .d (.i d), .bx 0 3, .ar 1 0])] (by kernel_rfl) (conj1 ((writeStringO_1 bo y m d (dE y m d 1) (S [45]) (by simp only [S_size, List.length_cons, List.length_nil] at *; omega) : SpG g _ _ _ _ _))) ?_ ?_
  · rfl
  · rfl
theorem put1 (bo : Nat) (y m d : Int) (hy : YMD y m d) :
    SpG g 124 [.c (.bx 0 0), .agg [.d (.s (S [45])), .d (.b false)]] [(0, .box ⟨.c 153, some bo⟩ [.d (.i y), .d (.i m), .d (.i d), .bx 0 3, .ar 1 0]), (1, .arr 0 5 1 (dE y m d 1))] (.tup []) [(0, .box ⟨.c 153, some bo⟩ [.d (.i y), .d (.i m), .d (.i d), .bx 0 3, .ar 1 0]), (1, .arr 0 5 1 (dE y m d 2))] := by
  refine spec_look (put1_ bo y m d hy) ?_
  first | rfl | (funext i; simp only [lookO_cons, upd]; ((repeat' split) <;> first | rfl | (exfalso; omega)))
theorem put2_ (bo : Nat) (y m d : Int) (hy : YMD y m d) :
    SpG g 124 [.c (.bx 0 0), .agg [.d (.s (S [77, 77])), .d (.b true)]] [(0, .box ⟨.c 153, some bo⟩ [.d (.i y), .d (.i m), .d (.i d), .bx 0 3, .ar 1 0]), (1, .arr 0 5 1 (dE y m d 2))] (.tup []) [(1, .arr 0 5 1 (dE y m d 3)), (0, .box ⟨.c 153, some bo⟩ [.d (.i y), .d (.i m), .d (.i d), .bx 0 3, .ar 1 0])] := by
  have hdl := dE_len hy 2
  have p1 := padL_len (n := y) (k := 4) (by have := hy.y1; omega) (by decide)
  have p2 := padL_len (n := m) (k := 2) (by have := hy.m1; omega) (by decide)
  have p3 := padL_len (n := d) (k := 2) (by have := hy.d1; omega) (by decide)
  obtain ⟨y0, y1, m0, m1, d0, d1⟩ := hy
  refine enterB 57 Tryz.func124 (by kernel_rfl) fun fr hG => ?_
  refine stepC hG hmix [] [1, 0, 1] (false) (⟨[(0, [], .c (.bx 0 0)), (3, [], .c (.bx 100 0))], [(0, .box ⟨.c 153, some bo⟩ [.d (.i y), .d (.i m), .d (.i d), .bx 0 3, .ar 1 0]), (1, .arr 0 5 1 (dE y m d 2)), (100, .box 159 [.d (.s (S [77, 77])), .d (.b true)])]⟩) _ (by kernel_rfl) conj0 (fun hc1 => absurd hc1 (by decide)) (fun _ => ?_)
  refine stepC hG hmix [] [1, 1, 1, 0, 1] (false) (⟨[(0, [], .c (.bx 0 0)), (3, [], .c (.bx 100 0))], [(0, .box ⟨.c 153, some bo⟩ [.d (.i y), .d (.i m), .d (.i d), .bx 0 3, .ar 1 0]), (1, .arr 0 5 1 (dE y m d 2)), (100, .box 159 [.d (.s (S [77, 77])), .d (.b true)])]⟩) _ (by kernel_rfl) (conj1 (show (0 : Int) ≤ 0 ∧ 0 < ((S [77, 77]).size : Int) from (by decide))) (fun hc2 => absurd hc2 (by decide)) (fun _ => ?_)
  refine stepC hG hmix [] [1, 1, 1, 1, 1, 0, 1] (true) (⟨[(0, [], .c (.bx 0 0)), (3, [], .c (.bx 100 0))], [(0, .box ⟨.c 153, some bo⟩ [.d (.i y), .d (.i m), .d (.i d), .bx 0 3, .ar 1 0]), (1, .arr 0 5 1 (dE y m d 2)), (100, .box 159 [.d (.s (S [77, 77])), .d (.b true)])]⟩) _ (by kernel_rfl) (conj1 (show (0 : Int) ≤ 0 ∧ 0 < ((S [77, 77]).size : Int) from (by decide))) (fun _ => ?_) (fun hc3 => absurd hc3 (by decide))
  refine stepR' hG hmix [(7, 10, .call (.c (.d (.s (S (padL m 2))))) [] []), (7, 11, .callG (.tup [(false, [.d (.i ((S (padL m 2)).size : Int))]), (false, [.d (.v (.nilIface))])]) [0, 1] [(0, .box ⟨.c 153, some bo⟩ [.d (.i y), .d (.i m), .d (.i d), .bx 0 3, .ar 1 0]), (1, .arr 0 5 1 ((dE y m d 2) ++ bytesD (S (padL m 2)).data.toList))])] [] (.tup []) [(1, .arr 0 5 1 ((dE y m d 2) ++ bytesD (S (padL m 2)).data.toList)), (0, .box ⟨.c 153, some bo⟩ [.d (.i y), .d (.i m), .d (.i d), .bx 0 3, .ar 1 0])] (by kernel_rfl) (conjC ((padded_ok m 2 (by omega) (by omega) (by decide) (by decide) : SpG g _ _ _ _ _)) (conj1 ((writeStringO_1 bo y m d (dE y m d 2) (S (padL m 2)) (by simp only [S_size, List.length_cons, List.length_nil] at *; omega) : SpG g _ _ _ _ _)))) ?_ ?_
  · rfl
  · rfl
theorem put2 (bo : Nat) (y m d : Int) (hy : YMD y m d) :
    SpG g 124 [.c (.bx 0 0), .agg [.d (.s (S [77, 77])), .d (.b true)]] [(0, .box ⟨.c 153, some bo⟩ [.d (.i y), .d (.i m), .d (.i d), .bx 0 3, .ar 1 0]), (1, .arr 0 5 1 (dE y m d 2))] (.tup []) [(0, .box ⟨.c 153, some bo⟩ [.d (.i y), .d (.i m), .d (.i d), .bx 0 3, .ar 1 0]), (1, .arr 0 5 1 (dE y m d 3))] := by
  refine spec_look (put2_ bo y m d hy) ?_
  first | rfl | (funext i; simp only [lookO_cons, upd]; ((repeat' split) <;> first | rfl | (exfalso; omega)))
theorem put3_ (bo : Nat) (y m d : Int) (hy : YMD y m d) :
    SpG g 124 [.c (.bx 0 0), .agg [.d (.s (S [45])), .d (.b false)]] [(0, .box ⟨.c 153, some bo⟩ [.d (.i y), .d (.i m), .d (.i d), .bx 0 3, .ar 1 0]), (1, .arr 0 5 1 (dE y m d 3))] (.tup []) [(1, .arr 0 5 1 (dE y m d 4)), (0, .box ⟨.c 153, some bo⟩ [.d (.i y), .d (.i m), .d (.i d), .bx 0 3, .ar 1 0])] := by
  have hdl := dE_len hy 3
  have p1 := padL_len (n := y) (k := 4) (by have := hy.y1; omega) (by decide)
  have p2 := padL_len (n := m) (k := 2) (by have := hy.m1; omega) (by decide)
  have p3 := padL_len (n := d) (k := 2) (by have := hy.d1; omega) (by decide)
  obtain ⟨y0, y1, m0, m1, d0, d1⟩ := hy
  refine enterB 57 Tryz.func124 (by kernel_rfl) fun fr hG => ?_
  refine stepC hG hmix [] [1, 0, 1] (true) (⟨[(0, [], .c (.bx 0 0)), (3, [], .c (.bx 100 0))], [(0, .box ⟨.c 153, some bo⟩ [.d (.i y), .d (.i m), .d (.i d), .bx 0 3, .ar 1 0]), (1, .arr 0 5 1 (dE y m d 3)), (100, .box 159 [.d (.s (S [45])), .d (.b false)])]⟩) _ (by kernel_rfl) conj0 (fun _ => ?_) (fun hc1 => absurd hc1 (by decide))
  refine stepR' hG hmix [(3, 5, .callG (.tup [(false, [.d (.i ((S [45]).size : Int))]), (false, [.d (.v (.nilIface))])]) [0, 1] [(0, .box ⟨.c 153, some bo⟩ [.d (.i y), .d (.i m), .d (.i d), .bx 0 3, .ar 1 0]), (1, .arr 0 5 1 ((dE y m d 3) ++ bytesD (S [45]).data.toList))])] [] (.tup []) [(1, .arr 0 5 1 ((dE y m d 3) ++ bytesD (S [45]).data.toList)), (0, .box ⟨.c 153, some bo⟩ [.d (.i y), .d (.i m), .d (.i d), .bx 0 3, .ar 1 0])] (by kernel_rfl) (conj1 ((writeStringO_1 bo y m d (dE y m d 3) (S [45]) (by simp only [S_size, List.length_cons, List.length_nil] at *; omega) : SpG g _ _ _ _ _))) ?_ ?_
  · rfl
  · rfl
theorem put3 (bo : Nat) (y m d : Int) (hy : YMD y m d) :
    SpG g 124 [.c (.bx 0 0), .agg [.d (.s (S [45])), .d (.b false)]] [(0, .box ⟨.c 153, some bo⟩ [.d (.i y), .d (.i m), .d (.i d), .bx 0 3, .ar 1 0]), (1, .arr 0 5 1 (dE y m d 3))] (.tup []) [(0, .box ⟨.c 153, some bo⟩ [.d (.i y), .d (.i m), .d (.i d), .bx 0 3, .ar 1 0]), (1, .arr 0 5 1 (dE y m d 4))] := by
  refine spec_look (put3_ bo y m d hy) ?_
  first | rfl | (funext i; simp only [lookO_cons, upd]; ((repeat' split) <;> first | rfl | (exfalso; omega)))
theorem put4_ (bo : Nat) (y m d : Int) (hy : YMD y m d) :
    SpG g 124 [.c (.bx 0 0), .agg [.d (.s (S [68, 68])), .d (.b true)]] [(0, .box ⟨.c 153, some bo⟩ [.d (.i y), .d (.i m), .d (.i d), .bx 0 3, .ar 1 0]), (1, .arr 0 5 1 (dE y m d 4))] (.tup []) [(1, .arr 0 5 1 (dE y m d 5)), (0, .box ⟨.c 153, some bo⟩ [.d (.i y), .d (.i m), .d (.i d), .bx 0 3, .ar 1 0])] := by
  have hdl := dE_len hy 4
  have p1 := padL_len (n := y) (k := 4) (by have := hy.y1; omega) (by decide)
  have p2 := padL_len (n := m) (k := 2) (by have := hy.m1; omega) (by decide)
  have p3 := padL_len (n := d) (k := 2) (by have := hy.d1; omega) (by decide)
  obtain ⟨y0, y1, m0, m1, d0, d1⟩ := hy
  refine enterB 57 Tryz.func124 (by kernel_rfl) fun fr hG => ?_
  refine stepC hG hmix [] [1, 0, 1] (false) (⟨[(0, [], .c (.bx 0 0)), (3, [], .c (.bx 100 0))], [(0, .box ⟨.c 153, some bo⟩ [.d (.i y), .d (.i m), .d (.i d), .bx 0 3, .ar 1 0]), (1, .arr 0 5 1 (dE y m d 4)), (100, .box 159 [.d (.s (S [68, 68])), .d (.b true)])]⟩) _ (by kernel_rfl) conj0 (fun hc1 => absurd hc1 (by decide)) (fun _ => ?_)
  refine stepC hG hmix [] [1, 1, 1, 0, 1] (false) (⟨[(0, [], .c (.bx 0 0)), (3, [], .c (.bx 100 0))], [(0, .box ⟨.c 153, some bo⟩ [.d (.i y), .d (.i m), .d (.i d), .bx 0 3, .ar 1 0]), (1, .arr 0 5 1 (dE y m d 4)), (100, .box 159 [.d (.s (S [68, 68])), .d (.b true)])]⟩) _ (by kernel_rfl) (conj1 (show (0 : Int) ≤ 0 ∧ 0 < ((S [68, 68]).size : Int) from (by decide))) (fun hc2 => absurd hc2 (by decide)) (fun _ => ?_)
  refine stepC hG hmix [] [1, 1, 1, 1, 1, 0, 1] (false) (⟨[(0, [], .c (.bx 0 0)), (3, [], .c (.bx 100 0))], [(0, .box ⟨.c 153, some bo⟩ [.d (.i y), .d (.i m), .d (.i d), .bx 0 3, .ar 1 0]), (1, .arr 0 5 1 (dE y m d 4)), (100, .box 159 [.d (.s (S [68, 68])), .d (.b true)])]⟩) _ (by kernel_rfl) (conj1 (show (0 : Int) ≤ 0 ∧ 0 < ((S [68, 68]).size : Int) from (by decide))) (fun hc3 => absurd hc3 (by decide)) (fun _ => ?_)
  refine stepR' hG hmix [(1, 10, .call (.c (.d (.s (S (padL d 2))))) [] []), (1, 11, .callG (.tup [(false, [.d (.i ((S (padL d 2)).size : Int))]), (false, [.d (.v (.nilIface))])]) [0, 1] [(0, .box ⟨.c 153, some bo⟩ [.d (.i y), .d (.i m), .d (.i d), .bx 0 3, .ar 1 0]), (1, .arr 0 5 1 ((dE y m d 4) ++ bytesD (S (padL d 2)).data.toList))])] [] (.tup []) [(1, .arr 0 5 1 ((dE y m d 4) ++ bytesD (S (padL d 2)).data.toList)), (0, .box ⟨.c 153, some bo⟩ [.d (.i y), .d (.i m), .d (.i d), .bx 0 3, .ar 1 0])] (by kernel_rfl) (conjC ((padded_ok d 2 (by omega) (by omega) (by decide) (by decide) : SpG g _ _ _ _ _)) (conj1 ((writeStringO_1 bo y m d (dE y m d 4) (S (padL d 2)) (by simp only [S_size, List.length_cons, List.length_nil] at *; omega) : SpG g _ _ _ _ _)))) ?_ ?_
  · rfl
  · rfl
theorem put4 (bo : Nat) (y m d : Int) (hy : YMD y m d) :
    SpG g 124 [.c (.bx 0 0), .agg [.d (.s (S [68, 68])), .d (.b true)]] [(0, .box ⟨.c 153, some bo⟩ [.d (.i y), .d (.i m), .d (.i d), .bx 0 3, .ar 1 0]), (1, .arr 0 5 1 (dE y m d 4))] (.tup []) [(0, .box ⟨.c 153, some bo⟩ [.d (.i y), .d (.i m), .d (.i d), .bx 0 3, .ar 1 0]), (1, .arr 0 5 1 (dE y m d 5))] := by
  refine spec_look (put4_ bo y m d hy) ?_
  first | rfl | (funext i; simp only [lookO_cons, upd]; ((repeat' split) <;> first | rfl | (exfalso; omega)))
theorem formatY0 (bo bw D l : Nat) (y m d : Int) (hy : YMD y m d) (fn : FuncId) (tm : Array Value) (h11 : tm.getD 11 undef = .pointer (some ⟨bw, 0, none⟩)) (hn : tm.size = 44) :
    YSpec Tryz.prog (Gl g) l [.agg [.d (.s (S [89, 89, 89, 89])), .d (.b true)]] [(0, .box ⟨.raw (.loop (recOf (bodyOf Tryz.f82) [0, 1, 0, 1, 1, 1, 1, 1] fn tm D)), some l⟩ []), (1, .box ⟨.c 153, some bo⟩ [.d (.i y), .d (.i m), .d (.i d), .d (.v (.pointer none)), .d (.nil)]), (2, .box ⟨.c 154, some bw⟩ [.fn 124 [(1, 0)] []])] (.c (.d (.b true))) [(0, .box ⟨.raw (.loop (recOf (bodyOf Tryz.f82) [0, 1, 0, 1, 1, 1, 1, 1] fn tm D)), some l⟩ []), (1, .box ⟨.c 153, some bo⟩ [.d (.i y), .d (.i m), .d (.i d), .bx 1 3, .ar 100 0]), (2, .box ⟨.c 154, some bw⟩ [.fn 124 [(1, 0)] []]), (100, .arr 0 5 1 (dE y m d 1))] := by
  refine enterY (iL := 0) (p := 36) (env0 := [(11, [], .c (.bx 2 0))]) (n := 44) (r := (recOf (bodyOf Tryz.f82) [0, 1, 0, 1, 1, 1, 1, 1] fn tm D)) rfl (by kernel_rfl) hn (by decide) ⟨rfl, ⟨_, _, _, rfl, rfl, h11⟩, trivial⟩ rfl fun fr hG => ?_
  refine stepB hG hmix [] (⟨[(11, [], .c (.bx 2 0)), (12, [], .c (.bx 800 0))], [(0, .box ⟨.raw (.loop (recOf (bodyOf Tryz.f82) [0, 1, 0, 1, 1, 1, 1, 1] fn tm D)), some l⟩ []), (1, .box ⟨.c 153, some bo⟩ [.d (.i y), .d (.i m), .d (.i d), .d (.v (.pointer none)), .d (.nil)]), (2, .box ⟨.c 154, some bw⟩ [.fn 124 [(1, 0)] []]), (800, .box 159 [.d (.s (S [89, 89, 89, 89])), .d (.b true)])]⟩) 0 (r := (recOf (bodyOf Tryz.f82) [0, 1, 0, 1, 1, 1, 1, 1] fn tm D)) (by kernel_rfl) conj0 rfl rfl ?_
  refine stepK hG (⟨[(11, [], .c (.bx 2 0)), (12, [], .c (.bx 800 0))], [(0, .box ⟨.raw (.loop { (recOf (bodyOf Tryz.f82) [0, 1, 0, 1, 1, 1, 1, 1] fn tm D) with state := .busy }), some l⟩ []), (1, .box ⟨.c 153, some bo⟩ [.d (.i y), .d (.i m), .d (.i d), .d (.v (.pointer none)), .d (.nil)]), (2, .box ⟨.c 154, some bw⟩ [.fn 124 [(1, 0)] []]), (800, .box 159 [.d (.s (S [89, 89, 89, 89])), .d (.b true)])]⟩) (by kernel_rfl) ?_
  refine stepY hG hmix [(8, 2, .callG (.tup []) [1] [(0, .box ⟨.c 153, some bo⟩ [.d (.i y), .d (.i m), .d (.i d), .bx 0 3, .ar 100 0]), (100, .arr 0 5 1 (dE y m d 1))])] [902] 0 .normal [(0, .box ⟨.raw (endL { (recOf (bodyOf Tryz.f82) [0, 1, 0, 1, 1, 1, 1, 1] fn tm D) with state := .busy } .normal), some l⟩ []), (100, .arr 0 5 1 (dE y m d 1)), (1, .box ⟨.c 153, some bo⟩ [.d (.i y), .d (.i m), .d (.i d), .bx 1 3, .ar 100 0]), (2, .box ⟨.c 154, some bw⟩ [.fn 124 [(1, 0)] []])] (by kernel_rfl) (conj1 ((put0 bo y m d hy : SpG g _ _ _ _ _))) ?_ ?_
  · rfl
  · funext i; simp only [lookO_cons, upd]; (repeat' split) <;> first | rfl | (exfalso; omega)
theorem formatY1 (bo bw D l : Nat) (y m d : Int) (hy : YMD y m d) (fn : FuncId) (tm : Array Value) (h11 : tm.getD 11 undef = .pointer (some ⟨bw, 0, none⟩)) (hn : tm.size = 44) :
    YSpec Tryz.prog (Gl g) l [.agg [.d (.s (S [45])), .d (.b false)]] [(0, .box ⟨.raw (.loop (recOf (bodyOf Tryz.f82) [0, 1, 0, 1, 1, 1, 1, 1] fn tm D)), some l⟩ []), (1, .box ⟨.c 153, some bo⟩ [.d (.i y), .d (.i m), .d (.i d), .bx 1 3, .ar 3 0]), (2, .box ⟨.c 154, some bw⟩ [.fn 124 [(1, 0)] []]), (3, .arr 0 5 1 (dE y m d 1))] (.c (.d (.b true))) [(0, .box ⟨.raw (.loop (recOf (bodyOf Tryz.f82) [0, 1, 0, 1, 1, 1, 1, 1] fn tm D)), some l⟩ []), (1, .box ⟨.c 153, some bo⟩ [.d (.i y), .d (.i m), .d (.i d), .bx 1 3, .ar 3 0]), (2, .box ⟨.c 154, some bw⟩ [.fn 124 [(1, 0)] []]), (3, .arr 0 5 1 (dE y m d 2))] := by
  refine enterY (iL := 0) (p := 36) (env0 := [(11, [], .c (.bx 2 0))]) (n := 44) (r := (recOf (bodyOf Tryz.f82) [0, 1, 0, 1, 1, 1, 1, 1] fn tm D)) rfl (by kernel_rfl) hn (by decide) ⟨rfl, ⟨_, _, _, rfl, rfl, h11⟩, trivial⟩ rfl fun fr hG => ?_
  refine stepB hG hmix [] (⟨[(11, [], .c (.bx 2 0)), (12, [], .c (.bx 800 0))], [(0, .box ⟨.raw (.loop (recOf (bodyOf Tryz.f82) [0, 1, 0, 1, 1, 1, 1, 1] fn tm D)), some l⟩ []), (1, .box ⟨.c 153, some bo⟩ [.d (.i y), .d (.i m), .d (.i d), .bx 1 3, .ar 3 0]), (2, .box ⟨.c 154, some bw⟩ [.fn 124 [(1, 0)] []]), (3, .arr 0 5 1 (dE y m d 1)), (800, .box 159 [.d (.s (S [45])), .d (.b false)])]⟩) 0 (r := (recOf (bodyOf Tryz.f82) [0, 1, 0, 1, 1, 1, 1, 1] fn tm D)) (by kernel_rfl) conj0 rfl rfl ?_
  refine stepK hG (⟨[(11, [], .c (.bx 2 0)), (12, [], .c (.bx 800 0))], [(0, .box ⟨.raw (.loop { (recOf (bodyOf Tryz.f82) [0, 1, 0, 1, 1, 1, 1, 1] fn tm D) with state := .busy }), some l⟩ []), (1, .box ⟨.c 153, some bo⟩ [.d (.i y), .d (.i m), .d (.i d), .bx 1 3, .ar 3 0]), (2, .box ⟨.c 154, some bw⟩ [.fn 124 [(1, 0)] []]), (3, .arr 0 5 1 (dE y m d 1)), (800, .box 159 [.d (.s (S [45])), .d (.b false)])]⟩) (by kernel_rfl) ?_
  refine stepY hG hmix [(8, 2, .callG (.tup []) [1, 3] [(0, .box ⟨.c 153, some bo⟩ [.d (.i y), .d (.i m), .d (.i d), .bx 0 3, .ar 1 0]), (1, .arr 0 5 1 (dE y m d 2))])] [] 0 .normal [(0, .box ⟨.raw (endL { (recOf (bodyOf Tryz.f82) [0, 1, 0, 1, 1, 1, 1, 1] fn tm D) with state := .busy } .normal), some l⟩ []), (3, .arr 0 5 1 (dE y m d 2)), (1, .box ⟨.c 153, some bo⟩ [.d (.i y), .d (.i m), .d (.i d), .bx 1 3, .ar 3 0]), (2, .box ⟨.c 154, some bw⟩ [.fn 124 [(1, 0)] []])] (by kernel_rfl) (conj1 ((put1 bo y m d hy : SpG g _ _ _ _ _))) ?_ ?_
  · rfl
  · funext i; simp only [lookO_cons, upd]; (repeat' split) <;> first | rfl | (exfalso; omega)
theorem formatY2 (bo bw D l : Nat) (y m d : Int) (hy : YMD y m d) (fn : FuncId) (tm : Array Value) (h11 : tm.getD 11 undef = .pointer (some ⟨bw, 0, none⟩)) (hn : tm.size = 44) :
    YSpec Tryz.prog (Gl g) l [.agg [.d (.s (S [77, 77])), .d (.b true)]] [(0, .box ⟨.raw (.loop (recOf (bodyOf Tryz.f82) [0, 1, 0, 1, 1, 1, 1, 1] fn tm D)), some l⟩ []), (1, .box ⟨.c 153, some bo⟩ [.d (.i y), .d (.i m), .d (.i d), .bx 1 3, .ar 3 0]), (2, .box ⟨.c 154, some bw⟩ [.fn 124 [(1, 0)] []]), (3, .arr 0 5 1 (dE y m d 2))] (.c (.d (.b true))) [(0, .box ⟨.raw (.loop (recOf (bodyOf Tryz.f82) [0, 1, 0, 1, 1, 1, 1, 1] fn tm D)), some l⟩ []), (1, .box ⟨.c 153, some bo⟩ [.d (.i y), .d (.i m), .d (.i d), .bx 1 3, .ar 3 0]), (2, .box ⟨.c 154, some bw⟩ [.fn 124 [(1, 0)] []]), (3, .arr 0 5 1 (dE y m d 3))] := by
  refine enterY (iL := 0) (p := 36) (env0 := [(11, [], .c (.bx 2 0))]) (n := 44) (r := (recOf (bodyOf Tryz.f82) [0, 1, 0, 1, 1, 1, 1, 1] fn tm D)) rfl (by kernel_rfl) hn (by decide) ⟨rfl, ⟨_, _, _, rfl, rfl, h11⟩, trivial⟩ rfl fun fr hG => ?_
  refine stepB hG hmix [] (⟨[(11, [], .c (.bx 2 0)), (12, [], .c (.bx 800 0))], [(0, .box ⟨.raw (.loop (recOf (bodyOf Tryz.f82) [0, 1, 0, 1, 1, 1, 1, 1] fn tm D)), some l⟩ []), (1, .box ⟨.c 153, some bo⟩ [.d (.i y), .d (.i m), .d (.i d), .bx 1 3, .ar 3 0]), (2, .box ⟨.c 154, some bw⟩ [.fn 124 [(1, 0)] []]), (3, .arr 0 5 1 (dE y m d 2)), (800, .box 159 [.d (.s (S [77, 77])), .d (.b true)])]⟩) 0 (r := (recOf (bodyOf Tryz.f82) [0, 1, 0, 1, 1, 1, 1, 1] fn tm D)) (by kernel_rfl) conj0 rfl rfl ?_
  refine stepK hG (⟨[(11, [], .c (.bx 2 0)), (12, [], .c (.bx 800 0))], [(0, .box ⟨.raw (.loop { (recOf (bodyOf Tryz.f82) [0, 1, 0, 1, 1, 1, 1, 1] fn tm D) with state := .busy }), some l⟩ []), (1, .box ⟨.c 153, some bo⟩ [.d (.i y), .d (.i m), .d (.i d), .bx 1 3, .ar 3 0]), (2, .box ⟨.c 154, some bw⟩ [.fn 124 [(1, 0)] []]), (3, .arr 0 5 1 (dE y m d 2)), (800, .box 159 [.d (.s (S [77, 77])), .d (.b true)])]⟩) (by kernel_rfl) ?_
  refine stepY hG hmix [(8, 2, .callG (.tup []) [1, 3] [(0, .box ⟨.c 153, some bo⟩ [.d (.i y), .d (.i m), .d (.i d), .bx 0 3, .ar 1 0]), (1, .arr 0 5 1 (dE y m d 3))])] [] 0 .normal [(0, .box ⟨.raw (endL { (recOf (bodyOf Tryz.f82) [0, 1, 0, 1, 1, 1, 1, 1] fn tm D) with state := .busy } .normal), some l⟩ []), (3, .arr 0 5 1 (dE y m d 3)), (1, .box ⟨.c 153, some bo⟩ [.d (.i y), .d (.i m), .d (.i d), .bx 1 3, .ar 3 0]), (2, .box ⟨.c 154, some bw⟩ [.fn 124 [(1, 0)] []])] (by kernel_rfl) (conj1 ((put2 bo y m d hy : SpG g _ _ _ _ _))) ?_ ?_
  · rfl
  · funext i; simp only [lookO_cons, upd]; (repeat' split) <;> first | rfl | (exfalso; omega)
theorem formatY3 (bo bw D l : Nat) (y m d : Int) (hy : YMD y m d) (fn : FuncId) (tm : Array Value) (h11 : tm.getD 11 undef = .pointer (some ⟨bw, 0, none⟩)) (hn : tm.size = 44) :
    YSpec Tryz.prog (Gl g) l [.agg [.d (.s (S [45])), .d (.b false)]] [(0, .box ⟨.raw (.loop (recOf (bodyOf Tryz.f82) [0, 1, 0, 1, 1, 1, 1, 1] fn tm D)), some l⟩ []), (1, .box ⟨.c 153, some bo⟩ [.d (.i y), .d (.i m), .d (.i d), .bx 1 3, .ar 3 0]), (2, .box ⟨.c 154, some bw⟩ [.fn 124 [(1, 0)] []]), (3, .arr 0 5 1 (dE y m d 3))] (.c (.d (.b true))) [(0, .box ⟨.raw (.loop (recOf (bodyOf Tryz.f82) [0, 1, 0, 1, 1, 1, 1, 1] fn tm D)), some l⟩ []), (1, .box ⟨.c 153, some bo⟩ [.d (.i y), .d (.i m), .d (.i d), .bx 1 3, .ar 3 0]), (2, .box ⟨.c 154, some bw⟩ [.fn 124 [(1, 0)] []]), (3, .arr 0 5 1 (dE y m d 4))] := by
  refine enterY (iL := 0) (p := 36) (env0 := [(11, [], .c (.bx 2 0))]) (n := 44) (r := (recOf (bodyOf Tryz.f82) [0, 1, 0, 1, 1, 1, 1, 1] fn tm D)) rfl (by kernel_rfl) hn (by decide) ⟨rfl, ⟨_, _, _, rfl, rfl, h11⟩, trivial⟩ rfl fun fr hG => ?_
  refine stepB hG hmix [] (⟨[(11, [], .c (.bx 2 0)), (12, [], .c (.bx 800 0))], [(0, .box ⟨.raw (.loop (recOf (bodyOf Tryz.f82) [0, 1, 0, 1, 1, 1, 1, 1] fn tm D)), some l⟩ []), (1, .box ⟨.c 153, some bo⟩ [.d (.i y), .d (.i m), .d (.i d), .bx 1 3, .ar 3 0]), (2, .box ⟨.c 154, some bw⟩ [.fn 124 [(1, 0)] []]), (3, .arr 0 5 1 (dE y m d 3)), (800, .box 159 [.d (.s (S [45])), .d (.b false)])]⟩) 0 (r := (recOf (bodyOf Tryz.f82) [0, 1, 0, 1, 1, 1, 1, 1] fn tm D)) (by kernel_rfl) conj0 rfl rfl ?_
  refine stepK hG (⟨[(11, [], .c (.bx 2 0)), (12, [], .c (.bx 800 0))], [(0, .box ⟨.raw (.loop { (recOf (bodyOf Tryz.f82) [0, 1, 0, 1, 1, 1, 1, 1] fn tm D) with state := .busy }), some l⟩ []), (1, .box ⟨.c 153, some bo⟩ [.d (.i y), .d (.i m), .d (.i d), .bx 1 3, .ar 3 0]), (2, .box ⟨.c 154, some bw⟩ [.fn 124 [(1, 0)] []]), (3, .arr 0 5 1 (dE y m d 3)), (800, .box 159 [.d (.s (S [45])), .d (.b false)])]⟩) (by kernel_rfl) ?_
  refine stepY hG hmix [(8, 2, .callG (.tup []) [1, 3] [(0, .box ⟨.c 153, some bo⟩ [.d (.i y), .d (.i m), .d (.i d), .bx 0 3, .ar 1 0]), (1, .arr 0 5 1 (dE y m d 4))])] [] 0 .normal [(0, .box ⟨.raw (endL { (recOf (bodyOf Tryz.f82) [0, 1, 0, 1, 1, 1, 1, 1] fn tm D) with state := .busy } .normal), some l⟩ []), (3, .arr 0 5 1 (dE y m d 4)), (1, .box ⟨.c 153, some bo⟩ [.d (.i y), .d (.i m), .d (.i d), .bx 1 3, .ar 3 0]), (2, .box ⟨.c 154, some bw⟩ [.fn 124 [(1, 0)] []])] (by kernel_rfl) (conj1 ((put3 bo y m d hy : SpG g _ _ _ _ _))) ?_ ?_
  · rfl
  · funext i; simp only [lookO_cons, upd]; (repeat' split) <;> first | rfl | (exfalso; omega)
theorem formatY4 (bo bw D l : Nat) (y m d : Int) (hy : YMD y m d) (fn : FuncId) (tm : Array Value) (h11 : tm.getD 11 undef = .pointer (some ⟨bw, 0, none⟩)) (hn : tm.size = 44) :
    YSpec Tryz.prog (Gl g) l [.agg [.d (.s (S [68, 68])), .d (.b true)]] [(0, .box ⟨.raw (.loop (recOf (bodyOf Tryz.f82) [0, 1, 0, 1, 1, 1, 1, 1] fn tm D)), some l⟩ []), (1, .box ⟨.c 153, some bo⟩ [.d (.i y), .d (.i m), .d (.i d), .bx 1 3, .ar 3 0]), (2, .box ⟨.c 154, some bw⟩ [.fn 124 [(1, 0)] []]), (3, .arr 0 5 1 (dE y m d 4))] (.c (.d (.b true))) [(0, .box ⟨.raw (.loop (recOf (bodyOf Tryz.f82) [0, 1, 0, 1, 1, 1, 1, 1] fn tm D)), some l⟩ []), (1, .box ⟨.c 153, some bo⟩ [.d (.i y), .d (.i m), .d (.i d), .bx 1 3, .ar 3 0]), (2, .box ⟨.c 154, some bw⟩ [.fn 124 [(1, 0)] []]), (3, .arr 0 5 1 (dE y m d 5))] := by
  refine enterY (iL := 0) (p := 36) (env0 := [(11, [], .c (.bx 2 0))]) (n := 44) (r := (recOf (bodyOf Tryz.f82) [0, 1, 0, 1, 1, 1, 1, 1] fn tm D)) rfl (by kernel_rfl) hn (by decide) ⟨rfl, ⟨_, _, _, rfl, rfl, h11⟩, trivial⟩ rfl fun fr hG => ?_
  refine stepB hG hmix [] (⟨[(11, [], .c (.bx 2 0)), (12, [], .c (.bx 800 0))], [(0, .box ⟨.raw (.loop (recOf (bodyOf Tryz.f82) [0, 1, 0, 1, 1, 1, 1, 1] fn tm D)), some l⟩ []), (1, .box ⟨.c 153, some bo⟩ [.d (.i y), .d (.i m), .d (.i d), .bx 1 3, .ar 3 0]), (2, .box ⟨.c 154, some bw⟩ [.fn 124 [(1, 0)] []]), (3, .arr 0 5 1 (dE y m d 4)), (800, .box 159 [.d (.s (S [68, 68])), .d (.b true)])]⟩) 0 (r := (recOf (bodyOf Tryz.f82) [0, 1, 0, 1, 1, 1, 1, 1] fn tm D)) (by kernel_rfl) conj0 rfl rfl ?_
  refine stepK hG (⟨[(11, [], .c (.bx 2 0)), (12, [], .c (.bx 800 0))], [(0, .box ⟨.raw (.loop { (recOf (bodyOf Tryz.f82) [0, 1, 0, 1, 1, 1, 1, 1] fn tm D) with state := .busy }), some l⟩ []), (1, .box ⟨.c 153, some bo⟩ [.d (.i y), .d (.i m), .d (.i d), .bx 1 3, .ar 3 0]), (2, .box ⟨.c 154, some bw⟩ [.fn 124 [(1, 0)] []]), (3, .arr 0 5 1 (dE y m d 4)), (800, .box 159 [.d (.s (S [68, 68])), .d (.b true)])]⟩) (by kernel_rfl) ?_
  refine stepY hG hmix [(8, 2, .callG (.tup []) [1, 3] [(0, .box ⟨.c 153, some bo⟩ [.d (.i y), .d (.i m), .d (.i d), .bx 0 3, .ar 1 0]), (1, .arr 0 5 1 (dE y m d 5))])] [] 0 .normal [(0, .box ⟨.raw (endL { (recOf (bodyOf Tryz.f82) [0, 1, 0, 1, 1, 1, 1, 1] fn tm D) with state := .busy } .normal), some l⟩ []), (3, .arr 0 5 1 (dE y m d 5)), (1, .box ⟨.c 153, some bo⟩ [.d (.i y), .d (.i m), .d (.i d), .bx 1 3, .ar 3 0]), (2, .box ⟨.c 154, some bw⟩ [.fn 124 [(1, 0)] []])] (by kernel_rfl) (conj1 ((put4 bo y m d hy : SpG g _ _ _ _ _))) ?_ ?_
  · rfl
  · funext i; simp only [lookO_cons, upd]; (repeat' split) <;> first | rfl | (exfalso; omega)
noncomputable def itO (b0 bo bw D l : Nat) (y m d : Int) (fn : FuncId) (tm : Array Value) : Nat → OwnL
  | 0 => [(0, .box ⟨.c 9, some b0⟩ [.d (.s (S [89, 89, 89, 89, 45, 77, 77, 45, 68, 68]))]), (1, .box ⟨.raw (.loop (recOf (bodyOf Tryz.f82) [0, 1, 0, 1, 1, 1, 1, 1] fn tm D)), some l⟩ []), (2, .box ⟨.c 153, some bo⟩ [.d (.i y), .d (.i m), .d (.i d), .d (.v (.pointer none)), .d (.nil)]), (3, .box ⟨.c 154, some bw⟩ [.fn 124 [(2, 0)] []])]
  | 1 => [(0, .box ⟨.c 9, some b0⟩ [.d (.s (S [45, 77, 77, 45, 68, 68]))]), (1, .box ⟨.raw (.loop (recOf (bodyOf Tryz.f82) [0, 1, 0, 1, 1, 1, 1, 1] fn tm D)), some l⟩ []), (2, .box ⟨.c 153, some bo⟩ [.d (.i y), .d (.i m), .d (.i d), .bx 2 3, .ar 302 0]), (3, .box ⟨.c 154, some bw⟩ [.fn 124 [(2, 0)] []]), (302, .arr 0 5 1 (dE y m d 1))]
  | 2 => [(0, .box ⟨.c 9, some b0⟩ [.d (.s (S [77, 77, 45, 68, 68]))]), (1, .box ⟨.raw (.loop (recOf (bodyOf Tryz.f82) [0, 1, 0, 1, 1, 1, 1, 1] fn tm D)), some l⟩ []), (2, .box ⟨.c 153, some bo⟩ [.d (.i y), .d (.i m), .d (.i d), .bx 2 3, .ar 302 0]), (3, .box ⟨.c 154, some bw⟩ [.fn 124 [(2, 0)] []]), (302, .arr 0 5 1 (dE y m d 2))]
  | 3 => [(0, .box ⟨.c 9, some b0⟩ [.d (.s (S [45, 68, 68]))]), (1, .box ⟨.raw (.loop (recOf (bodyOf Tryz.f82) [0, 1, 0, 1, 1, 1, 1, 1] fn tm D)), some l⟩ []), (2, .box ⟨.c 153, some bo⟩ [.d (.i y), .d (.i m), .d (.i d), .bx 2 3, .ar 302 0]), (3, .box ⟨.c 154, some bw⟩ [.fn 124 [(2, 0)] []]), (302, .arr 0 5 1 (dE y m d 3))]
  | 4 => [(0, .box ⟨.c 9, some b0⟩ [.d (.s (S [68, 68]))]), (1, .box ⟨.raw (.loop (recOf (bodyOf Tryz.f82) [0, 1, 0, 1, 1, 1, 1, 1] fn tm D)), some l⟩ []), (2, .box ⟨.c 153, some bo⟩ [.d (.i y), .d (.i m), .d (.i d), .bx 2 3, .ar 302 0]), (3, .box ⟨.c 154, some bw⟩ [.fn 124 [(2, 0)] []]), (302, .arr 0 5 1 (dE y m d 4))]
  | _ => [(0, .box ⟨.c 9, some b0⟩ [.d (.s (S []))]), (1, .box ⟨.raw (.loop (recOf (bodyOf Tryz.f82) [0, 1, 0, 1, 1, 1, 1, 1] fn tm D)), some l⟩ []), (2, .box ⟨.c 153, some bo⟩ [.d (.i y), .d (.i m), .d (.i d), .bx 2 3, .ar 302 0]), (3, .box ⟨.c 154, some bw⟩ [.fn 124 [(2, 0)] []]), (302, .arr 0 5 1 (dE y m d 5))]
theorem format_it_ (b0 : Nat) (bo bw D l : Nat) (y m d : Int) (hy : YMD y m d) (fn : FuncId) (tm : Array Value) (h11 : tm.getD 11 undef = .pointer (some ⟨bw, 0, none⟩)) (hn : tm.size = 44) :
    SpG g 172 [.c (.d (.v (.func (.yield l) #[] #[]))), .c (.bx 0 0)] [(0, .box ⟨.c 9, some b0⟩ [.d (.s (S [89, 89, 89, 89, 45, 77, 77, 45, 68, 68]))]), (1, .box ⟨.raw (.loop (recOf (bodyOf Tryz.f82) [0, 1, 0, 1, 1, 1, 1, 1] fn tm D)), some l⟩ []), (2, .box ⟨.c 153, some bo⟩ [.d (.i y), .d (.i m), .d (.i d), .d (.v (.pointer none)), .d (.nil)]), (3, .box ⟨.c 154, some bw⟩ [.fn 124 [(2, 0)] []])] (.tup []) [(0, .box ⟨.c 9, some b0⟩ [.d (.s (S []))]), (1, .box ⟨.raw (.loop (recOf (bodyOf Tryz.f82) [0, 1, 0, 1, 1, 1, 1, 1] fn tm D)), some l⟩ []), (2, .box ⟨.c 153, some bo⟩ [.d (.i y), .d (.i m), .d (.i d), .bx 2 3, .ar 100 0]), (3, .box ⟨.c 154, some bw⟩ [.fn 124 [(2, 0)] []]), (100, .arr 0 5 1 (dE y m d 5))] := by
  refine enterB 17 Tryz.func172 (by kernel_rfl) fun fr hG => ?_
  refine stepL hG hmix [] [0] ((fun (zz : Nat) => match zz with | k => ⟨[(0, [], .c (.d (.v (.func (.yield l) #[] #[])))), (1, [], .c (.bx 0 0))], itO b0 bo bw D l y m d fn tm k⟩) 0) _ (by kernel_rfl) conj0 ?_
  refine loopR (σ := Nat) (fun (zz : Nat) => match zz with | k => 6 - k) (fun (zz : Nat) => match zz with | k => ⟨[(0, [], .c (.d (.v (.func (.yield l) #[] #[])))), (1, [], .c (.bx 0 0))], itO b0 bo bw D l y m d fn tm k⟩) (fun (zz : Nat) => match zz with | k => k ≤ 5) 0 (by kernel_rfl) ?_ ?_
  · exact Nat.zero_le _
  rintro k hI
  rcases (by omega : k = 0 ∨ k = 1 ∨ k = 2 ∨ k = 3 ∨ k = 4 ∨ k = 5) with rfl | rfl | rfl | rfl | rfl | rfl
  · skip
    refine stepC hG hmix [] [1, 0] (true) (⟨[(0, [], .c (.d (.v (.func (.yield l) #[] #[])))), (1, [], .c (.bx 0 0))], [(0, .box ⟨.c 9, some b0⟩ [.d (.s (S [89, 89, 89, 89, 45, 77, 77, 45, 68, 68]))]), (1, .box ⟨.raw (.loop (recOf (bodyOf Tryz.f82) [0, 1, 0, 1, 1, 1, 1, 1] fn tm D)), some l⟩ []), (2, .box ⟨.c 153, some bo⟩ [.d (.i y), .d (.i m), .d (.i d), .d (.v (.pointer none)), .d (.nil)]), (3, .box ⟨.c 154, some bw⟩ [.fn 124 [(2, 0)] []])]⟩) _ (by kernel_rfl) conj0 (fun _ => ?_) (fun hc2 => absurd hc2 (by decide))
    refine stepC hG hmix [(1, 1, .call (.agg [.d (.s (S [89, 89, 89, 89])), .d (.b true)]) [] []), (2, 2, .callG (.c (.d (.b true))) [1, 2, 3] [(0, .box ⟨.raw (.loop (recOf (bodyOf Tryz.f82) [0, 1, 0, 1, 1, 1, 1, 1] fn tm D)), some l⟩ []), (1, .box ⟨.c 153, some bo⟩ [.d (.i y), .d (.i m), .d (.i d), .bx 1 3, .ar 100 0]), (2, .box ⟨.c 154, some bw⟩ [.fn 124 [(1, 0)] []]), (100, .arr 0 5 1 (dE y m d 1))])] [1, 0, 1, 0, 1] (false) (⟨[(0, [], .c (.d (.v (.func (.yield l) #[] #[])))), (1, [], .c (.bx 0 0)), (3, [], .c (.bx 202 0))], [(0, .box ⟨.c 9, some b0⟩ [.d (.s (S [89, 89, 89, 89, 45, 77, 77, 45, 68, 68]))]), (1, .box ⟨.raw (.loop (recOf (bodyOf Tryz.f82) [0, 1, 0, 1, 1, 1, 1, 1] fn tm D)), some l⟩ []), (2, .box ⟨.c 153, some bo⟩ [.d (.i y), .d (.i m), .d (.i d), .bx 2 3, .ar 302 0]), (3, .box ⟨.c 154, some bw⟩ [.fn 124 [(2, 0)] []]), (202, .box 159 [.d (.s (S [89, 89, 89, 89])), .d (.b true)]), (302, .arr 0 5 1 (dE y m d 1))]⟩) _ (by kernel_rfl) (conjC ((first0 : SpG g _ _ _ _ _)) (conj1 ((formatY0 bo bw D l y m d hy fn tm h11 hn : YSpec Tryz.prog (Gl g) _ _ _ _ _)))) (fun hc3 => absurd hc3 (by decide)) (fun _ => ?_)
    refine roundE hG hmix [] 1 _ (by kernel_rfl) (conj1 (show (0 : Int) ≤ 4 ∧ (4 : Int) ≤ ((S [89, 89, 89, 89, 45, 77, 77, 45, 68, 68]).size : Int) ∧ ((S [89, 89, 89, 89, 45, 77, 77, 45, 68, 68]).size : Int) ≤ ((S [89, 89, 89, 89, 45, 77, 77, 45, 68, 68]).size : Int) from (by decide))) ?_ ?_
    · decide
    · decide
  · skip
    refine stepC hG hmix [] [1, 0] (true) (⟨[(0, [], .c (.d (.v (.func (.yield l) #[] #[])))), (1, [], .c (.bx 0 0))], [(0, .box ⟨.c 9, some b0⟩ [.d (.s (S [45, 77, 77, 45, 68, 68]))]), (1, .box ⟨.raw (.loop (recOf (bodyOf Tryz.f82) [0, 1, 0, 1, 1, 1, 1, 1] fn tm D)), some l⟩ []), (2, .box ⟨.c 153, some bo⟩ [.d (.i y), .d (.i m), .d (.i d), .bx 2 3, .ar 302 0]), (3, .box ⟨.c 154, some bw⟩ [.fn 124 [(2, 0)] []]), (302, .arr 0 5 1 (dE y m d 1))]⟩) _ (by kernel_rfl) conj0 (fun _ => ?_) (fun hc4 => absurd hc4 (by decide))
    refine stepC hG hmix [(1, 1, .call (.agg [.d (.s (S [45])), .d (.b false)]) [] []), (2, 2, .callG (.c (.d (.b true))) [1, 2, 3, 302] [(0, .box ⟨.raw (.loop (recOf (bodyOf Tryz.f82) [0, 1, 0, 1, 1, 1, 1, 1] fn tm D)), some l⟩ []), (1, .box ⟨.c 153, some bo⟩ [.d (.i y), .d (.i m), .d (.i d), .bx 1 3, .ar 3 0]), (2, .box ⟨.c 154, some bw⟩ [.fn 124 [(1, 0)] []]), (3, .arr 0 5 1 (dE y m d 2))])] [1, 0, 1, 0, 1] (false) (⟨[(0, [], .c (.d (.v (.func (.yield l) #[] #[])))), (1, [], .c (.bx 0 0)), (3, [], .c (.bx 202 0))], [(0, .box ⟨.c 9, some b0⟩ [.d (.s (S [45, 77, 77, 45, 68, 68]))]), (1, .box ⟨.raw (.loop (recOf (bodyOf Tryz.f82) [0, 1, 0, 1, 1, 1, 1, 1] fn tm D)), some l⟩ []), (2, .box ⟨.c 153, some bo⟩ [.d (.i y), .d (.i m), .d (.i d), .bx 2 3, .ar 302 0]), (3, .box ⟨.c 154, some bw⟩ [.fn 124 [(2, 0)] []]), (202, .box 159 [.d (.s (S [45])), .d (.b false)]), (302, .arr 0 5 1 (dE y m d 2))]⟩) _ (by kernel_rfl) (conjC ((first1 : SpG g _ _ _ _ _)) (conj1 ((formatY1 bo bw D l y m d hy fn tm h11 hn : YSpec Tryz.prog (Gl g) _ _ _ _ _)))) (fun hc5 => absurd hc5 (by decide)) (fun _ => ?_)
    refine roundE hG hmix [] 2 _ (by kernel_rfl) (conj1 (show (0 : Int) ≤ 1 ∧ (1 : Int) ≤ ((S [45, 77, 77, 45, 68, 68]).size : Int) ∧ ((S [45, 77, 77, 45, 68, 68]).size : Int) ≤ ((S [45, 77, 77, 45, 68, 68]).size : Int) from (by decide))) ?_ ?_
    · decide
    · decide
  · skip
    refine stepC hG hmix [] [1, 0] (true) (⟨[(0, [], .c (.d (.v (.func (.yield l) #[] #[])))), (1, [], .c (.bx 0 0))], [(0, .box ⟨.c 9, some b0⟩ [.d (.s (S [77, 77, 45, 68, 68]))]), (1, .box ⟨.raw (.loop (recOf (bodyOf Tryz.f82) [0, 1, 0, 1, 1, 1, 1, 1] fn tm D)), some l⟩ []), (2, .box ⟨.c 153, some bo⟩ [.d (.i y), .d (.i m), .d (.i d), .bx 2 3, .ar 302 0]), (3, .box ⟨.c 154, some bw⟩ [.fn 124 [(2, 0)] []]), (302, .arr 0 5 1 (dE y m d 2))]⟩) _ (by kernel_rfl) conj0 (fun _ => ?_) (fun hc6 => absurd hc6 (by decide))
    refine stepC hG hmix [(1, 1, .call (.agg [.d (.s (S [77, 77])), .d (.b true)]) [] []), (2, 2, .callG (.c (.d (.b true))) [1, 2, 3, 302] [(0, .box ⟨.raw (.loop (recOf (bodyOf Tryz.f82) [0, 1, 0, 1, 1, 1, 1, 1] fn tm D)), some l⟩ []), (1, .box ⟨.c 153, some bo⟩ [.d (.i y), .d (.i m), .d (.i d), .bx 1 3, .ar 3 0]), (2, .box ⟨.c 154, some bw⟩ [.fn 124 [(1, 0)] []]), (3, .arr 0 5 1 (dE y m d 3))])] [1, 0, 1, 0, 1] (false) (⟨[(0, [], .c (.d (.v (.func (.yield l) #[] #[])))), (1, [], .c (.bx 0 0)), (3, [], .c (.bx 202 0))], [(0, .box ⟨.c 9, some b0⟩ [.d (.s (S [77, 77, 45, 68, 68]))]), (1, .box ⟨.raw (.loop (recOf (bodyOf Tryz.f82) [0, 1, 0, 1, 1, 1, 1, 1] fn tm D)), some l⟩ []), (2, .box ⟨.c 153, some bo⟩ [.d (.i y), .d (.i m), .d (.i d), .bx 2 3, .ar 302 0]), (3, .box ⟨.c 154, some bw⟩ [.fn 124 [(2, 0)] []]), (202, .box 159 [.d (.s (S [77, 77])), .d (.b true)]), (302, .arr 0 5 1 (dE y m d 3))]⟩) _ (by kernel_rfl) (conjC ((first2 : SpG g _ _ _ _ _)) (conj1 ((formatY2 bo bw D l y m d hy fn tm h11 hn : YSpec Tryz.prog (Gl g) _ _ _ _ _)))) (fun hc7 => absurd hc7 (by decide)) (fun _ => ?_)
    refine roundE hG hmix [] 3 _ (by kernel_rfl) (conj1 (show (0 : Int) ≤ 2 ∧ (2 : Int) ≤ ((S [77, 77, 45, 68, 68]).size : Int) ∧ ((S [77, 77, 45, 68, 68]).size : Int) ≤ ((S [77, 77, 45, 68, 68]).size : Int) from (by decide))) ?_ ?_
    · decide
    · decide
  · skip
    refine stepC hG hmix [] [1, 0] (true) (⟨[(0, [], .c (.d (.v (.func (.yield l) #[] #[])))), (1, [], .c (.bx 0 0))], [(0, .box ⟨.c 9, some b0⟩ [.d (.s (S [45, 68, 68]))]), (1, .box ⟨.raw (.loop (recOf (bodyOf Tryz.f82) [0, 1, 0, 1, 1, 1, 1, 1] fn tm D)), some l⟩ []), (2, .box ⟨.c 153, some bo⟩ [.d (.i y), .d (.i m), .d (.i d), .bx 2 3, .ar 302 0]), (3, .box ⟨.c 154, some bw⟩ [.fn 124 [(2, 0)] []]), (302, .arr 0 5 1 (dE y m d 3))]⟩) _ (by kernel_rfl) conj0 (fun _ => ?_) (fun hc8 => absurd hc8 (by decide))
    refine stepC hG hmix [(1, 1, .call (.agg [.d (.s (S [45])), .d (.b false)]) [] []), (2, 2, .callG (.c (.d (.b true))) [1, 2, 3, 302] [(0, .box ⟨.raw (.loop (recOf (bodyOf Tryz.f82) [0, 1, 0, 1, 1, 1, 1, 1] fn tm D)), some l⟩ []), (1, .box ⟨.c 153, some bo⟩ [.d (.i y), .d (.i m), .d (.i d), .bx 1 3, .ar 3 0]), (2, .box ⟨.c 154, some bw⟩ [.fn 124 [(1, 0)] []]), (3, .arr 0 5 1 (dE y m d 4))])] [1, 0, 1, 0, 1] (false) (⟨[(0, [], .c (.d (.v (.func (.yield l) #[] #[])))), (1, [], .c (.bx 0 0)), (3, [], .c (.bx 202 0))], [(0, .box ⟨.c 9, some b0⟩ [.d (.s (S [45, 68, 68]))]), (1, .box ⟨.raw (.loop (recOf (bodyOf Tryz.f82) [0, 1, 0, 1, 1, 1, 1, 1] fn tm D)), some l⟩ []), (2, .box ⟨.c 153, some bo⟩ [.d (.i y), .d (.i m), .d (.i d), .bx 2 3, .ar 302 0]), (3, .box ⟨.c 154, some bw⟩ [.fn 124 [(2, 0)] []]), (202, .box 159 [.d (.s (S [45])), .d (.b false)]), (302, .arr 0 5 1 (dE y m d 4))]⟩) _ (by kernel_rfl) (conjC ((first3 : SpG g _ _ _ _ _)) (conj1 ((formatY3 bo bw D l y m d hy fn tm h11 hn : YSpec Tryz.prog (Gl g) _ _ _ _ _)))) (fun hc9 => absurd hc9 (by decide)) (fun _ => ?_)
    refine roundE hG hmix [] 4 _ (by kernel_rfl) (conj1 (show (0 : Int) ≤ 1 ∧ (1 : Int) ≤ ((S [45, 68, 68]).size : Int) ∧ ((S [45, 68, 68]).size : Int) ≤ ((S [45, 68, 68]).size : Int) from (by decide))) ?_ ?_
    · decide
    · decide
  · skip
    refine stepC hG hmix [] [1, 0] (true) (⟨[(0, [], .c (.d (.v (.func (.yield l) #[] #[])))), (1, [], .c (.bx 0 0))], [(0, .box ⟨.c 9, some b0⟩ [.d (.s (S [68, 68]))]), (1, .box ⟨.raw (.loop (recOf (bodyOf Tryz.f82) [0, 1, 0, 1, 1, 1, 1, 1] fn tm D)), some l⟩ []), (2, .box ⟨.c 153, some bo⟩ [.d (.i y), .d (.i m), .d (.i d), .bx 2 3, .ar 302 0]), (3, .box ⟨.c 154, some bw⟩ [.fn 124 [(2, 0)] []]), (302, .arr 0 5 1 (dE y m d 4))]⟩) _ (by kernel_rfl) conj0 (fun _ => ?_) (fun hc10 => absurd hc10 (by decide))
    refine stepC hG hmix [(1, 1, .call (.agg [.d (.s (S [68, 68])), .d (.b true)]) [] []), (2, 2, .callG (.c (.d (.b true))) [1, 2, 3, 302] [(0, .box ⟨.raw (.loop (recOf (bodyOf Tryz.f82) [0, 1, 0, 1, 1, 1, 1, 1] fn tm D)), some l⟩ []), (1, .box ⟨.c 153, some bo⟩ [.d (.i y), .d (.i m), .d (.i d), .bx 1 3, .ar 3 0]), (2, .box ⟨.c 154, some bw⟩ [.fn 124 [(1, 0)] []]), (3, .arr 0 5 1 (dE y m d 5))])] [1, 0, 1, 0, 1] (false) (⟨[(0, [], .c (.d (.v (.func (.yield l) #[] #[])))), (1, [], .c (.bx 0 0)), (3, [], .c (.bx 202 0))], [(0, .box ⟨.c 9, some b0⟩ [.d (.s (S [68, 68]))]), (1, .box ⟨.raw (.loop (recOf (bodyOf Tryz.f82) [0, 1, 0, 1, 1, 1, 1, 1] fn tm D)), some l⟩ []), (2, .box ⟨.c 153, some bo⟩ [.d (.i y), .d (.i m), .d (.i d), .bx 2 3, .ar 302 0]), (3, .box ⟨.c 154, some bw⟩ [.fn 124 [(2, 0)] []]), (202, .box 159 [.d (.s (S [68, 68])), .d (.b true)]), (302, .arr 0 5 1 (dE y m d 5))]⟩) _ (by kernel_rfl) (conjC ((first4 : SpG g _ _ _ _ _)) (conj1 ((formatY4 bo bw D l y m d hy fn tm h11 hn : YSpec Tryz.prog (Gl g) _ _ _ _ _)))) (fun hc11 => absurd hc11 (by decide)) (fun _ => ?_)
    refine roundE hG hmix [] 5 _ (by kernel_rfl) (conj1 (show (0 : Int) ≤ 2 ∧ (2 : Int) ≤ ((S [68, 68]).size : Int) ∧ ((S [68, 68]).size : Int) ≤ ((S [68, 68]).size : Int) from (by decide))) ?_ ?_
    · decide
    · decide
  · skip
    refine stepC hG hmix [] [1, 0] (false) (⟨[(0, [], .c (.d (.v (.func (.yield l) #[] #[])))), (1, [], .c (.bx 0 0))], [(0, .box ⟨.c 9, some b0⟩ [.d (.s (S []))]), (1, .box ⟨.raw (.loop (recOf (bodyOf Tryz.f82) [0, 1, 0, 1, 1, 1, 1, 1] fn tm D)), some l⟩ []), (2, .box ⟨.c 153, some bo⟩ [.d (.i y), .d (.i m), .d (.i d), .bx 2 3, .ar 302 0]), (3, .box ⟨.c 154, some bw⟩ [.fn 124 [(2, 0)] []]), (302, .arr 0 5 1 (dE y m d 5))]⟩) _ (by kernel_rfl) conj0 (fun hc12 => absurd hc12 (by decide)) (fun _ => ?_)
    refine leaveE hG hmix [] (.exit 0) (⟨[], [(0, .box ⟨.c 9, some b0⟩ [.d (.s (S []))]), (1, .box ⟨.raw (.loop (recOf (bodyOf Tryz.f82) [0, 1, 0, 1, 1, 1, 1, 1] fn tm D)), some l⟩ []), (2, .box ⟨.c 153, some bo⟩ [.d (.i y), .d (.i m), .d (.i d), .bx 2 3, .ar 302 0]), (3, .box ⟨.c 154, some bw⟩ [.fn 124 [(2, 0)] []]), (302, .arr 0 5 1 (dE y m d 5))]⟩) _ (by kernel_rfl) conj0 rfl ?_
    refine stepR' hG hmix [] [302] (.tup []) [(0, .box ⟨.c 9, some b0⟩ [.d (.s (S []))]), (1, .box ⟨.raw (.loop (recOf (bodyOf Tryz.f82) [0, 1, 0, 1, 1, 1, 1, 1] fn tm D)), some l⟩ []), (2, .box ⟨.c 153, some bo⟩ [.d (.i y), .d (.i m), .d (.i d), .bx 2 3, .ar 100 0]), (3, .box ⟨.c 154, some bw⟩ [.fn 124 [(2, 0)] []]), (100, .arr 0 5 1 (dE y m d 5))] (by kernel_rfl) conj0 ?_ ?_
    · rfl
    · rfl
theorem format_it (b0 : Nat) (bo bw D l : Nat) (y m d : Int) (hy : YMD y m d) (fn : FuncId) (tm : Array Value) (h11 : tm.getD 11 undef = .pointer (some ⟨bw, 0, none⟩)) (hn : tm.size = 44) :
    SpG g 172 [.c (.d (.v (.func (.yield l) #[] #[]))), .c (.bx 0 0)] [(0, .box ⟨.c 9, some b0⟩ [.d (.s (S [89, 89, 89, 89, 45, 77, 77, 45, 68, 68]))]), (1, .box ⟨.raw (.loop (recOf (bodyOf Tryz.f82) [0, 1, 0, 1, 1, 1, 1, 1] fn tm D)), some l⟩ []), (2, .box ⟨.c 153, some bo⟩ [.d (.i y), .d (.i m), .d (.i d), .d (.v (.pointer none)), .d (.nil)]), (3, .box ⟨.c 154, some bw⟩ [.fn 124 [(2, 0)] []])] (.tup []) [(0, .box ⟨.c 9, some b0⟩ [.d (.s (S []))]), (1, .box ⟨.raw (.loop (recOf (bodyOf Tryz.f82) [0, 1, 0, 1, 1, 1, 1, 1] fn tm D)), some l⟩ []), (2, .box ⟨.c 153, some bo⟩ [.d (.i y), .d (.i m), .d (.i d), .bx 2 3, .ar 100 0]), (3, .box ⟨.c 154, some bw⟩ [.fn 124 [(2, 0)] []]), (100, .arr 0 5 1 (dE y m d 5))] := by
  refine spec_look (format_it_ b0 bo bw D l y m d hy fn tm h11 hn) ?_
  first | rfl | (funext i; simp only [lookO_cons, upd]; ((repeat' split) <;> first | rfl | (exfalso; omega)))
theorem civ_ymd {n : Int} (h0 : 0 ≤ n) (h1 : n ≤ 3652058) : YMD (civ n).1 (civ n).2.1 (civ n).2.2 := by
  obtain ⟨a1, a2, a3, a4, a5, a6⟩ := civ_bd h0 h1
  exact ⟨by omega, by omega, by omega, by omega, by omega, by omega⟩
theorem format_ok (n : Int) (h0 : 0 ≤ n) (h1 : n ≤ 3652058) :
    SpG g 82 [.c (.d (.s (S [89, 89, 89, 89, 45, 77, 77, 45, 68, 68]))), .c (.d (.i n))] [] (.tup [(false, [.d (.s (S (dateText n)))]), (false, [.d (.b true)])]) [] := by
  refine enterM 44 Tryz.func82 (by kernel_rfl) fun fr hG => ?_
  refine stepC hG hmix [(1, 1, .call (.tup [(false, [.d (.i ((civ n).1))]), (false, [.d (.i ((civ n).2.1))]), (false, [.d (.i ((civ n).2.2))]), (false, [.d (.b true)])]) [] []), (2, 4, .call (.c (.d (.b true))) [] [])] [1, 0, 1, 1] (false) (⟨[(0, [], .c (.d (.s (S [89, 89, 89, 89, 45, 77, 77, 45, 68, 68])))), (4, [], .c (.d (.s (S [])))), (5, [], .c (.d (.b false))), (6, [], .c (.d (.i ((civ n).1)))), (7, [], .c (.d (.i ((civ n).2.1)))), (8, [], .c (.d (.i ((civ n).2.2))))], []⟩) _ (by kernel_rfl) (conjC ((civil_ok n h0 h1 : SpG g _ _ _ _ _)) (conj1 (fun (hg1 : false = false) => ((dateRight_ok : SpG g _ _ _ _ _))))) (fun hc1 => absurd hc1 (by decide)) (fun _ => ?_)
  refine stepL hG hmix [(6, 1, .call (.c (.fn 172 [] [(100, 0)])) [(100, .box 9 [.d (.s (S [89, 89, 89, 89, 45, 77, 77, 45, 68, 68]))])] [])] [0, 1, 0, 1, 1, 1, 1, 1] (⟨[(4, [], .c (.d (.s (S [])))), (5, [], .c (.d (.b false))), (10, [], .c (.bx 504 0)), (11, [], .c (.bx 602 0)), (35, [], .c (.fn 172 [] [(701, 0)]))], [(504, .box 153 [.d (.i ((civ n).1)), .d (.i ((civ n).2.1)), .d (.i ((civ n).2.2)), .d (.v (.pointer none)), .d (.nil)]), (602, .box 154 [.fn 124 [(504, 0)] []]), (701, .box 9 [.d (.s (S [89, 89, 89, 89, 45, 77, 77, 45, 68, 68]))])]⟩) _ (by kernel_rfl) (conj1 ((tokens_ok (S [89, 89, 89, 89, 45, 77, 77, 45, 68, 68]) : SpG g _ _ _ _ _))) ?_
  refine rangeR (g := 35) (ps := rgP (bodyOf Tryz.f82) [0, 1, 0, 1, 1, 1, 1, 1]) (assign := rgA (bodyOf Tryz.f82) [0, 1, 0, 1, 1, 1, 1, 1]) (body := rgB (bodyOf Tryz.f82) [0, 1, 0, 1, 1, 1, 1, 1]) hG (by kernel_rfl) 9900 9901 9910 (by kernel_rfl) rfl (by kernel_rfl) fun b D l fn tm hT hn => ?_
  refine ⟨.tup [], [701, 9901, 504, 602], [(0, .box ⟨.c 9, some (b 701)⟩ [.d (.s (S []))]), (1, .box ⟨.raw (.loop (recOf (bodyOf Tryz.f82) [0, 1, 0, 1, 1, 1, 1, 1] fn tm D)), some l⟩ []), (2, .box ⟨.c 153, some (b 504)⟩ [.d (.i ((civ n).1)), .d (.i ((civ n).2.1)), .d (.i ((civ n).2.2)), .bx 2 3, .ar 100 0]), (3, .box ⟨.c 154, some (b 602)⟩ [.fn 124 [(2, 0)] []]), (100, .arr 0 5 1 (dE (civ n).1 (civ n).2.1 (civ n).2.2 5))], none, ⟨[(4, [], .c (.d (.s (S [])))), (5, [], .c (.d (.b false))), (10, [], .c (.bx 504 0))], [(504, .box ⟨.c 153, some (b 504)⟩ [.d (.i ((civ n).1)), .d (.i ((civ n).2.1)), .d (.i ((civ n).2.2)), .bx 504 3, .ar 9910 0]), (9900, .box ⟨.raw (.deferred (some [])), some D⟩ []), (9910, .arr 0 5 1 (dE (civ n).1 (civ n).2.1 (civ n).2.2 5))]⟩, _, .normal, by kernel_rfl, conj1 (format_it (b 701) (b 504) (b 602) D l (civ n).1 (civ n).2.1 (civ n).2.2 (civ_ymd h0 h1) fn tm (hT.bx 11 602 0 rfl) hn : SpG g _ _ _ _ _), rfl, ?_⟩
  have hG0 := hG
  replace hG := marked_is (D := D) hG
  refine stepRM hG0 hmix [(9, 3, .callG (.c (.d (.s (S (dateText n))))) [504, 9910] [(0, .box ⟨.c 153, some (b 504)⟩ [.d (.i ((civ n).1)), .d (.i ((civ n).2.1)), .d (.i ((civ n).2.2)), .bx 0 3, .any]), (1, .arr 0 5 1 (([] : List (List V.D))))])] [] 9900 (.tup [(false, [.d (.s (S (dateText n)))]), (false, [.d (.b true)])]) [] (by kernel_rfl) (conj1 ((builderStringO (b 504) (civ n).1 (civ n).2.1 (civ n).2.2 (dE (civ n).1 (civ n).2.1 (civ n).2.2 5) (S (dateText n)) (by rw [dE_text, dT_date h0 h1]) : SpG g _ _ _ _ _))) ?_ ?_
  · rfl
  · rfl
theorem dateText_ok (n : Int) (h0 : 0 ≤ n) (h1 : n ≤ 3652058) :
    SpG g 47 [.c (.d (.i n))] [] (.c (.d (.s (S (dateText n))))) [] := by
  refine enterB 11 Tryz.func47 (by kernel_rfl) fun fr hG => ?_
  refine stepR' hG hmix [(1, 1, .call (.tup [(false, [.d (.s (S (dateText n)))]), (false, [.d (.b true)])]) [] [])] [] (.c (.d (.s (S (dateText n))))) [] (by kernel_rfl) (conj1 ((format_ok n h0 h1 : SpG g _ _ _ _ _))) ?_ ?_
  · rfl
  · rfl
end Go.Proofs.YtmpgfchkkemngaaGreatDoor
namespace Go.Proofs.YtmpgfchkkemngaaGreatDoor
open Go.RowKit Go.V
open Go.Eng (inR byteAt u8 bytesV)
variable {g : Gv}
theorem natT_low {a : Nat} (h : a < 10) : natT a = [u8 (48 + (a : Int))] := by
  unfold natT
  by_cases h0 : a = 0
  · subst h0; rfl
  · rw [if_neg h0, natD_pos h0, show a / 10 = 0 by omega, natD_zero, show a % 10 = a by omega]; rfl
theorem natT_high {a : Nat} (h : 10 ≤ a) : natT a = natT (a / 10) ++ [u8 (48 + ((a % 10 : Nat) : Int))] := by
  unfold natT
  rw [if_neg (by omega), if_neg (by omega), natD_pos (by omega)]
def lowD : Nat → Nat → List UInt8
  | 0, _ => []
  | s + 1, a => lowD s (a / 10) ++ [u8 (48 + ((a % 10 : Nat) : Int))]
theorem lowD_len : ∀ s a, (lowD s a).length = s
  | 0, _ => rfl
  | s + 1, a => by simp [lowD, lowD_len s]
theorem natT_one : ∀ s a, natT (10 ^ s + a % 10 ^ s) = 49 :: lowD s a
  | 0, a => by rw [Nat.pow_zero, Nat.mod_one, natT_low (by decide)]; rfl
  | s + 1, a => by
    have hp : 10 ^ (s + 1) = 10 * 10 ^ s := by rw [Nat.pow_succ, Nat.mul_comm]
    have h1 : 1 ≤ 10 ^ s := Nat.one_le_pow _ _ (by decide)
    rw [natT_high (by omega)]
    have e1 : (10 ^ (s + 1) + a % 10 ^ (s + 1)) / 10 = 10 ^ s + (a / 10) % 10 ^ s := by
      rw [hp, Nat.mod_mul, Nat.add_comm (a % 10), ← Nat.add_assoc, ← Nat.mul_add, Nat.add_comm, Nat.add_mul_div_left _ _ (by decide)]
      omega
    have e2 : (10 ^ (s + 1) + a % 10 ^ (s + 1)) % 10 = a % 10 := by
      rw [hp, Nat.mul_add_mod, Nat.mod_mul_right_mod]
    rw [e1, e2, natT_one s (a / 10)]
    rfl
def padN (a s : Nat) : List UInt8 := List.replicate (s + 1 - (natT a).length) 48 ++ natT a
theorem padN_eq : ∀ s a, padN a s = natT (a / 10 ^ s) ++ lowD s a
  | 0, a => by
    have := natT_pos a
    rw [padN, show 0 + 1 - (natT a).length = 0 by omega]
    simp [lowD]
  | s + 1, a => by
    have ih := padN_eq s (a / 10)
    rw [Nat.pow_succ, Nat.mul_comm (10 ^ s), ← Nat.div_div_eq_div_mul, lowD, ← List.append_assoc, ← ih, padN, padN]
    by_cases h : a < 10
    · rw [show a / 10 = 0 by omega, natT_low h, natT_low (a := 0) (by decide), show a % 10 = a by omega]
      simp only [List.length_cons, List.length_nil, Nat.add_sub_cancel]
      rw [List.replicate_succ']
      rfl
    · rw [natT_high (a := a) (by omega)]
      simp only [List.length_append, List.length_cons, List.length_nil]
      rw [show s + 1 + 1 - ((natT (a / 10)).length + (0 + 1)) = s + 1 - (natT (a / 10)).length by omega]
      simp
theorem padN_take (a s : Nat) : (padN a s).take ((padN a s).length - s) = natT (a / 10 ^ s) := by
  rw [padN_eq, List.length_append, lowD_len, Nat.add_sub_cancel, List.take_left']
  rfl
theorem padN_drop (a s : Nat) : (padN a s).drop ((padN a s).length - s) = (natT (10 ^ s + a % 10 ^ s)).drop 1 := by
  rw [padN_eq, List.length_append, lowD_len, Nat.add_sub_cancel, List.drop_left', natT_one]
  · rfl
  · rfl
theorem padN_len (a s : Nat) : s + 1 ≤ (padN a s).length ∧ (padN a s).length ≤ s + 1 + (natT a).length := by
  simp only [padN, List.length_append, List.length_replicate]; omega
theorem decT_pad (n s : Int) : decT n s = (if n < 0 then [45] else []) ++ (if s > 0 then (padN n.natAbs s.toNat).take ((padN n.natAbs s.toNat).length - s.toNat) ++ [46] ++ (padN n.natAbs s.toNat).drop ((padN n.natAbs s.toNat).length - s.toNat) else padN n.natAbs s.toNat) := by
  unfold decT
  rw [padN_take, padN_drop]
  by_cases h : s > 0
  · rw [if_pos h, if_pos h]; simp
  · rw [if_neg h, if_neg h, show s.toNat = 0 by omega, padN_eq]; simp [lowD]
theorem S_sub (l : List UInt8) (i j : Nat) : (S l).extract i j = S ((l.take j).drop i) := by
  have : ((S l).extract i j).data = (S ((l.take j).drop i)).data := by simp [S, ByteArray.data_extract, List.drop_take]
  cases h1 : (S l).extract i j; cases h2 : S ((l.take j).drop i); rw [h1, h2] at this; simpa using this
theorem formatUint_ok (u : Nat) (h : u < 18446744073709551616) : SpG g 80 [.c (.d (.v (.int .u64 (u : Int)))), .c (.d (.i 10))] [] (.c (.d (.s (S (natT u))))) [] := by
  refine spec_of (args := [.int .u64 u, .int .i64 10]) rfl rfl rfl fun w hG => ?_
  refine (formatUint_any u h w (tab_of hG)).mono ?_
  rintro e w' ⟨rfl, k, os, rfl⟩
  exact ⟨by rw [natT_dec]; rfl, below_grow _ _ _⟩
theorem dec_mid {n s : Int} {t : ByteArray} (hP : t = S (padN n.natAbs s.toNat)) (hs : s > 0) : ((t.extract 0 ((t.size : Int) - s : Int).toNat ++ S [46]) ++ t.extract ((t.size : Int) - s : Int).toNat t.size) = S ((padN n.natAbs s.toNat).take ((padN n.natAbs s.toNat).length - s.toNat) ++ [46] ++ (padN n.natAbs s.toNat).drop ((padN n.natAbs s.toNat).length - s.toNat)) := by
  subst hP
  have e : (((S (padN n.natAbs s.toNat)).size : Int) - s : Int).toNat = (padN n.natAbs s.toNat).length - s.toNat := by rw [S_size]; omega
  rw [e, S_size, S_sub, S_sub, S_app, S_app, List.drop_zero, List.take_of_length_le (Nat.le_refl _)]
theorem dec_leaf1 {n s : Int} {t : ByteArray} (hP : t = S (padN n.natAbs s.toNat)) (hs : s > 0) (hn : n < 0) : S [45] ++ ((t.extract 0 ((t.size : Int) - s : Int).toNat ++ S [46]) ++ t.extract ((t.size : Int) - s : Int).toNat t.size) = S (decT n s) := by
  rw [dec_mid hP hs, S_app, decT_pad, if_pos hn, if_pos hs]
theorem dec_leaf2 {n s : Int} {t : ByteArray} (hP : t = S (padN n.natAbs s.toNat)) (hs : s > 0) (hn : ¬ n < 0) : ((t.extract 0 ((t.size : Int) - s : Int).toNat ++ S [46]) ++ t.extract ((t.size : Int) - s : Int).toNat t.size) = S (decT n s) := by
  rw [dec_mid hP hs, decT_pad, if_neg hn, if_pos hs]; rfl
theorem dec_leaf3 {n s : Int} {t : ByteArray} (hP : t = S (padN n.natAbs s.toNat)) (hs : ¬ s > 0) (hn : n < 0) : S [45] ++ t = S (decT n s) := by
  rw [hP, S_app, decT_pad, if_pos hn, if_neg hs]
theorem dec_leaf4 {n s : Int} {t : ByteArray} (hP : t = S (padN n.natAbs s.toNat)) (hs : ¬ s > 0) (hn : ¬ n < 0) : t = S (decT n s) := by
  rw [hP, decT_pad, if_neg hn, if_neg hs]; rfl
theorem decValue_ok (n s : Int) (h : decB n s = true) :
    SpG g 79 [.agg [.d (.i n), .d (.i s)]] [] (.agg [.d (.i n), .d (.i s)]) [] := by
  refine enterB 7 Tryz.func79 (by kernel_rfl) fun fr hG => ?_
  refine stepC hG hmix [(1, 1, .call (.c (.d (.b (decB n s)))) [] [])] [1, 0, 1] (decB n s) (⟨[(1, [], .c (.bx 100 0)), (2, [], .c (.bx 101 0))], [(100, .box 26 [.d (.i n), .d (.i s)]), (101, .box 26 [.d (.i 0), .d (.i 0)])]⟩) _ (by kernel_rfl) (conj1 ((decRight_ok n s : SpG g _ _ _ _ _))) (fun hc1 => ?_) (fun hc1 => ?_)
  · (try simp only [blS] at hc1)
    refine stepR' hG hmix [] [] (.agg [.d (.i n), .d (.i s)]) [] (by kernel_rfl) conj0 ?_ ?_
    · rfl
    · rfl
  · (try simp only [blS] at hc1)
    exact absurd (h.symm.trans hc1) (by decide)
theorem size_neg {n : Int} (h0 : -1000000000000000 ≤ n) (h1 : n < 0) : IntKind.wrap .u64 (IntKind.wrap .i64 (0 - n)) = (n.natAbs : Int) := by
  rw [IntKind.wrap_i64, IntKind.wrap_u64]; omega
theorem size_pos {n : Int} (h0 : n ≤ 1000000000000000) (h1 : ¬ n < 0) : IntKind.wrap .u64 n = (n.natAbs : Int) := by
  rw [IntKind.wrap_u64]; omega
theorem decSize_ok (n : Int) (h0 : -1000000000000000 ≤ n) (h1 : n ≤ 1000000000000000) :
    SpG g 81 [.c (.d (.i n))] [] (.c (.d (.v (.int .u64 (n.natAbs : Int))))) [] := by
  refine enterB 10 Tryz.func81 (by kernel_rfl) fun fr hG => ?_
  refine stepC hG hmix [] [1, 0, 1] (decide ((n : Int) < 0)) (⟨[(0, [], .c (.d (.i n))), (2, [], .c (.d (.v (.int .u64 0))))], []⟩) _ (by kernel_rfl) conj0 (fun hc1 => ?_) (fun hc1 => ?_)
  · (try simp only [blS] at hc1)
    refine stepR' hG hmix [] [] (.c (.d (.v (.int .u64 (IntKind.wrap .u64 (IntKind.wrap .i64 (0 - n))))))) [] (by kernel_rfl) conj0 ?_ ?_
    · rw [size_neg h0 (by omega)]
    · rfl
  · (try simp only [blS] at hc1)
    refine stepR' hG hmix [] [] (.c (.d (.v (.int .u64 (IntKind.wrap .u64 n))))) [] (by kernel_rfl) conj0 ?_ ?_
    · rw [size_pos h1 (by omega)]
    · rfl
theorem decText_ok (n s : Int) (h : decB n s = true) :
    SpG g 46 [.agg [.d (.i n), .d (.i s)]] [] (.c (.d (.s (S (decT n s))))) [] := by
  obtain ⟨b0, b1, b2, b3, b4⟩ := decB_bd h
  have hl16 := natT_len (n := n.natAbs) (k := 16) (by omega) (by decide)
  have hl1 := natT_pos n.natAbs
  have hpl := padN_len n.natAbs s.toNat
  refine enterB 44 Tryz.func46 (by kernel_rfl) fun fr hG => ?_
  refine stepL hG hmix [(1, 1, .call (.agg [.d (.i n), .d (.i s)]) [] []), (2, 2, .call (.c (.d (.v (.int .u64 (n.natAbs : Int))))) [] []), (2, 3, .call (.c (.d (.s (S (natT n.natAbs))))) [] [])] [0, 1, 0, 1, 1, 1] ((fun (zz : Nat × ByteArray) => match zz with | (k, t) => ⟨[(1, [], .c (.bx 100 0)), (2, [], .c (.d (.s (S [])))), (3, [], .c (.d (.s t))), (16, [], .c (.d (.i ((s + 1) - ((S (natT n.natAbs)).size : Int))))), (17, [], .c (.d (.i (k : Int))))], [(100, .box 26 [.d (.i n), .d (.i s)])]⟩) (0, S (natT n.natAbs))) _ (by kernel_rfl) (conjC ((decValue_ok n s h : SpG g _ _ _ _ _)) (conjC ((decSize_ok n (by omega) (by omega) : SpG g _ _ _ _ _)) (conjC ((formatUint_ok n.natAbs (by omega) : SpG g _ _ _ _ _)) (conjC (show inR (s + 1) from (by intros; (try simp only [inR, maxLen, S_size, List.length_append, List.length_cons, List.length_nil, ByteArray.size_append, ByteArray.size_extract] at *); omega)) (conj1 (show inR ((s + 1) - ((S (natT n.natAbs)).size : Int)) from (by intros; (try simp only [inR, maxLen, S_size, List.length_append, List.length_cons, List.length_nil, ByteArray.size_append, ByteArray.size_extract] at *); omega))))))) ?_
  refine loopR (σ := Nat × ByteArray) (fun (zz : Nat × ByteArray) => match zz with | (k, t) => s.toNat + 1 - k) (fun (zz : Nat × ByteArray) => match zz with | (k, t) => ⟨[(1, [], .c (.bx 100 0)), (2, [], .c (.d (.s (S [])))), (3, [], .c (.d (.s t))), (16, [], .c (.d (.i ((s + 1) - ((S (natT n.natAbs)).size : Int))))), (17, [], .c (.d (.i (k : Int))))], [(100, .box 26 [.d (.i n), .d (.i s)])]⟩) (fun (zz : Nat × ByteArray) => match zz with | (k, t) => k ≤ s.toNat + 1 - (natT n.natAbs).length ∧ t = S (List.replicate k 48 ++ natT n.natAbs)) (0, S (natT n.natAbs)) (by kernel_rfl) ?_ ?_
  · exact ⟨Nat.zero_le _, rfl⟩
  rintro ⟨k, t⟩ ⟨hk, ht⟩
  have hlt : t.size = k + (natT n.natAbs).length := by rw [ht, S_size]; simp
  refine stepC hG hmix [] [0, 1] (decide (((k : Int) : Int) < ((s + 1) - ((S (natT n.natAbs)).size : Int)))) (⟨[(1, [], .c (.bx 100 0)), (2, [], .c (.d (.s (S [])))), (3, [], .c (.d (.s t))), (16, [], .c (.d (.i ((s + 1) - ((S (natT n.natAbs)).size : Int))))), (17, [], .c (.d (.i (k : Int))))], [(100, .box 26 [.d (.i n), .d (.i s)])]⟩) _ (by kernel_rfl) conj0 (fun hc2 => ?_) (fun hc2 => ?_)
  · (try simp only [blS, S_size] at hc2)
    refine roundE hG hmix [] (k + 1, S [48] ++ t) _ (by kernel_rfl) (conjC (show (S [48]).size + (t).size ≤ maxLen from (by intros; (try simp only [inR, maxLen, S_size, List.length_append, List.length_cons, List.length_nil, ByteArray.size_append, ByteArray.size_extract] at *); omega)) (conj1 (show inR ((k : Int) + 1) from (by intros; (try simp only [inR, maxLen, S_size, List.length_append, List.length_cons, List.length_nil, ByteArray.size_append, ByteArray.size_extract] at *); omega)))) ?_ ?_
    · (try dsimp only); omega
    · refine ⟨by omega, ?_⟩
      rw [ht, S_app, List.replicate_succ]; rfl
  · (try simp only [blS, S_size] at hc2)
    have hP : t = S (padN n.natAbs s.toNat) := by
      rw [ht, padN, show s.toNat + 1 - (natT n.natAbs).length = k by omega]
    have hps : t.size = (padN n.natAbs s.toNat).length := by rw [hP, S_size]
    clear hlt ht
    refine leaveE hG hmix [] (.exit 0) (⟨[(1, [], .c (.bx 100 0)), (2, [], .c (.d (.s (S [])))), (3, [], .c (.d (.s t)))], [(100, .box 26 [.d (.i n), .d (.i s)])]⟩) _ (by kernel_rfl) conj0 rfl ?_
    refine stepC hG hmix [] [1, 0, 1, 1, 1, 1] (decide ((s : Int) > 0)) (⟨[(1, [], .c (.bx 100 0)), (2, [], .c (.d (.s (S [])))), (3, [], .c (.d (.s t)))], [(100, .box 26 [.d (.i n), .d (.i s)])]⟩) _ (by kernel_rfl) conj0 (fun hc3 => ?_) (fun hc3 => ?_)
    · (try simp only [blS, S_size] at hc3)
      refine stepC hG hmix [] [1, 0, 1, 1, 1, 1, 1] (decide ((n : Int) < 0)) (⟨[(2, [], .c (.d (.s (S [])))), (3, [], .c (.d (.s ((((t).extract 0 (((t).size : Int) - s : Int).toNat) ++ (S [46])) ++ ((t).extract (((t).size : Int) - s : Int).toNat (t).size)))))], []⟩) _ (by kernel_rfl) (conjC (show inR (((t).size : Int) - s) from (by intros; (try simp only [inR, maxLen, S_size, List.length_append, List.length_cons, List.length_nil, ByteArray.size_append, ByteArray.size_extract] at *); omega)) (conjC (show (0 : Int) ≤ 0 ∧ (0 : Int) ≤ (((t).size : Int) - s) ∧ (((t).size : Int) - s) ≤ ((t).size : Int) from (by intros; (try simp only [inR, maxLen, S_size, List.length_append, List.length_cons, List.length_nil, ByteArray.size_append, ByteArray.size_extract] at *); omega)) (conjC (show ((t).extract 0 (((t).size : Int) - s : Int).toNat).size + (S [46]).size ≤ maxLen from (by intros; (try simp only [inR, maxLen, S_size, List.length_append, List.length_cons, List.length_nil, ByteArray.size_append, ByteArray.size_extract] at *); omega)) (conjC (show (0 : Int) ≤ (((t).size : Int) - s) ∧ (((t).size : Int) - s : Int) ≤ ((t).size : Int) ∧ ((t).size : Int) ≤ ((t).size : Int) from (by intros; (try simp only [inR, maxLen, S_size, List.length_append, List.length_cons, List.length_nil, ByteArray.size_append, ByteArray.size_extract] at *); omega)) (conj1 (show (((t).extract 0 (((t).size : Int) - s : Int).toNat) ++ (S [46])).size + ((t).extract (((t).size : Int) - s : Int).toNat (t).size).size ≤ maxLen from (by intros; (try simp only [inR, maxLen, S_size, List.length_append, List.length_cons, List.length_nil, ByteArray.size_append, ByteArray.size_extract] at *); omega))))))) (fun hc4 => ?_) (fun hc4 => ?_)
      · (try simp only [blS, S_size] at hc4)
        refine stepR' hG hmix [] [] (.c (.d (.s ((S [45]) ++ ((((t).extract 0 (((t).size : Int) - s : Int).toNat) ++ (S [46])) ++ ((t).extract (((t).size : Int) - s : Int).toNat (t).size)))))) [] (by kernel_rfl) (conj1 (show (S [45]).size + ((((t).extract 0 (((t).size : Int) - s : Int).toNat) ++ (S [46])) ++ ((t).extract (((t).size : Int) - s : Int).toNat (t).size)).size ≤ maxLen from (by intros; (try simp only [inR, maxLen, S_size, List.length_append, List.length_cons, List.length_nil, ByteArray.size_append, ByteArray.size_extract] at *); omega))) ?_ ?_
        · rw [dec_leaf1 hP (by omega) (by omega)]
        · rfl
      · (try simp only [blS, S_size] at hc4)
        refine stepR' hG hmix [] [] (.c (.d (.s ((((t).extract 0 (((t).size : Int) - s : Int).toNat) ++ (S [46])) ++ ((t).extract (((t).size : Int) - s : Int).toNat (t).size))))) [] (by kernel_rfl) conj0 ?_ ?_
        · rw [dec_leaf2 hP (by omega) (by omega)]
        · rfl
    · (try simp only [blS, S_size] at hc3)
      refine stepC hG hmix [] [1, 0, 1, 1, 1, 1, 1] (decide ((n : Int) < 0)) (⟨[(2, [], .c (.d (.s (S [])))), (3, [], .c (.d (.s t)))], []⟩) _ (by kernel_rfl) conj0 (fun hc5 => ?_) (fun hc5 => ?_)
      · (try simp only [blS, S_size] at hc5)
        refine stepR' hG hmix [] [] (.c (.d (.s ((S [45]) ++ t)))) [] (by kernel_rfl) (conj1 (show (S [45]).size + (t).size ≤ maxLen from (by intros; (try simp only [inR, maxLen, S_size, List.length_append, List.length_cons, List.length_nil, ByteArray.size_append, ByteArray.size_extract] at *); omega))) ?_ ?_
        · rw [dec_leaf3 hP (by omega) (by omega)]
        · rfl
      · (try simp only [blS, S_size] at hc5)
        refine stepR' hG hmix [] [] (.c (.d (.s t))) [] (by kernel_rfl) conj0 ?_ ?_
        · rw [dec_leaf4 hP (by omega) (by omega)]
        · rfl
end Go.Proofs.YtmpgfchkkemngaaGreatDoor
namespace Go.Proofs.YtmpgfchkkemngaaGreatDoor
open Go.RowKit Go.V
open Go.Eng (inR byteAt u8 bytesV)
theorem isTextL_of {l : List UInt8} (h : l.all okByte = true) (hl : l.length ≤ 200) : isTextL l = true := by
  have e : bs (S l) = l := by simp [bs, S]
  simp only [isTextL, isTextB, Bool.and_eq_true, decide_eq_true_eq, S_size, e]
  exact ⟨h, by omega⟩
theorem okByte_ch (l : List Int) (k : Int) : okByte (u8 (32 + nxV l k 95)) = true := by
  have := nxV_bd l k (n := 95) (by decide)
  simp only [okByte, u8, Bool.and_eq_true, decide_eq_true_eq, UInt8.toNat_ofNat']
  omega
theorem ch_all (l : List Int) : ∀ (n : Nat) (k : Int), (chM l n k).1.all okByte = true
  | 0, k => rfl
  | n + 1, k => by simp only [chM, List.all_cons, okByte_ch, ch_all l n, Bool.and_true]
theorem words_all : ∀ i, i < 15 → (wordsL.getD i []).all okByte = true ∧ (wordsL.getD i []).length ≤ 200 := by decide
theorem tx_right (l : List Int) (k : Int) : isTextL (txM l k).1 = true := by
  unfold txM; split
  · have := nxV_bd l k (n := 18) (by decide)
    have h := words_all (nxV l k 18).toNat (by omega)
    exact isTextL_of h.1 h.2
  · exact isTextL_of (ch_all l _ _) (by rw [ch_len]; have := txN_bd l k; omega)
theorem fit_right (neg : Bool) (m : Nat) (s : Int) : decB (fitN neg m s) (fitS m s) = true := by
  unfold fitN fitS
  cases hb : fitB m s with
  | false => simp [decB]
  | true =>
    have h := hb
    simp only [fitB, decide_eq_true_eq] at h
    have ho := fitL_odd s.toNat m
    generalize (fitL m s.toNat).1 = a at *
    generalize (fitL m s.toNat).2 = b at *
    have ht : ((a : Int).tmod 10 = ((a % 10 : Nat) : Int)) := by rw [Int.tmod_eq_emod_of_nonneg (by omega)]; omega
    have hn : ((-(a : Int)).tmod 10 = -((a % 10 : Nat) : Int)) := by rw [Int.neg_tmod, ht]
    cases neg
    · simp only [if_true, if_false, Bool.false_eq_true, decB, ht, Bool.and_eq_true, Bool.or_eq_true, decide_eq_true_eq]; omega
    · simp only [if_true, decB, hn, Bool.and_eq_true, Bool.or_eq_true, decide_eq_true_eq]; omega
theorem dc_right (l : List Int) (k : Int) : decB (dcM l k).1 (dcM l k).2.1 = true := fit_right _ _ _
structure Cl.good (c : Cl) : Prop where
  kind : ¬ c.kind = 5
  right : rightK false c.toV = true
  len : c.s.length ≤ 200
theorem Cl.z_good : Cl.z.good := ⟨by decide, by decide, by decide⟩
theorem right3 (n : Int) (h0 : 0 ≤ n) (h1 : n ≤ 3652058) : rightK false ⟨3, [], 0, 0, n, [], []⟩ = true := by simp [rightK, bareB, h0, h1]
theorem right4 (n : Int) (h0 : 0 ≤ n) (h1 : n < 2) : rightK false ⟨4, [], 0, 0, n, [], []⟩ = true := by
  have : n = 0 ∨ n = 1 := by omega
  rcases this with rfl | rfl <;> decide
theorem right0 (n : Int) (h0 : 0 ≤ n) (h1 : n ≤ 99) : rightK false ⟨0, [], 0, 0, n, [], []⟩ = true := by simp [rightK, bareB, h0, h1]
theorem cv_good (l : List Int) (k kind : Int) : (cvM l k kind).1.good := by
  unfold cvM
  split
  · exact ⟨by simp, by simp [rightK, Cl.toV, bareB, tx_right], isTextL_len (tx_right l k)⟩
  · split
    · exact ⟨by simp, by simp [rightK, Cl.toV, bareB, dc_right], by simp⟩
    · split
      · have h1 := nxV_bd l k (n := 1000) (by decide)
        have h2 := nxV_bd l (nxK l (nxK l k 1000) 8) (n := 3652059) (by decide)
        split
        · exact ⟨by simp, right3 _ (by dsimp only; omega) (by dsimp only; omega), by simp⟩
        · exact ⟨by simp, right3 _ (by dsimp only; omega) (by dsimp only; omega), by simp⟩
      · split
        · have h1 := nxV_bd l k (n := 2) (by decide)
          exact ⟨by simp, right4 _ (by dsimp only; omega) (by dsimp only; omega), by simp⟩
        · have h1 := nxV_bd l k (n := 100) (by decide)
          exact ⟨by simp, right0 _ (by dsimp only; omega) (by dsimp only; omega), by simp⟩
theorem ce_good (l : List Int) (kind k : Int) : (ceM l kind k).1.good := by
  unfold ceM; split
  · exact Cl.z_good
  · exact cv_good _ _ _
theorem kd_len (l : List Int) : ∀ (n : Nat) (k : Int), (kdM l n k).1.length = n
  | 0, k => rfl
  | n + 1, k => by simp [kdM, kd_len l n]
theorem rw_len (l : List Int) : ∀ (r : List Int) (k : Int), (rwM l r k).1.length = r.length
  | [], k => rfl
  | x :: r, k => by simp [rwM, rw_len l r]
theorem rw_good (l : List Int) : ∀ (r : List Int) (k : Int), ∀ c, c ∈ (rwM l r k).1 → c.good
  | [], k, c, h => by cases h
  | x :: r, k, c, h => by
    simp only [rwM, List.mem_cons] at h
    rcases h with rfl | h
    · exact ce_good _ _ _
    · exact rw_good l r _ c h
theorem rs_len (l kds : List Int) : ∀ (n : Nat) (k : Int), (rsM l kds n k).1.length = n
  | 0, k => rfl
  | n + 1, k => by simp [rsM, rs_len l kds n]
theorem rs_good (l kds : List Int) : ∀ (n : Nat) (k : Int), ∀ r, r ∈ (rsM l kds n k).1 → r.length = kds.length ∧ ∀ c, c ∈ r → c.good
  | 0, k, r, h => by cases h
  | n + 1, k, r, h => by
    simp only [rsM, List.mem_cons] at h
    rcases h with rfl | h
    · exact ⟨rw_len l kds k, rw_good l kds k⟩
    · exact rs_good l kds n _ r h
theorem names_abc : ∀ n, n < 4 → allR (abcL.take n).length (nameAt (abcL.take n)) = true := by decide
theorem tableB_good {cols : List (List UInt8)} {rows : List (List Cl)} (h1 : cols.length ≤ 8) (h2 : rows.length ≤ 100) (hn : allR cols.length (nameAt cols) = true) (hr : ∀ r, r ∈ rows → r.length = cols.length ∧ ∀ c, c ∈ r → ¬ c.kind = 5 ∧ rightK false c.toV = true) : tableB cols rows = true := by
  refine tableB_ok ⟨by omega, by omega⟩ (fun j hj => allR_get hn hj) fun j hj => ?_
  obtain ⟨a, b⟩ := hr _ (getD_mem (z := []) hj)
  simp only [rowAt, a, decide_true, Bool.true_and]
  refine allR_true fun i hi => ?_
  have := b _ (getD_mem (z := Cl.z) (a ▸ hi))
  simp only [cellAt, this.1, this.2, decide_false, Bool.not_false, Bool.and_true]
theorem tb_good (l : List Int) (k : Int) : rightB (tbM l k).1 = true ∧ ∀ r, r ∈ (tbM l k).1.rows → ∀ c, c ∈ r → c.good := by
  have h1 := nxV_bd l k (n := 4) (by decide)
  have h2 := nxV_bd l (tbK l k).2 (n := 5) (by decide)
  have hl : (tbR l k).1.length = (nxV l (tbK l k).2 5).toNat := rs_len _ _ _ _
  have hg : ∀ r, r ∈ (tbR l k).1 → r.length = (abcL.take (nxV l k 4).toNat).length ∧ ∀ c, c ∈ r → c.good := fun r hr => by
    obtain ⟨a, b⟩ := rs_good _ _ _ _ r hr
    refine ⟨?_, b⟩
    rw [a, tbK, kd_len, List.length_take]
    have : abcL.length = 3 := rfl
    omega
  refine ⟨?_, fun r hr c hc => (hg r hr).2 c hc⟩
  have ht : tableB (abcL.take (nxV l k 4).toNat) (tbR l k).1 = true := by
    refine tableB_good ?_ ?_ (names_abc _ (by omega)) fun r hr => ⟨(hg r hr).1, fun c hc => ⟨((hg r hr).2 c hc).kind, ((hg r hr).2 c hc).right⟩⟩
    · rw [List.length_take]; have : abcL.length = 3 := rfl; omega
    · rw [hl]; omega
  simp [rightB, rightK, tbM, ht, bareB]
theorem vl_good (l : List Int) (k kind : Int) : rightB (vlM l k kind).1 = true ∧ (vlM l k kind).1.fit := by
  unfold vlM; split
  · obtain ⟨a, b⟩ := tb_good l k
    refine ⟨a, ⟨?_, ?_, ?_⟩⟩
    · simp [tbM]
    · intro t ht
      have : ∀ t, t ∈ abcL → t.length ≤ 1 := by decide
      have := this t (List.mem_of_mem_take ht)
      unfold maxLen; omega
    · intro r hr c hc
      have := (b r hr c hc).len
      unfold maxLen; omega
  · have h := cv_good l k kind
    refine ⟨?_, ?_, ?_, ?_⟩
    · have : (cvM l k kind).1.toV.kind = (cvM l k kind).1.kind := rfl
      have e : rightB (cvM l k kind).1.toV = rightK false (cvM l k kind).1.toV := by
        simp only [rightB, rightK, this, if_neg h.kind]
      rw [e]; exact h.right
    · have : (cvM l k kind).1.toV.s = (cvM l k kind).1.s := rfl
      rw [this]; have := h.len; unfold maxLen; omega
    · intro t ht; cases ht
    · intro t ht; cases ht
theorem made_right (l : List Int) : rightB (madeV l) = true := (vl_good _ _ _).1
theorem made_fit (l : List Int) : (madeV l).fit := (vl_good _ _ _).2
end Go.Proofs.YtmpgfchkkemngaaGreatDoor
namespace Go.Proofs.YtmpgfchkkemngaaGreatDoor
open Go.RowKit Go.V
open Go.Eng (inR byteAt u8 bytesV)
variable {g : Gv}
theorem valText_all (v : Vl) (hf : v.fit) : SpG g 15 [vArg v] [] (.c (.d (.s (S (textB v))))) [] := valText_ok decText_ok dateText_ok v hf
theorem indexAny_lit (s : List UInt8) (r : Int) (hs : s.length ≤ 1000) (ha : s.all (fun b => decide (b.toNat < 128)) = true) (h : Lib.indexAny s [44, 59, 93, 124] = r) : SpG g 175 [.c (.d (.s (S s))), .c (.d (.s (S [44, 59, 93, 124])))] [] (.c (.d (.i r))) [] := by
  refine spec_of (args := [.string (S s), .string (S [44, 59, 93, 124])]) rfl rfl rfl fun w _ => ?_
  have := Tryz.strings_IndexAny_laid (S s) (S [44, 59, 93, 124]) w (by rw [S_size]; omega) (by decide) (fun j b hb => by
      rw [S_data] at hb
      have := List.all_eq_true.1 ha b (List.mem_of_getElem? hb)
      simpa using this) (fun j b hb => by
      rw [S_data] at hb
      have h4 : ([44, 59, 93, 124] : List UInt8).all (fun b => decide (b.toNat < 128)) = true := by decide
      have := List.all_eq_true.1 h4 b (List.mem_of_getElem? hb)
      simpa using this)
  rw [S_data, S_data, h] at this
  exact this
theorem cutPrefix_lit (s p t : List UInt8) (r : Bool) (h1 : Lib.trimPrefix s p = t) (h2 : Lib.hasPrefix s p = r) : SpG g 205 [.c (.d (.s (S s))), .c (.d (.s (S p)))] [] (.tup [(false, [.d (.s (S t))]), (false, [.d (.b r)])]) [] := by
  refine of_same (args := [.string (S s), .string (S p)]) rfl rfl rfl fun w => ?_
  have := Tryz.strings_CutPrefix (S s) (S p) w
  rw [S_data, S_data, h1, h2] at this
  exact this
theorem drewN_below (w : World) (n : Nat) : Below w.heap.size w (w.drewN n) := ⟨rfl, rfl, rfl, Nat.le_refl _, fun _ _ => rfl⟩
theorem cut_lit (s p a b : List UInt8) (r : Bool) (hs : s.length ≤ 1000) (h : Lib.cut s p = (a, b, r)) : SpG g 206 [.c (.d (.s (S s))), .c (.d (.s (S p)))] [] (.tup [(false, [.d (.s (S a))]), (false, [.d (.s (S b))]), (false, [.d (.b r)])]) [] := by
  refine spec_of (args := [.string (S s), .string (S p)]) rfl rfl rfl fun w hG => ?_
  obtain ⟨ty, fz, h0⟩ := hG 0 [.int .i64 g.maxLen] (by simp [Gl])
  have := Tryz.strings_Cut (S s) (S p) g.maxLen w (by rw [S_size]; omega) (by rw [Lib.cell_of_heap h0]; rfl)
  rw [S_data, S_data, h] at this
  exact this.mono fun _ _ ⟨x, n, y⟩ => ⟨x, by rw [y]; exact drewN_below _ _⟩
theorem index_lit (s : List UInt8) (c : UInt8) (r : Int) (h : Lib.indexByte s c = r) : SpG g 119 [.c (.d (.s (S s))), .c (.d (.s (S [c])))] [] (.c (.d (.i r))) [] := by
  refine of_same (args := [.string (S s), .string (S [c])]) rfl rfl rfl fun w => ?_
  have := Tryz.strings_Index_one (S s) c w
  rw [S_data, h] at this
  exact this
theorem indexByte_lit (s : List UInt8) (c : Int) (r : Int) (h : Lib.indexByte s c.toNat.toUInt8 = r) : SpG g 177 [.c (.d (.s (S s))), .c (.d (.y c))] [] (.c (.d (.i r))) [] := by
  refine of_same (args := [.string (S s), .int .u8 c]) rfl rfl rfl fun w => ?_
  have := Tryz.strings_IndexByte (S s) c w
  rw [S_data, h] at this
  exact this
theorem decText_lit (n s : Int) (r : List UInt8) (h : decB n s = true) (e : decT n s = r) : SpG g 46 [.agg [.d (.i n), .d (.i s)]] [] (.c (.d (.s (S r)))) [] := by
  rw [← e]; exact decText_ok n s h
theorem decT_10 : decT 1 0 = [49] := by
  unfold decT
  rw [show (1 : Int).natAbs / 10 ^ (0 : Int).toNat = 1 from rfl, natT_low (by decide)]
  rfl
theorem within_lit (n : Int) (r : Bool) (h : (decide (-1000000000000000 ≤ n) && decide (n ≤ 1000000000000000)) = r) : SpG g 73 [.c (.d (.i n))] [] (.c (.d (.b r))) [] := by
  rw [← h]
  exact of_exact (args := [.int .i64 n]) rfl rfl rfl fun w => (within_any n w).mono fun _ _ ⟨a, b⟩ => ⟨a, b⟩
theorem right_lit (v : Vl) (hf : v.fit) (r : Bool) (h : rightB v = r) : SpG g 13 [vArg v] [] (.c (.d (.b r))) [] := by
  rw [← h]; exact right_ok v hf
theorem skip_x231x2e0_91  :
    SpG g 63 [.c (.bx 0 0), .c (.d (.y 91))] [(0, .box 90 [.d (.s (S [35, 49, 46, 48]))])] (.c (.d (.b false))) [(0, .box 90 [.d (.s (S [35, 49, 46, 48]))])] := by
  refine enterB 27 Tryz.func63 (by kernel_rfl) fun fr hG => ?_
  refine stepC hG hmix [] [1, 0, 1] (true) (⟨[(0, [], .c (.bx 0 0)), (4, [], .c (.d (.b false)))], [(0, .box 90 [.d (.s (S [35, 49, 46, 48]))])]⟩) _ (by kernel_rfl) (conj1 (show false = false → (0 : Int) ≤ 0 ∧ 0 < ((S [35, 49, 46, 48]).size : Int) from (by decide))) (fun _ => ?_) (fun hc1 => absurd hc1 (by decide))
  refine stepR' hG hmix [] [] (.c (.d (.b false))) [(0, .box 90 [.d (.s (S [35, 49, 46, 48]))])] (by kernel_rfl) conj0 ?_ ?_
  · rfl
  · rfl
theorem skip_x3f2_91  :
    SpG g 63 [.c (.bx 0 0), .c (.d (.y 91))] [(0, .box 90 [.d (.s (S [63, 50]))])] (.c (.d (.b false))) [(0, .box 90 [.d (.s (S [63, 50]))])] := by
  refine enterB 27 Tryz.func63 (by kernel_rfl) fun fr hG => ?_
  refine stepC hG hmix [] [1, 0, 1] (true) (⟨[(0, [], .c (.bx 0 0)), (4, [], .c (.d (.b false)))], [(0, .box 90 [.d (.s (S [63, 50]))])]⟩) _ (by kernel_rfl) (conj1 (show false = false → (0 : Int) ≤ 0 ∧ 0 < ((S [63, 50]).size : Int) from (by decide))) (fun _ => ?_) (fun hc1 => absurd hc1 (by decide))
  refine stepR' hG hmix [] [] (.c (.d (.b false))) [(0, .box 90 [.d (.s (S [63, 50]))])] (by kernel_rfl) conj0 ?_ ?_
  · rfl
  · rfl
theorem skip_x27ax7cbx27x7cx231_91  :
    SpG g 63 [.c (.bx 0 0), .c (.d (.y 91))] [(0, .box 90 [.d (.s (S [39, 97, 124, 98, 39, 124, 35, 49]))])] (.c (.d (.b false))) [(0, .box 90 [.d (.s (S [39, 97, 124, 98, 39, 124, 35, 49]))])] := by
  refine enterB 27 Tryz.func63 (by kernel_rfl) fun fr hG => ?_
  refine stepC hG hmix [] [1, 0, 1] (true) (⟨[(0, [], .c (.bx 0 0)), (4, [], .c (.d (.b false)))], [(0, .box 90 [.d (.s (S [39, 97, 124, 98, 39, 124, 35, 49]))])]⟩) _ (by kernel_rfl) (conj1 (show false = false → (0 : Int) ≤ 0 ∧ 0 < ((S [39, 97, 124, 98, 39, 124, 35, 49]).size : Int) from (by decide))) (fun _ => ?_) (fun hc1 => absurd hc1 (by decide))
  refine stepR' hG hmix [] [] (.c (.d (.b false))) [(0, .box 90 [.d (.s (S [39, 97, 124, 98, 39, 124, 35, 49]))])] (by kernel_rfl) conj0 ?_ ?_
  · rfl
  · rfl
theorem skip_x7cx231_39  :
    SpG g 63 [.c (.bx 0 0), .c (.d (.y 39))] [(0, .box 90 [.d (.s (S [124, 35, 49]))])] (.c (.d (.b false))) [(0, .box 90 [.d (.s (S [124, 35, 49]))])] := by
  refine enterB 27 Tryz.func63 (by kernel_rfl) fun fr hG => ?_
  refine stepC hG hmix [] [1, 0, 1] (true) (⟨[(0, [], .c (.bx 0 0)), (4, [], .c (.d (.b false)))], [(0, .box 90 [.d (.s (S [124, 35, 49]))])]⟩) _ (by kernel_rfl) (conj1 (show false = false → (0 : Int) ≤ 0 ∧ 0 < ((S [124, 35, 49]).size : Int) from (by decide))) (fun _ => ?_) (fun hc1 => absurd hc1 (by decide))
  refine stepR' hG hmix [] [] (.c (.d (.b false))) [(0, .box 90 [.d (.s (S [124, 35, 49]))])] (by kernel_rfl) conj0 ?_ ?_
  · rfl
  · rfl
theorem skip_x7cx231_124  :
    SpG g 63 [.c (.bx 0 0), .c (.d (.y 124))] [(0, .box 90 [.d (.s (S [124, 35, 49]))])] (.c (.d (.b true))) [(0, .box 90 [.d (.s (S [35, 49]))])] := by
  refine enterB 27 Tryz.func63 (by kernel_rfl) fun fr hG => ?_
  refine stepC hG hmix [] [1, 0, 1] (false) (⟨[(0, [], .c (.bx 0 0)), (4, [], .c (.d (.b false)))], [(0, .box 90 [.d (.s (S [124, 35, 49]))])]⟩) _ (by kernel_rfl) (conj1 (show false = false → (0 : Int) ≤ 0 ∧ 0 < ((S [124, 35, 49]).size : Int) from (by decide))) (fun hc1 => absurd hc1 (by decide)) (fun _ => ?_)
  refine stepR' hG hmix [] [] (.c (.d (.b true))) [(0, .box 90 [.d (.s (S [35, 49]))])] (by kernel_rfl) (conj1 (show (0 : Int) ≤ 1 ∧ (1 : Int) ≤ ((S [124, 35, 49]).size : Int) ∧ ((S [124, 35, 49]).size : Int) ≤ ((S [124, 35, 49]).size : Int) from (by decide))) ?_ ?_
  · rfl
  · rfl
theorem skip_x231_91  :
    SpG g 63 [.c (.bx 0 0), .c (.d (.y 91))] [(0, .box 90 [.d (.s (S [35, 49]))])] (.c (.d (.b false))) [(0, .box 90 [.d (.s (S [35, 49]))])] := by
  refine enterB 27 Tryz.func63 (by kernel_rfl) fun fr hG => ?_
  refine stepC hG hmix [] [1, 0, 1] (true) (⟨[(0, [], .c (.bx 0 0)), (4, [], .c (.d (.b false)))], [(0, .box 90 [.d (.s (S [35, 49]))])]⟩) _ (by kernel_rfl) (conj1 (show false = false → (0 : Int) ≤ 0 ∧ 0 < ((S [35, 49]).size : Int) from (by decide))) (fun _ => ?_) (fun hc1 => absurd hc1 (by decide))
  refine stepR' hG hmix [] [] (.c (.d (.b false))) [(0, .box 90 [.d (.s (S [35, 49]))])] (by kernel_rfl) conj0 ?_ ?_
  · rfl
  · rfl
theorem skip__124  :
    SpG g 63 [.c (.bx 0 0), .c (.d (.y 124))] [(0, .box 90 [.d (.s (S []))])] (.c (.d (.b false))) [(0, .box 90 [.d (.s (S []))])] := by
  refine enterB 27 Tryz.func63 (by kernel_rfl) fun fr hG => ?_
  refine stepC hG hmix [] [1, 0, 1] (true) (⟨[(0, [], .c (.bx 0 0)), (4, [], .c (.d (.b false)))], [(0, .box 90 [.d (.s (S []))])]⟩) _ (by kernel_rfl) (conj1 (show true = false → (0 : Int) ≤ 0 ∧ 0 < ((S []).size : Int) from fun hg1 => absurd hg1 (by decide))) (fun _ => ?_) (fun hc1 => absurd hc1 (by decide))
  refine stepR' hG hmix [] [] (.c (.d (.b false))) [(0, .box 90 [.d (.s (S []))])] (by kernel_rfl) conj0 ?_ ?_
  · rfl
  · rfl
theorem word_1x2e0  :
    SpG g 128 [.c (.bx 0 0)] [(0, .box 90 [.d (.s (S [49, 46, 48]))])] (.c (.d (.s (S [49, 46, 48])))) [(0, .box 90 [.d (.s (S []))])] := by
  refine enterB 33 Tryz.func128 (by kernel_rfl) fun fr hG => ?_
  refine stepC hG hmix [(1, 4, .call (.c (.d (.i (-1)))) [] [])] [1, 0, 1, 1] (true) (⟨[(0, [], .c (.bx 0 0)), (2, [], .c (.d (.s (S [])))), (3, [], .c (.d (.i (-1))))], [(0, .box 90 [.d (.s (S [49, 46, 48]))])]⟩) _ (by kernel_rfl) (conj1 ((indexAny_lit [49, 46, 48] (-1) (by decide) (by decide) (by decide) : SpG g _ _ _ _ _))) (fun _ => ?_) (fun hc1 => absurd hc1 (by decide))
  refine stepR' hG hmix [] [] (.c (.d (.s (S [49, 46, 48])))) [(0, .box 90 [.d (.s (S []))])] (by kernel_rfl) (conjC (show (0 : Int) ≤ 0 ∧ (0 : Int) ≤ 3 ∧ 3 ≤ ((S [49, 46, 48]).size : Int) from (by decide)) (conj1 (show (0 : Int) ≤ 3 ∧ (3 : Int) ≤ ((S [49, 46, 48]).size : Int) ∧ ((S [49, 46, 48]).size : Int) ≤ ((S [49, 46, 48]).size : Int) from (by decide)))) ?_ ?_
  · rfl
  · rfl
theorem word_2  :
    SpG g 128 [.c (.bx 0 0)] [(0, .box 90 [.d (.s (S [50]))])] (.c (.d (.s (S [50])))) [(0, .box 90 [.d (.s (S []))])] := by
  refine enterB 33 Tryz.func128 (by kernel_rfl) fun fr hG => ?_
  refine stepC hG hmix [(1, 4, .call (.c (.d (.i (-1)))) [] [])] [1, 0, 1, 1] (true) (⟨[(0, [], .c (.bx 0 0)), (2, [], .c (.d (.s (S [])))), (3, [], .c (.d (.i (-1))))], [(0, .box 90 [.d (.s (S [50]))])]⟩) _ (by kernel_rfl) (conj1 ((indexAny_lit [50] (-1) (by decide) (by decide) (by decide) : SpG g _ _ _ _ _))) (fun _ => ?_) (fun hc1 => absurd hc1 (by decide))
  refine stepR' hG hmix [] [] (.c (.d (.s (S [50])))) [(0, .box 90 [.d (.s (S []))])] (by kernel_rfl) (conjC (show (0 : Int) ≤ 0 ∧ (0 : Int) ≤ 1 ∧ 1 ≤ ((S [50]).size : Int) from (by decide)) (conj1 (show (0 : Int) ≤ 1 ∧ (1 : Int) ≤ ((S [50]).size : Int) ∧ ((S [50]).size : Int) ≤ ((S [50]).size : Int) from (by decide)))) ?_ ?_
  · rfl
  · rfl
theorem word_1  :
    SpG g 128 [.c (.bx 0 0)] [(0, .box 90 [.d (.s (S [49]))])] (.c (.d (.s (S [49])))) [(0, .box 90 [.d (.s (S []))])] := by
  refine enterB 33 Tryz.func128 (by kernel_rfl) fun fr hG => ?_
  refine stepC hG hmix [(1, 4, .call (.c (.d (.i (-1)))) [] [])] [1, 0, 1, 1] (true) (⟨[(0, [], .c (.bx 0 0)), (2, [], .c (.d (.s (S [])))), (3, [], .c (.d (.i (-1))))], [(0, .box 90 [.d (.s (S [49]))])]⟩) _ (by kernel_rfl) (conj1 ((indexAny_lit [49] (-1) (by decide) (by decide) (by decide) : SpG g _ _ _ _ _))) (fun _ => ?_) (fun hc1 => absurd hc1 (by decide))
  refine stepR' hG hmix [] [] (.c (.d (.s (S [49])))) [(0, .box 90 [.d (.s (S []))])] (by kernel_rfl) (conjC (show (0 : Int) ≤ 0 ∧ (0 : Int) ≤ 1 ∧ 1 ≤ ((S [49]).size : Int) from (by decide)) (conj1 (show (0 : Int) ≤ 1 ∧ (1 : Int) ≤ ((S [49]).size : Int) ∧ ((S [49]).size : Int) ≤ ((S [49]).size : Int) from (by decide)))) ?_ ?_
  · rfl
  · rfl
theorem make_10_1  :
    SpG g 207 [.c (.d (.i 10)), .c (.d (.i 1))] [] (.tup [(true, [.d (.i 1), .d (.i 0)]), (false, [.d (.b true)])]) [] := by
  refine enterB 35 Tryz.func207 (by kernel_rfl) fun fr hG => ?_
  refine stepC hG hmix [] [1, 0, 1] (false) (⟨[(0, [], .c (.d (.i 10))), (1, [], .c (.d (.i 1))), (4, [], .c (.bx 100 0)), (5, [], .c (.d (.b false)))], [(100, .box 26 [.d (.i 0), .d (.i 0)])]⟩) _ (by kernel_rfl) conj0 (fun hc1 => absurd hc1 (by decide)) (fun _ => ?_)
  refine stepL hG hmix [] [0, 0, 1, 1] ((fun (zz : Nat) => match zz with | 0 => ⟨[(0, [], .c (.d (.i 10))), (1, [], .c (.d (.i 1))), (4, [], .c (.bx 100 0)), (5, [], .c (.d (.b false)))], [(100, .box 26 [.d (.i 0), .d (.i 0)])]⟩ | _ => ⟨[(0, [], .c (.d (.i 1))), (1, [], .c (.d (.i 0))), (4, [], .c (.bx 100 0)), (5, [], .c (.d (.b false)))], [(100, .box 26 [.d (.i 0), .d (.i 0)])]⟩) 0) _ (by kernel_rfl) conj0 ?_
  refine loopR (σ := Nat) (fun (zz : Nat) => match zz with | k => 2 - k) (fun (zz : Nat) => match zz with | 0 => ⟨[(0, [], .c (.d (.i 10))), (1, [], .c (.d (.i 1))), (4, [], .c (.bx 100 0)), (5, [], .c (.d (.b false)))], [(100, .box 26 [.d (.i 0), .d (.i 0)])]⟩ | _ => ⟨[(0, [], .c (.d (.i 1))), (1, [], .c (.d (.i 0))), (4, [], .c (.bx 100 0)), (5, [], .c (.d (.b false)))], [(100, .box 26 [.d (.i 0), .d (.i 0)])]⟩) (fun (zz : Nat) => match zz with | k => k ≤ 1) 0 (by kernel_rfl) ?_ ?_
  · exact Nat.zero_le _
  rintro k hI
  rcases (by omega : k = 0 ∨ k = 1) with rfl | rfl
  · skip
    refine stepC hG hmix [] [1, 0] (true) (⟨[(0, [], .c (.d (.i 10))), (1, [], .c (.d (.i 1))), (4, [], .c (.bx 100 0)), (5, [], .c (.d (.b false)))], [(100, .box 26 [.d (.i 0), .d (.i 0)])]⟩) _ (by kernel_rfl) (conj1 (show true = true → 10 ≠ (0 : Int) from (by decide))) (fun _ => ?_) (fun hc3 => absurd hc3 (by decide))
    refine roundE hG hmix [] 1 _ (by kernel_rfl) (conjC (show 10 ≠ (0 : Int) ∧ inR (Int.tdiv 10 10) from (by unfold inR; decide)) (conj1 (show inR (1 - 1) from (by unfold inR; decide)))) ?_ ?_
    · decide
    · decide
  · skip
    refine stepC hG hmix [] [1, 0] (false) (⟨[(0, [], .c (.d (.i 1))), (1, [], .c (.d (.i 0))), (4, [], .c (.bx 100 0)), (5, [], .c (.d (.b false)))], [(100, .box 26 [.d (.i 0), .d (.i 0)])]⟩) _ (by kernel_rfl) (conj1 (show false = true → 10 ≠ (0 : Int) from fun hg1 => absurd hg1 (by decide))) (fun hc4 => absurd hc4 (by decide)) (fun _ => ?_)
    refine leaveE hG hmix [] (.exit 0) (⟨[(0, [], .c (.d (.i 1))), (1, [], .c (.d (.i 0))), (4, [], .c (.bx 100 0)), (5, [], .c (.d (.b false)))], [(100, .box 26 [.d (.i 0), .d (.i 0)])]⟩) _ (by kernel_rfl) conj0 rfl ?_
    refine stepC hG hmix [(6, 4, .call (.c (.d (.b true))) [] [])] [1, 0, 1, 1, 1] (false) (⟨[(0, [], .c (.d (.i 1))), (1, [], .c (.d (.i 0))), (4, [], .c (.bx 100 0)), (5, [], .c (.d (.b false)))], [(100, .box 26 [.d (.i 0), .d (.i 0)])]⟩) _ (by kernel_rfl) (conj1 (fun (hg1 : false = false) => ((within_lit 1 true (by decide) : SpG g _ _ _ _ _)))) (fun hc5 => absurd hc5 (by decide)) (fun _ => ?_)
    refine stepR' hG hmix [] [] (.tup [(true, [.d (.i 1), .d (.i 0)]), (false, [.d (.b true)])]) [] (by kernel_rfl) conj0 ?_ ?_
    · rfl
    · rfl
theorem make_1_0  :
    SpG g 207 [.c (.d (.i 1)), .c (.d (.i 0))] [] (.tup [(true, [.d (.i 1), .d (.i 0)]), (false, [.d (.b true)])]) [] := by
  refine enterB 35 Tryz.func207 (by kernel_rfl) fun fr hG => ?_
  refine stepC hG hmix [] [1, 0, 1] (false) (⟨[(0, [], .c (.d (.i 1))), (1, [], .c (.d (.i 0))), (4, [], .c (.bx 100 0)), (5, [], .c (.d (.b false)))], [(100, .box 26 [.d (.i 0), .d (.i 0)])]⟩) _ (by kernel_rfl) conj0 (fun hc1 => absurd hc1 (by decide)) (fun _ => ?_)
  refine stepL hG hmix [] [0, 0, 1, 1] ((fun (zz : Nat) => match zz with | _ => ⟨[(0, [], .c (.d (.i 1))), (1, [], .c (.d (.i 0))), (4, [], .c (.bx 100 0)), (5, [], .c (.d (.b false)))], [(100, .box 26 [.d (.i 0), .d (.i 0)])]⟩) 0) _ (by kernel_rfl) conj0 ?_
  refine loopR (σ := Nat) (fun (zz : Nat) => match zz with | k => 1 - k) (fun (zz : Nat) => match zz with | _ => ⟨[(0, [], .c (.d (.i 1))), (1, [], .c (.d (.i 0))), (4, [], .c (.bx 100 0)), (5, [], .c (.d (.b false)))], [(100, .box 26 [.d (.i 0), .d (.i 0)])]⟩) (fun (zz : Nat) => match zz with | k => k ≤ 0) 0 (by kernel_rfl) ?_ ?_
  · exact Nat.zero_le _
  rintro k hI
  rcases (by omega : k = 0) with rfl
  · skip
    refine stepC hG hmix [] [1, 0] (false) (⟨[(0, [], .c (.d (.i 1))), (1, [], .c (.d (.i 0))), (4, [], .c (.bx 100 0)), (5, [], .c (.d (.b false)))], [(100, .box 26 [.d (.i 0), .d (.i 0)])]⟩) _ (by kernel_rfl) (conj1 (show false = true → 10 ≠ (0 : Int) from fun hg1 => absurd hg1 (by decide))) (fun hc3 => absurd hc3 (by decide)) (fun _ => ?_)
    refine leaveE hG hmix [] (.exit 0) (⟨[(0, [], .c (.d (.i 1))), (1, [], .c (.d (.i 0))), (4, [], .c (.bx 100 0)), (5, [], .c (.d (.b false)))], [(100, .box 26 [.d (.i 0), .d (.i 0)])]⟩) _ (by kernel_rfl) conj0 rfl ?_
    refine stepC hG hmix [(6, 4, .call (.c (.d (.b true))) [] [])] [1, 0, 1, 1, 1] (false) (⟨[(0, [], .c (.d (.i 1))), (1, [], .c (.d (.i 0))), (4, [], .c (.bx 100 0)), (5, [], .c (.d (.b false)))], [(100, .box 26 [.d (.i 0), .d (.i 0)])]⟩) _ (by kernel_rfl) (conj1 (fun (hg1 : false = false) => ((within_lit 1 true (by decide) : SpG g _ _ _ _ _)))) (fun hc4 => absurd hc4 (by decide)) (fun _ => ?_)
    refine stepR' hG hmix [] [] (.tup [(true, [.d (.i 1), .d (.i 0)]), (false, [.d (.b true)])]) [] (by kernel_rfl) conj0 ?_ ?_
    · rfl
    · rfl
theorem parse_1  :
    SpG g 179 [.c (.d (.s (S [49])))] [] (.tup [(true, [.d (.i 1), .d (.i 0)]), (false, [.d (.b true)])]) [] := by
  refine enterB 76 Tryz.func179 (by kernel_rfl) fun fr hG => ?_
  refine stepC hG hmix [] [1, 0, 1] (false) (⟨[(0, [], .c (.d (.s (S [49])))), (2, [], .c (.bx 100 0)), (3, [], .c (.d (.b false)))], [(100, .box 26 [.d (.i 0), .d (.i 0)])]⟩) _ (by kernel_rfl) conj0 (fun hc1 => absurd hc1 (by decide)) (fun _ => ?_)
  refine stepL hG hmix [(3, 1, .call (.tup [(false, [.d (.s (S [49]))]), (false, [.d (.b false)])]) [] []), (4, 1, .call (.tup [(false, [.d (.s (S [49]))]), (false, [.d (.s (S []))]), (false, [.d (.b false)])]) [] [])] [0, 1, 0, 1, 1, 1, 1, 1, 1] ((fun (zz : Nat) => match zz with | 0 => ⟨[(0, [], .c (.d (.s (S [49])))), (2, [], .c (.bx 100 0)), (3, [], .c (.d (.b false))), (4, [], .c (.d (.s (S [49])))), (5, [], .c (.d (.b false))), (7, [], .c (.d (.s (S [])))), (9, [], .c (.d (.i 0))), (32, [], .c (.d (.i 1))), (33, [], .c (.d (.i 0)))], [(100, .box 26 [.d (.i 0), .d (.i 0)])]⟩ | _ => ⟨[(0, [], .c (.d (.s (S [49])))), (2, [], .c (.bx 100 0)), (3, [], .c (.d (.b false))), (4, [], .c (.d (.s (S [49])))), (5, [], .c (.d (.b false))), (7, [], .c (.d (.s (S [])))), (9, [], .c (.d (.i 1))), (32, [], .c (.d (.i 1))), (33, [], .c (.d (.i 1)))], [(100, .box 26 [.d (.i 0), .d (.i 0)])]⟩) 0) _ (by kernel_rfl) (conjC ((cutPrefix_lit [49] [45] [49] false (by decide) (by decide) : SpG g _ _ _ _ _)) (conjC ((cut_lit [49] [46] [49] [] false (by decide) (by decide) : SpG g _ _ _ _ _)) (conj1 (show (S [49]).size + (S []).size ≤ maxLen from (by decide))))) ?_
  refine loopR (σ := Nat) (fun (zz : Nat) => match zz with | k => 2 - k) (fun (zz : Nat) => match zz with | 0 => ⟨[(0, [], .c (.d (.s (S [49])))), (2, [], .c (.bx 100 0)), (3, [], .c (.d (.b false))), (4, [], .c (.d (.s (S [49])))), (5, [], .c (.d (.b false))), (7, [], .c (.d (.s (S [])))), (9, [], .c (.d (.i 0))), (32, [], .c (.d (.i 1))), (33, [], .c (.d (.i 0)))], [(100, .box 26 [.d (.i 0), .d (.i 0)])]⟩ | _ => ⟨[(0, [], .c (.d (.s (S [49])))), (2, [], .c (.bx 100 0)), (3, [], .c (.d (.b false))), (4, [], .c (.d (.s (S [49])))), (5, [], .c (.d (.b false))), (7, [], .c (.d (.s (S [])))), (9, [], .c (.d (.i 1))), (32, [], .c (.d (.i 1))), (33, [], .c (.d (.i 1)))], [(100, .box 26 [.d (.i 0), .d (.i 0)])]⟩) (fun (zz : Nat) => match zz with | k => k ≤ 1) 0 (by kernel_rfl) ?_ ?_
  · exact Nat.zero_le _
  rintro k hI
  rcases (by omega : k = 0 ∨ k = 1) with rfl | rfl
  · skip
    refine stepC hG hmix [] [0, 1] (true) (⟨[(0, [], .c (.d (.s (S [49])))), (2, [], .c (.bx 100 0)), (3, [], .c (.d (.b false))), (4, [], .c (.d (.s (S [49])))), (5, [], .c (.d (.b false))), (7, [], .c (.d (.s (S [])))), (9, [], .c (.d (.i 0))), (32, [], .c (.d (.i 1))), (33, [], .c (.d (.i 0)))], [(100, .box 26 [.d (.i 0), .d (.i 0)])]⟩) _ (by kernel_rfl) conj0 (fun _ => ?_) (fun hc3 => absurd hc3 (by decide))
    refine stepC hG hmix [] [1, 0, 1, 0, 0, 1, 1] (false) (⟨[(0, [], .c (.d (.s (S [49])))), (2, [], .c (.bx 100 0)), (3, [], .c (.d (.b false))), (4, [], .c (.d (.s (S [49])))), (5, [], .c (.d (.b false))), (7, [], .c (.d (.s (S [])))), (9, [], .c (.d (.i 0))), (10, [], .c (.d (.i 0))), (32, [], .c (.d (.i 1))), (33, [], .c (.d (.i 0)))], [(100, .box 26 [.d (.i 0), .d (.i 0)])]⟩) _ (by kernel_rfl) (conjC (show (0 : Int) ≤ 0 ∧ 0 < ((S [49]).size : Int) from (by decide)) (conj1 (show false = false → (0 : Int) ≤ 0 ∧ 0 < ((S [49]).size : Int) from (by decide)))) (fun hc4 => absurd hc4 (by decide)) (fun _ => ?_)
    refine roundE hG hmix [] 1 _ (by kernel_rfl) (conjC (show inR (0 * 10) from (by unfold inR; decide)) (conjC (show (0 : Int) ≤ 0 ∧ 0 < ((S [49]).size : Int) from (by decide)) (conjC (show inR (0 + 1) from (by unfold inR; decide)) (conj1 (show inR (0 + 1) from (by unfold inR; decide)))))) ?_ ?_
    · decide
    · decide
  · skip
    refine stepC hG hmix [] [0, 1] (false) (⟨[(0, [], .c (.d (.s (S [49])))), (2, [], .c (.bx 100 0)), (3, [], .c (.d (.b false))), (4, [], .c (.d (.s (S [49])))), (5, [], .c (.d (.b false))), (7, [], .c (.d (.s (S [])))), (9, [], .c (.d (.i 1))), (32, [], .c (.d (.i 1))), (33, [], .c (.d (.i 1)))], [(100, .box 26 [.d (.i 0), .d (.i 0)])]⟩) _ (by kernel_rfl) conj0 (fun hc5 => absurd hc5 (by decide)) (fun _ => ?_)
    refine leaveE hG hmix [] (.exit 0) (⟨[(0, [], .c (.d (.s (S [49])))), (2, [], .c (.bx 100 0)), (3, [], .c (.d (.b false))), (5, [], .c (.d (.b false))), (7, [], .c (.d (.s (S [])))), (9, [], .c (.d (.i 1)))], [(100, .box 26 [.d (.i 0), .d (.i 0)])]⟩) _ (by kernel_rfl) conj0 rfl ?_
    refine stepC hG hmix [] [1, 0, 1, 1, 1, 1, 1, 1, 1] (false) (⟨[(0, [], .c (.d (.s (S [49])))), (2, [], .c (.bx 100 0)), (3, [], .c (.d (.b false))), (7, [], .c (.d (.s (S [])))), (9, [], .c (.d (.i 1)))], [(100, .box 26 [.d (.i 0), .d (.i 0)])]⟩) _ (by kernel_rfl) conj0 (fun hc6 => absurd hc6 (by decide)) (fun _ => ?_)
    refine stepC hG hmix [(16, 3, .call (.tup [(true, [.d (.i 1), .d (.i 0)]), (false, [.d (.b true)])]) [] []), (17, 4, .call (.c (.d (.s (S [49])))) [] [])] [1, 0, 1, 1, 1, 1, 1, 1, 1, 1, 1] (false) (⟨[(2, [], .c (.bx 100 0)), (3, [], .c (.d (.b false))), (11, [], .c (.bx 1707 0))], [(100, .box 26 [.d (.i 0), .d (.i 0)]), (1707, .box 26 [.d (.i 1), .d (.i 0)])]⟩) _ (by kernel_rfl) (conjC ((make_1_0 : SpG g _ _ _ _ _)) (conj1 (fun (hg1 : false = false) => ((decText_lit 1 0 [49] (by decide) decT_10 : SpG g _ _ _ _ _))))) (fun hc7 => absurd hc7 (by decide)) (fun _ => ?_)
    refine stepR' hG hmix [] [] (.tup [(true, [.d (.i 1), .d (.i 0)]), (false, [.d (.b true)])]) [] (by kernel_rfl) conj0 ?_ ?_
    · rfl
    · rfl
theorem parse_1x2e0  :
    SpG g 179 [.c (.d (.s (S [49, 46, 48])))] [] (.tup [(true, [.d (.i 0), .d (.i 0)]), (false, [.d (.b false)])]) [] := by
  refine enterB 76 Tryz.func179 (by kernel_rfl) fun fr hG => ?_
  refine stepC hG hmix [] [1, 0, 1] (false) (⟨[(0, [], .c (.d (.s (S [49, 46, 48])))), (2, [], .c (.bx 100 0)), (3, [], .c (.d (.b false)))], [(100, .box 26 [.d (.i 0), .d (.i 0)])]⟩) _ (by kernel_rfl) conj0 (fun hc1 => absurd hc1 (by decide)) (fun _ => ?_)
  refine stepL hG hmix [(3, 1, .call (.tup [(false, [.d (.s (S [49, 46, 48]))]), (false, [.d (.b false)])]) [] []), (4, 1, .call (.tup [(false, [.d (.s (S [49]))]), (false, [.d (.s (S [48]))]), (false, [.d (.b true)])]) [] [])] [0, 1, 0, 1, 1, 1, 1, 1, 1] ((fun (zz : Nat) => match zz with | 0 => ⟨[(0, [], .c (.d (.s (S [49, 46, 48])))), (2, [], .c (.bx 100 0)), (3, [], .c (.d (.b false))), (4, [], .c (.d (.s (S [49, 48])))), (5, [], .c (.d (.b false))), (7, [], .c (.d (.s (S [48])))), (9, [], .c (.d (.i 0))), (32, [], .c (.d (.i 2))), (33, [], .c (.d (.i 0)))], [(100, .box 26 [.d (.i 0), .d (.i 0)])]⟩ | 1 => ⟨[(0, [], .c (.d (.s (S [49, 46, 48])))), (2, [], .c (.bx 100 0)), (3, [], .c (.d (.b false))), (4, [], .c (.d (.s (S [49, 48])))), (5, [], .c (.d (.b false))), (7, [], .c (.d (.s (S [48])))), (9, [], .c (.d (.i 1))), (32, [], .c (.d (.i 2))), (33, [], .c (.d (.i 1)))], [(100, .box 26 [.d (.i 0), .d (.i 0)])]⟩ | _ => ⟨[(0, [], .c (.d (.s (S [49, 46, 48])))), (2, [], .c (.bx 100 0)), (3, [], .c (.d (.b false))), (4, [], .c (.d (.s (S [49, 48])))), (5, [], .c (.d (.b false))), (7, [], .c (.d (.s (S [48])))), (9, [], .c (.d (.i 10))), (32, [], .c (.d (.i 2))), (33, [], .c (.d (.i 2)))], [(100, .box 26 [.d (.i 0), .d (.i 0)])]⟩) 0) _ (by kernel_rfl) (conjC ((cutPrefix_lit [49, 46, 48] [45] [49, 46, 48] false (by decide) (by decide) : SpG g _ _ _ _ _)) (conjC ((cut_lit [49, 46, 48] [46] [49] [48] true (by decide) (by decide) : SpG g _ _ _ _ _)) (conj1 (show (S [49]).size + (S [48]).size ≤ maxLen from (by decide))))) ?_
  refine loopR (σ := Nat) (fun (zz : Nat) => match zz with | k => 3 - k) (fun (zz : Nat) => match zz with | 0 => ⟨[(0, [], .c (.d (.s (S [49, 46, 48])))), (2, [], .c (.bx 100 0)), (3, [], .c (.d (.b false))), (4, [], .c (.d (.s (S [49, 48])))), (5, [], .c (.d (.b false))), (7, [], .c (.d (.s (S [48])))), (9, [], .c (.d (.i 0))), (32, [], .c (.d (.i 2))), (33, [], .c (.d (.i 0)))], [(100, .box 26 [.d (.i 0), .d (.i 0)])]⟩ | 1 => ⟨[(0, [], .c (.d (.s (S [49, 46, 48])))), (2, [], .c (.bx 100 0)), (3, [], .c (.d (.b false))), (4, [], .c (.d (.s (S [49, 48])))), (5, [], .c (.d (.b false))), (7, [], .c (.d (.s (S [48])))), (9, [], .c (.d (.i 1))), (32, [], .c (.d (.i 2))), (33, [], .c (.d (.i 1)))], [(100, .box 26 [.d (.i 0), .d (.i 0)])]⟩ | _ => ⟨[(0, [], .c (.d (.s (S [49, 46, 48])))), (2, [], .c (.bx 100 0)), (3, [], .c (.d (.b false))), (4, [], .c (.d (.s (S [49, 48])))), (5, [], .c (.d (.b false))), (7, [], .c (.d (.s (S [48])))), (9, [], .c (.d (.i 10))), (32, [], .c (.d (.i 2))), (33, [], .c (.d (.i 2)))], [(100, .box 26 [.d (.i 0), .d (.i 0)])]⟩) (fun (zz : Nat) => match zz with | k => k ≤ 2) 0 (by kernel_rfl) ?_ ?_
  · exact Nat.zero_le _
  rintro k hI
  rcases (by omega : k = 0 ∨ k = 1 ∨ k = 2) with rfl | rfl | rfl
  · skip
    refine stepC hG hmix [] [0, 1] (true) (⟨[(0, [], .c (.d (.s (S [49, 46, 48])))), (2, [], .c (.bx 100 0)), (3, [], .c (.d (.b false))), (4, [], .c (.d (.s (S [49, 48])))), (5, [], .c (.d (.b false))), (7, [], .c (.d (.s (S [48])))), (9, [], .c (.d (.i 0))), (32, [], .c (.d (.i 2))), (33, [], .c (.d (.i 0)))], [(100, .box 26 [.d (.i 0), .d (.i 0)])]⟩) _ (by kernel_rfl) conj0 (fun _ => ?_) (fun hc3 => absurd hc3 (by decide))
    refine stepC hG hmix [] [1, 0, 1, 0, 0, 1, 1] (false) (⟨[(0, [], .c (.d (.s (S [49, 46, 48])))), (2, [], .c (.bx 100 0)), (3, [], .c (.d (.b false))), (4, [], .c (.d (.s (S [49, 48])))), (5, [], .c (.d (.b false))), (7, [], .c (.d (.s (S [48])))), (9, [], .c (.d (.i 0))), (10, [], .c (.d (.i 0))), (32, [], .c (.d (.i 2))), (33, [], .c (.d (.i 0)))], [(100, .box 26 [.d (.i 0), .d (.i 0)])]⟩) _ (by kernel_rfl) (conjC (show (0 : Int) ≤ 0 ∧ 0 < ((S [49, 48]).size : Int) from (by decide)) (conj1 (show false = false → (0 : Int) ≤ 0 ∧ 0 < ((S [49, 48]).size : Int) from (by decide)))) (fun hc4 => absurd hc4 (by decide)) (fun _ => ?_)
    refine roundE hG hmix [] 1 _ (by kernel_rfl) (conjC (show inR (0 * 10) from (by unfold inR; decide)) (conjC (show (0 : Int) ≤ 0 ∧ 0 < ((S [49, 48]).size : Int) from (by decide)) (conjC (show inR (0 + 1) from (by unfold inR; decide)) (conj1 (show inR (0 + 1) from (by unfold inR; decide)))))) ?_ ?_
    · decide
    · decide
  · skip
    refine stepC hG hmix [] [0, 1] (true) (⟨[(0, [], .c (.d (.s (S [49, 46, 48])))), (2, [], .c (.bx 100 0)), (3, [], .c (.d (.b false))), (4, [], .c (.d (.s (S [49, 48])))), (5, [], .c (.d (.b false))), (7, [], .c (.d (.s (S [48])))), (9, [], .c (.d (.i 1))), (32, [], .c (.d (.i 2))), (33, [], .c (.d (.i 1)))], [(100, .box 26 [.d (.i 0), .d (.i 0)])]⟩) _ (by kernel_rfl) conj0 (fun _ => ?_) (fun hc5 => absurd hc5 (by decide))
    refine stepC hG hmix [] [1, 0, 1, 0, 0, 1, 1] (false) (⟨[(0, [], .c (.d (.s (S [49, 46, 48])))), (2, [], .c (.bx 100 0)), (3, [], .c (.d (.b false))), (4, [], .c (.d (.s (S [49, 48])))), (5, [], .c (.d (.b false))), (7, [], .c (.d (.s (S [48])))), (9, [], .c (.d (.i 1))), (10, [], .c (.d (.i 1))), (32, [], .c (.d (.i 2))), (33, [], .c (.d (.i 1)))], [(100, .box 26 [.d (.i 0), .d (.i 0)])]⟩) _ (by kernel_rfl) (conjC (show (0 : Int) ≤ 1 ∧ 1 < ((S [49, 48]).size : Int) from (by decide)) (conj1 (show false = false → (0 : Int) ≤ 1 ∧ 1 < ((S [49, 48]).size : Int) from (by decide)))) (fun hc6 => absurd hc6 (by decide)) (fun _ => ?_)
    refine roundE hG hmix [] 2 _ (by kernel_rfl) (conjC (show inR (1 * 10) from (by unfold inR; decide)) (conjC (show (0 : Int) ≤ 1 ∧ 1 < ((S [49, 48]).size : Int) from (by decide)) (conjC (show inR (10 + 0) from (by unfold inR; decide)) (conj1 (show inR (1 + 1) from (by unfold inR; decide)))))) ?_ ?_
    · decide
    · decide
  · skip
    refine stepC hG hmix [] [0, 1] (false) (⟨[(0, [], .c (.d (.s (S [49, 46, 48])))), (2, [], .c (.bx 100 0)), (3, [], .c (.d (.b false))), (4, [], .c (.d (.s (S [49, 48])))), (5, [], .c (.d (.b false))), (7, [], .c (.d (.s (S [48])))), (9, [], .c (.d (.i 10))), (32, [], .c (.d (.i 2))), (33, [], .c (.d (.i 2)))], [(100, .box 26 [.d (.i 0), .d (.i 0)])]⟩) _ (by kernel_rfl) conj0 (fun hc7 => absurd hc7 (by decide)) (fun _ => ?_)
    refine leaveE hG hmix [] (.exit 0) (⟨[(0, [], .c (.d (.s (S [49, 46, 48])))), (2, [], .c (.bx 100 0)), (3, [], .c (.d (.b false))), (5, [], .c (.d (.b false))), (7, [], .c (.d (.s (S [48])))), (9, [], .c (.d (.i 10)))], [(100, .box 26 [.d (.i 0), .d (.i 0)])]⟩) _ (by kernel_rfl) conj0 rfl ?_
    refine stepC hG hmix [] [1, 0, 1, 1, 1, 1, 1, 1, 1] (false) (⟨[(0, [], .c (.d (.s (S [49, 46, 48])))), (2, [], .c (.bx 100 0)), (3, [], .c (.d (.b false))), (7, [], .c (.d (.s (S [48])))), (9, [], .c (.d (.i 10)))], [(100, .box 26 [.d (.i 0), .d (.i 0)])]⟩) _ (by kernel_rfl) conj0 (fun hc8 => absurd hc8 (by decide)) (fun _ => ?_)
    refine stepC hG hmix [(16, 3, .call (.tup [(true, [.d (.i 1), .d (.i 0)]), (false, [.d (.b true)])]) [] []), (17, 4, .call (.c (.d (.s (S [49])))) [] [])] [1, 0, 1, 1, 1, 1, 1, 1, 1, 1, 1] (true) (⟨[(2, [], .c (.bx 100 0)), (3, [], .c (.d (.b false))), (11, [], .c (.bx 1707 0))], [(100, .box 26 [.d (.i 0), .d (.i 0)]), (1707, .box 26 [.d (.i 1), .d (.i 0)])]⟩) _ (by kernel_rfl) (conjC ((make_10_1 : SpG g _ _ _ _ _)) (conj1 (fun (hg1 : false = false) => ((decText_lit 1 0 [49] (by decide) decT_10 : SpG g _ _ _ _ _))))) (fun _ => ?_) (fun hc9 => absurd hc9 (by decide))
    refine stepR' hG hmix [] [] (.tup [(true, [.d (.i 0), .d (.i 0)]), (false, [.d (.b false)])]) [] (by kernel_rfl) conj0 ?_ ?_
    · rfl
    · rfl
theorem rd_number_1x2e0  :
    SpG g 132 [.c (.bx 0 0)] [(0, .box 90 [.d (.s (S [49, 46, 48]))])] (.tup [(true, [.d (.i 2), .d (.s (S [])), .d (.i 0), .d (.i 0), .d (.i 0), .d (.nil), .d (.nil)]), (false, [.d (.b false)])]) [(0, .box 90 [.d (.s (S []))])] := by
  refine enterB 15 Tryz.func132 (by kernel_rfl) fun fr hG => ?_
  refine stepR' hG hmix [(1, 1, .call (.c (.d (.s (S [49, 46, 48])))) [] [[.s (S [])]]), (1, 2, .call (.tup [(true, [.d (.i 0), .d (.i 0)]), (false, [.d (.b false)])]) [] [])] [] (.tup [(true, [.d (.i 2), .d (.s (S [])), .d (.i 0), .d (.i 0), .d (.i 0), .d (.nil), .d (.nil)]), (false, [.d (.b false)])]) [(0, .box 90 [.d (.s (S []))])] (by kernel_rfl) (conjC ((word_1x2e0 : SpG g _ _ _ _ _)) (conj1 ((parse_1x2e0 : SpG g _ _ _ _ _)))) ?_ ?_
  · rfl
  · rfl
theorem rd_number_1  :
    SpG g 132 [.c (.bx 0 0)] [(0, .box 90 [.d (.s (S [49]))])] (.tup [(true, [.d (.i 2), .d (.s (S [])), .d (.i 1), .d (.i 0), .d (.i 0), .d (.nil), .d (.nil)]), (false, [.d (.b true)])]) [(0, .box 90 [.d (.s (S []))])] := by
  refine enterB 15 Tryz.func132 (by kernel_rfl) fun fr hG => ?_
  refine stepR' hG hmix [(1, 1, .call (.c (.d (.s (S [49])))) [] [[.s (S [])]]), (1, 2, .call (.tup [(true, [.d (.i 1), .d (.i 0)]), (false, [.d (.b true)])]) [] [])] [] (.tup [(true, [.d (.i 2), .d (.s (S [])), .d (.i 1), .d (.i 0), .d (.i 0), .d (.nil), .d (.nil)]), (false, [.d (.b true)])]) [(0, .box 90 [.d (.s (S []))])] (by kernel_rfl) (conjC ((word_1 : SpG g _ _ _ _ _)) (conj1 ((parse_1 : SpG g _ _ _ _ _)))) ?_ ?_
  · rfl
  · rfl
theorem rd_bool_2  :
    SpG g 134 [.c (.bx 0 0)] [(0, .box 90 [.d (.s (S [50]))])] (.tup [(true, [.d (.i 4), .d (.s (S [])), .d (.i 0), .d (.i 0), .d (.i (-1)), .d (.nil), .d (.nil)]), (false, [.d (.b true)])]) [(0, .box 90 [.d (.s (S []))])] := by
  refine enterB 13 Tryz.func134 (by kernel_rfl) fun fr hG => ?_
  refine stepR' hG hmix [(1, 1, .call (.c (.d (.s (S [50])))) [] [[.s (S [])]]), (2, 1, .call (.c (.d (.i (-1)))) [] [])] [] (.tup [(true, [.d (.i 4), .d (.s (S [])), .d (.i 0), .d (.i 0), .d (.i (-1)), .d (.nil), .d (.nil)]), (false, [.d (.b true)])]) [(0, .box 90 [.d (.s (S []))])] (by kernel_rfl) (conjC ((word_2 : SpG g _ _ _ _ _)) (conj1 ((index_lit [48, 49] 50 (-1) (by decide) : SpG g _ _ _ _ _)))) ?_ ?_
  · rfl
  · rfl
theorem rd_text_ax7cbx27x7cx231  :
    SpG g 131 [.c (.bx 0 0)] [(0, .box 90 [.d (.s (S [97, 124, 98, 39, 124, 35, 49]))])] (.tup [(true, [.d (.i 1), .d (.s (S [97, 124, 98])), .d (.i 0), .d (.i 0), .d (.i 0), .d (.nil), .d (.nil)]), (false, [.d (.b true)])]) [(0, .box 90 [.d (.s (S [124, 35, 49]))])] := by
  refine enterB 37 Tryz.func131 (by kernel_rfl) fun fr hG => ?_
  refine stepL hG hmix [] [0, 1, 1] ((fun (zz : Nat) => match zz with | _ => ⟨[(0, [], .c (.bx 0 0)), (2, [], .c (.bx 100 0)), (3, [], .c (.d (.b false))), (4, [], .c (.bx 200 0))], [(0, .box 90 [.d (.s (S [97, 124, 98, 39, 124, 35, 49]))]), (100, .box 30 [.d (.i 0), .d (.s (S [])), .d (.i 0), .d (.i 0), .d (.i 0), .d (.nil), .d (.nil)]), (200, .box 80 [.d (.v (.pointer none)), .d (.nil)])]⟩) 0) _ (by kernel_rfl) conj0 ?_
  refine loopR (σ := Nat) (fun (zz : Nat) => match zz with | k => 1 - k) (fun (zz : Nat) => match zz with | _ => ⟨[(0, [], .c (.bx 0 0)), (2, [], .c (.bx 100 0)), (3, [], .c (.d (.b false))), (4, [], .c (.bx 200 0))], [(0, .box 90 [.d (.s (S [97, 124, 98, 39, 124, 35, 49]))]), (100, .box 30 [.d (.i 0), .d (.s (S [])), .d (.i 0), .d (.i 0), .d (.i 0), .d (.nil), .d (.nil)]), (200, .box 80 [.d (.v (.pointer none)), .d (.nil)])]⟩) (fun (zz : Nat) => match zz with | k => k ≤ 0) 0 (by kernel_rfl) ?_ ?_
  · exact Nat.zero_le _
  rintro k hI
  rcases (by omega : k = 0) with rfl
  · skip
    refine stepC hG hmix [(2, 4, .call (.c (.d (.i 3))) [] [])] [1, 0, 1, 0] (false) (⟨[(0, [], .c (.bx 0 0)), (2, [], .c (.bx 100 0)), (3, [], .c (.d (.b false))), (4, [], .c (.bx 200 0)), (5, [], .c (.d (.i 3)))], [(0, .box 90 [.d (.s (S [97, 124, 98, 39, 124, 35, 49]))]), (100, .box 30 [.d (.i 0), .d (.s (S [])), .d (.i 0), .d (.i 0), .d (.i 0), .d (.nil), .d (.nil)]), (200, .box 80 [.d (.v (.pointer none)), .d (.nil)])]⟩) _ (by kernel_rfl) (conj1 ((indexByte_lit [97, 124, 98, 39, 124, 35, 49] 39 3 (by decide) : SpG g _ _ _ _ _))) (fun hc2 => absurd hc2 (by decide)) (fun _ => ?_)
    refine stepC hG hmix [(5, 6, .callG (.tup [(false, [.d (.i ((S [97, 124, 98]).size : Int))]), (false, [.d (.v (.nilIface))])]) [200] [(0, .box 80 [.bx 0 0, .ar 100 0]), (100, .arr 0 5 1 (bytesD (S [97, 124, 98]).data.toList))]), (7, 1, .call (.c (.d (.b false))) [] [[.s (S [124, 35, 49])]])] [1, 0, 1, 1, 1, 1, 0] (true) (⟨[(0, [], .c (.bx 0 0)), (2, [], .c (.bx 100 0)), (3, [], .c (.d (.b false))), (4, [], .c (.bx 200 0))], [(0, .box 90 [.d (.s (S [124, 35, 49]))]), (100, .box 30 [.d (.i 0), .d (.s (S [])), .d (.i 0), .d (.i 0), .d (.i 0), .d (.nil), .d (.nil)]), (200, .box 80 [.bx 200 0, .ar 606 0]), (606, .arr 0 5 1 (bytesD (S [97, 124, 98]).data.toList))]⟩) _ (by kernel_rfl) (conjC (show (0 : Int) ≤ 0 ∧ (0 : Int) ≤ 3 ∧ 3 ≤ ((S [97, 124, 98, 39, 124, 35, 49]).size : Int) from (by decide)) (conjC ((writeStringN (S [97, 124, 98]) (by decide) : SpG g _ _ _ _ _)) (conjC (show inR (3 + 1) from (by unfold inR; decide)) (conjC (show (0 : Int) ≤ 4 ∧ (4 : Int) ≤ ((S [97, 124, 98, 39, 124, 35, 49]).size : Int) ∧ ((S [97, 124, 98, 39, 124, 35, 49]).size : Int) ≤ ((S [97, 124, 98, 39, 124, 35, 49]).size : Int) from (by decide)) (conj1 ((skip_x7cx231_39 : SpG g _ _ _ _ _))))))) (fun _ => ?_) (fun hc3 => absurd hc3 (by decide))
    refine leaveE hG hmix [(8, 0, .callG (.c (.d (.s (S [97, 124, 98])))) [200, 606] [(0, .box 80 [.bx 0 0, .any]), (1, .arr 0 5 1 (([] : List (List D))))])] .ret (⟨[(2, [], .c (.bx 100 0)), (3, [], .c (.d (.b true)))], [(0, .box 90 [.d (.s (S [124, 35, 49]))]), (100, .box 30 [.d (.i 1), .d (.s (S [97, 124, 98])), .d (.i 0), .d (.i 0), .d (.i 0), .d (.nil), .d (.nil)])]⟩) _ (by kernel_rfl) (conj1 ((builderString (bytesD (S [97, 124, 98]).data.toList) (S [97, 124, 98]) rfl : SpG g _ _ _ _ _))) rfl ?_
    refine stepR' hG hmix [] [] (.tup [(true, [.d (.i 1), .d (.s (S [97, 124, 98])), .d (.i 0), .d (.i 0), .d (.i 0), .d (.nil), .d (.nil)]), (false, [.d (.b true)])]) [(0, .box 90 [.d (.s (S [124, 35, 49]))])] (by kernel_rfl) conj0 ?_ ?_
    · rfl
    · rfl
theorem cell_x231x2e0  :
    SpG g 86 [.c (.bx 0 0)] [(0, .box 90 [.d (.s (S [35, 49, 46, 48]))])] (.tup [(true, [.d (.i 2), .d (.s (S [])), .d (.i 0), .d (.i 0), .d (.i 0), .d (.nil), .d (.nil)]), (false, [.d (.b false)])]) [(0, .box 90 [.d (.s (S []))])] := by
  refine enterB 50 Tryz.func86 (by kernel_rfl) fun fr hG => ?_
  refine stepC hG hmix [] [1, 0, 1] (false) (⟨[(0, [], .c (.bx 0 0)), (2, [], .c (.bx 100 0)), (3, [], .c (.d (.b false)))], [(0, .box 90 [.d (.s (S [35, 49, 46, 48]))]), (100, .box 30 [.d (.i 0), .d (.s (S [])), .d (.i 0), .d (.i 0), .d (.i 0), .d (.nil), .d (.nil)])]⟩) _ (by kernel_rfl) conj0 (fun hc1 => absurd hc1 (by decide)) (fun _ => ?_)
  refine stepC hG hmix [(4, 6, .elem [.i 2])] [1, 0, 1, 1, 1, 1] (false) (⟨[(0, [], .c (.bx 0 0)), (2, [], .c (.bx 100 0)), (3, [], .c (.d (.b false))), (5, [], .c (.fn 132 [(0, 0)] []))], [(0, .box 90 [.d (.s (S [35, 49, 46, 48]))]), (100, .box 30 [.d (.i 0), .d (.s (S [])), .d (.i 0), .d (.i 0), .d (.i 0), .d (.nil), .d (.nil)])]⟩) _ (by kernel_rfl) (conjC (show (0 : Int) ≤ 0 ∧ 0 < ((S [35, 49, 46, 48]).size : Int) from (by decide)) (conj1 (show (35 : Int) = 35 from (by decide)))) (fun hc2 => absurd hc2 (by decide)) (fun _ => ?_)
  refine stepR' hG hmix [(8, 1, .call (.tup [(true, [.d (.i 2), .d (.s (S [])), .d (.i 0), .d (.i 0), .d (.i 0), .d (.nil), .d (.nil)]), (false, [.d (.b false)])]) [] [[.s (S [])]])] [] (.tup [(true, [.d (.i 2), .d (.s (S [])), .d (.i 0), .d (.i 0), .d (.i 0), .d (.nil), .d (.nil)]), (false, [.d (.b false)])]) [(0, .box 90 [.d (.s (S []))])] (by kernel_rfl) (conjC (show (0 : Int) ≤ 1 ∧ (1 : Int) ≤ ((S [35, 49, 46, 48]).size : Int) ∧ ((S [35, 49, 46, 48]).size : Int) ≤ ((S [35, 49, 46, 48]).size : Int) from (by decide)) (conj1 ((rd_number_1x2e0 : SpG g _ _ _ _ _)))) ?_ ?_
  · rfl
  · rfl
theorem cell_x231  :
    SpG g 86 [.c (.bx 0 0)] [(0, .box 90 [.d (.s (S [35, 49]))])] (.tup [(true, [.d (.i 2), .d (.s (S [])), .d (.i 1), .d (.i 0), .d (.i 0), .d (.nil), .d (.nil)]), (false, [.d (.b true)])]) [(0, .box 90 [.d (.s (S []))])] := by
  refine enterB 50 Tryz.func86 (by kernel_rfl) fun fr hG => ?_
  refine stepC hG hmix [] [1, 0, 1] (false) (⟨[(0, [], .c (.bx 0 0)), (2, [], .c (.bx 100 0)), (3, [], .c (.d (.b false)))], [(0, .box 90 [.d (.s (S [35, 49]))]), (100, .box 30 [.d (.i 0), .d (.s (S [])), .d (.i 0), .d (.i 0), .d (.i 0), .d (.nil), .d (.nil)])]⟩) _ (by kernel_rfl) conj0 (fun hc1 => absurd hc1 (by decide)) (fun _ => ?_)
  refine stepC hG hmix [(4, 6, .elem [.i 2])] [1, 0, 1, 1, 1, 1] (false) (⟨[(0, [], .c (.bx 0 0)), (2, [], .c (.bx 100 0)), (3, [], .c (.d (.b false))), (5, [], .c (.fn 132 [(0, 0)] []))], [(0, .box 90 [.d (.s (S [35, 49]))]), (100, .box 30 [.d (.i 0), .d (.s (S [])), .d (.i 0), .d (.i 0), .d (.i 0), .d (.nil), .d (.nil)])]⟩) _ (by kernel_rfl) (conjC (show (0 : Int) ≤ 0 ∧ 0 < ((S [35, 49]).size : Int) from (by decide)) (conj1 (show (35 : Int) = 35 from (by decide)))) (fun hc2 => absurd hc2 (by decide)) (fun _ => ?_)
  refine stepR' hG hmix [(8, 1, .call (.tup [(true, [.d (.i 2), .d (.s (S [])), .d (.i 1), .d (.i 0), .d (.i 0), .d (.nil), .d (.nil)]), (false, [.d (.b true)])]) [] [[.s (S [])]])] [] (.tup [(true, [.d (.i 2), .d (.s (S [])), .d (.i 1), .d (.i 0), .d (.i 0), .d (.nil), .d (.nil)]), (false, [.d (.b true)])]) [(0, .box 90 [.d (.s (S []))])] (by kernel_rfl) (conjC (show (0 : Int) ≤ 1 ∧ (1 : Int) ≤ ((S [35, 49]).size : Int) ∧ ((S [35, 49]).size : Int) ≤ ((S [35, 49]).size : Int) from (by decide)) (conj1 ((rd_number_1 : SpG g _ _ _ _ _)))) ?_ ?_
  · rfl
  · rfl
theorem cell_x3f2  :
    SpG g 86 [.c (.bx 0 0)] [(0, .box 90 [.d (.s (S [63, 50]))])] (.tup [(true, [.d (.i 4), .d (.s (S [])), .d (.i 0), .d (.i 0), .d (.i (-1)), .d (.nil), .d (.nil)]), (false, [.d (.b true)])]) [(0, .box 90 [.d (.s (S []))])] := by
  refine enterB 50 Tryz.func86 (by kernel_rfl) fun fr hG => ?_
  refine stepC hG hmix [] [1, 0, 1] (false) (⟨[(0, [], .c (.bx 0 0)), (2, [], .c (.bx 100 0)), (3, [], .c (.d (.b false)))], [(0, .box 90 [.d (.s (S [63, 50]))]), (100, .box 30 [.d (.i 0), .d (.s (S [])), .d (.i 0), .d (.i 0), .d (.i 0), .d (.nil), .d (.nil)])]⟩) _ (by kernel_rfl) conj0 (fun hc1 => absurd hc1 (by decide)) (fun _ => ?_)
  refine stepC hG hmix [(4, 6, .elem [.i 4])] [1, 0, 1, 1, 1, 1] (false) (⟨[(0, [], .c (.bx 0 0)), (2, [], .c (.bx 100 0)), (3, [], .c (.d (.b false))), (5, [], .c (.fn 134 [(0, 0)] []))], [(0, .box 90 [.d (.s (S [63, 50]))]), (100, .box 30 [.d (.i 0), .d (.s (S [])), .d (.i 0), .d (.i 0), .d (.i 0), .d (.nil), .d (.nil)])]⟩) _ (by kernel_rfl) (conjC (show (0 : Int) ≤ 0 ∧ 0 < ((S [63, 50]).size : Int) from (by decide)) (conj1 (show (63 : Int) = 63 from (by decide)))) (fun hc2 => absurd hc2 (by decide)) (fun _ => ?_)
  refine stepR' hG hmix [(8, 1, .call (.tup [(true, [.d (.i 4), .d (.s (S [])), .d (.i 0), .d (.i 0), .d (.i (-1)), .d (.nil), .d (.nil)]), (false, [.d (.b true)])]) [] [[.s (S [])]])] [] (.tup [(true, [.d (.i 4), .d (.s (S [])), .d (.i 0), .d (.i 0), .d (.i (-1)), .d (.nil), .d (.nil)]), (false, [.d (.b true)])]) [(0, .box 90 [.d (.s (S []))])] (by kernel_rfl) (conjC (show (0 : Int) ≤ 1 ∧ (1 : Int) ≤ ((S [63, 50]).size : Int) ∧ ((S [63, 50]).size : Int) ≤ ((S [63, 50]).size : Int) from (by decide)) (conj1 ((rd_bool_2 : SpG g _ _ _ _ _)))) ?_ ?_
  · rfl
  · rfl
theorem cell_x27ax7cbx27x7cx231  :
    SpG g 86 [.c (.bx 0 0)] [(0, .box 90 [.d (.s (S [39, 97, 124, 98, 39, 124, 35, 49]))])] (.tup [(true, [.d (.i 1), .d (.s (S [97, 124, 98])), .d (.i 0), .d (.i 0), .d (.i 0), .d (.nil), .d (.nil)]), (false, [.d (.b true)])]) [(0, .box 90 [.d (.s (S [124, 35, 49]))])] := by
  refine enterB 50 Tryz.func86 (by kernel_rfl) fun fr hG => ?_
  refine stepC hG hmix [] [1, 0, 1] (false) (⟨[(0, [], .c (.bx 0 0)), (2, [], .c (.bx 100 0)), (3, [], .c (.d (.b false)))], [(0, .box 90 [.d (.s (S [39, 97, 124, 98, 39, 124, 35, 49]))]), (100, .box 30 [.d (.i 0), .d (.s (S [])), .d (.i 0), .d (.i 0), .d (.i 0), .d (.nil), .d (.nil)])]⟩) _ (by kernel_rfl) conj0 (fun hc1 => absurd hc1 (by decide)) (fun _ => ?_)
  refine stepC hG hmix [(4, 6, .elem [.i 1])] [1, 0, 1, 1, 1, 1] (false) (⟨[(0, [], .c (.bx 0 0)), (2, [], .c (.bx 100 0)), (3, [], .c (.d (.b false))), (5, [], .c (.fn 131 [(0, 0)] []))], [(0, .box 90 [.d (.s (S [39, 97, 124, 98, 39, 124, 35, 49]))]), (100, .box 30 [.d (.i 0), .d (.s (S [])), .d (.i 0), .d (.i 0), .d (.i 0), .d (.nil), .d (.nil)])]⟩) _ (by kernel_rfl) (conjC (show (0 : Int) ≤ 0 ∧ 0 < ((S [39, 97, 124, 98, 39, 124, 35, 49]).size : Int) from (by decide)) (conj1 (show (39 : Int) = 39 from (by decide)))) (fun hc2 => absurd hc2 (by decide)) (fun _ => ?_)
  refine stepR' hG hmix [(8, 1, .call (.tup [(true, [.d (.i 1), .d (.s (S [97, 124, 98])), .d (.i 0), .d (.i 0), .d (.i 0), .d (.nil), .d (.nil)]), (false, [.d (.b true)])]) [] [[.s (S [124, 35, 49])]])] [] (.tup [(true, [.d (.i 1), .d (.s (S [97, 124, 98])), .d (.i 0), .d (.i 0), .d (.i 0), .d (.nil), .d (.nil)]), (false, [.d (.b true)])]) [(0, .box 90 [.d (.s (S [124, 35, 49]))])] (by kernel_rfl) (conjC (show (0 : Int) ≤ 1 ∧ (1 : Int) ≤ ((S [39, 97, 124, 98, 39, 124, 35, 49]).size : Int) ∧ ((S [39, 97, 124, 98, 39, 124, 35, 49]).size : Int) ≤ ((S [39, 97, 124, 98, 39, 124, 35, 49]).size : Int) from (by decide)) (conj1 ((rd_text_ax7cbx27x7cx231 : SpG g _ _ _ _ _)))) ?_ ?_
  · rfl
  · rfl
theorem value_x231x2e0  :
    SpG g 52 [.c (.bx 0 0)] [(0, .box 90 [.d (.s (S [35, 49, 46, 48]))])] (.tup [(true, [.d (.i 2), .d (.s (S [])), .d (.i 0), .d (.i 0), .d (.i 0), .d (.nil), .d (.nil)]), (false, [.d (.b false)])]) [(0, .box 90 [.d (.s (S []))])] := by
  refine enterB 14 Tryz.func52 (by kernel_rfl) fun fr hG => ?_
  refine stepC hG hmix [(1, 1, .call (.c (.d (.b false))) [] [[.s (S [35, 49, 46, 48])]])] [1, 0, 1] (false) (⟨[(0, [], .c (.bx 0 0)), (2, [], .c (.bx 100 0)), (3, [], .c (.d (.b false)))], [(0, .box 90 [.d (.s (S [35, 49, 46, 48]))]), (100, .box 30 [.d (.i 0), .d (.s (S [])), .d (.i 0), .d (.i 0), .d (.i 0), .d (.nil), .d (.nil)])]⟩) _ (by kernel_rfl) (conj1 ((skip_x231x2e0_91 : SpG g _ _ _ _ _))) (fun hc1 => absurd hc1 (by decide)) (fun _ => ?_)
  refine stepR' hG hmix [(3, 1, .call (.tup [(true, [.d (.i 2), .d (.s (S [])), .d (.i 0), .d (.i 0), .d (.i 0), .d (.nil), .d (.nil)]), (false, [.d (.b false)])]) [] [[.s (S [])]])] [] (.tup [(true, [.d (.i 2), .d (.s (S [])), .d (.i 0), .d (.i 0), .d (.i 0), .d (.nil), .d (.nil)]), (false, [.d (.b false)])]) [(0, .box 90 [.d (.s (S []))])] (by kernel_rfl) (conj1 ((cell_x231x2e0 : SpG g _ _ _ _ _))) ?_ ?_
  · rfl
  · rfl
theorem value_x231  :
    SpG g 52 [.c (.bx 0 0)] [(0, .box 90 [.d (.s (S [35, 49]))])] (.tup [(true, [.d (.i 2), .d (.s (S [])), .d (.i 1), .d (.i 0), .d (.i 0), .d (.nil), .d (.nil)]), (false, [.d (.b true)])]) [(0, .box 90 [.d (.s (S []))])] := by
  refine enterB 14 Tryz.func52 (by kernel_rfl) fun fr hG => ?_
  refine stepC hG hmix [(1, 1, .call (.c (.d (.b false))) [] [[.s (S [35, 49])]])] [1, 0, 1] (false) (⟨[(0, [], .c (.bx 0 0)), (2, [], .c (.bx 100 0)), (3, [], .c (.d (.b false)))], [(0, .box 90 [.d (.s (S [35, 49]))]), (100, .box 30 [.d (.i 0), .d (.s (S [])), .d (.i 0), .d (.i 0), .d (.i 0), .d (.nil), .d (.nil)])]⟩) _ (by kernel_rfl) (conj1 ((skip_x231_91 : SpG g _ _ _ _ _))) (fun hc1 => absurd hc1 (by decide)) (fun _ => ?_)
  refine stepR' hG hmix [(3, 1, .call (.tup [(true, [.d (.i 2), .d (.s (S [])), .d (.i 1), .d (.i 0), .d (.i 0), .d (.nil), .d (.nil)]), (false, [.d (.b true)])]) [] [[.s (S [])]])] [] (.tup [(true, [.d (.i 2), .d (.s (S [])), .d (.i 1), .d (.i 0), .d (.i 0), .d (.nil), .d (.nil)]), (false, [.d (.b true)])]) [(0, .box 90 [.d (.s (S []))])] (by kernel_rfl) (conj1 ((cell_x231 : SpG g _ _ _ _ _))) ?_ ?_
  · rfl
  · rfl
theorem value_x3f2  :
    SpG g 52 [.c (.bx 0 0)] [(0, .box 90 [.d (.s (S [63, 50]))])] (.tup [(true, [.d (.i 4), .d (.s (S [])), .d (.i 0), .d (.i 0), .d (.i (-1)), .d (.nil), .d (.nil)]), (false, [.d (.b true)])]) [(0, .box 90 [.d (.s (S []))])] := by
  refine enterB 14 Tryz.func52 (by kernel_rfl) fun fr hG => ?_
  refine stepC hG hmix [(1, 1, .call (.c (.d (.b false))) [] [[.s (S [63, 50])]])] [1, 0, 1] (false) (⟨[(0, [], .c (.bx 0 0)), (2, [], .c (.bx 100 0)), (3, [], .c (.d (.b false)))], [(0, .box 90 [.d (.s (S [63, 50]))]), (100, .box 30 [.d (.i 0), .d (.s (S [])), .d (.i 0), .d (.i 0), .d (.i 0), .d (.nil), .d (.nil)])]⟩) _ (by kernel_rfl) (conj1 ((skip_x3f2_91 : SpG g _ _ _ _ _))) (fun hc1 => absurd hc1 (by decide)) (fun _ => ?_)
  refine stepR' hG hmix [(3, 1, .call (.tup [(true, [.d (.i 4), .d (.s (S [])), .d (.i 0), .d (.i 0), .d (.i (-1)), .d (.nil), .d (.nil)]), (false, [.d (.b true)])]) [] [[.s (S [])]])] [] (.tup [(true, [.d (.i 4), .d (.s (S [])), .d (.i 0), .d (.i 0), .d (.i (-1)), .d (.nil), .d (.nil)]), (false, [.d (.b true)])]) [(0, .box 90 [.d (.s (S []))])] (by kernel_rfl) (conj1 ((cell_x3f2 : SpG g _ _ _ _ _))) ?_ ?_
  · rfl
  · rfl
theorem value_x27ax7cbx27x7cx231  :
    SpG g 52 [.c (.bx 0 0)] [(0, .box 90 [.d (.s (S [39, 97, 124, 98, 39, 124, 35, 49]))])] (.tup [(true, [.d (.i 1), .d (.s (S [97, 124, 98])), .d (.i 0), .d (.i 0), .d (.i 0), .d (.nil), .d (.nil)]), (false, [.d (.b true)])]) [(0, .box 90 [.d (.s (S [124, 35, 49]))])] := by
  refine enterB 14 Tryz.func52 (by kernel_rfl) fun fr hG => ?_
  refine stepC hG hmix [(1, 1, .call (.c (.d (.b false))) [] [[.s (S [39, 97, 124, 98, 39, 124, 35, 49])]])] [1, 0, 1] (false) (⟨[(0, [], .c (.bx 0 0)), (2, [], .c (.bx 100 0)), (3, [], .c (.d (.b false)))], [(0, .box 90 [.d (.s (S [39, 97, 124, 98, 39, 124, 35, 49]))]), (100, .box 30 [.d (.i 0), .d (.s (S [])), .d (.i 0), .d (.i 0), .d (.i 0), .d (.nil), .d (.nil)])]⟩) _ (by kernel_rfl) (conj1 ((skip_x27ax7cbx27x7cx231_91 : SpG g _ _ _ _ _))) (fun hc1 => absurd hc1 (by decide)) (fun _ => ?_)
  refine stepR' hG hmix [(3, 1, .call (.tup [(true, [.d (.i 1), .d (.s (S [97, 124, 98])), .d (.i 0), .d (.i 0), .d (.i 0), .d (.nil), .d (.nil)]), (false, [.d (.b true)])]) [] [[.s (S [124, 35, 49])]])] [] (.tup [(true, [.d (.i 1), .d (.s (S [97, 124, 98])), .d (.i 0), .d (.i 0), .d (.i 0), .d (.nil), .d (.nil)]), (false, [.d (.b true)])]) [(0, .box 90 [.d (.s (S [124, 35, 49]))])] (by kernel_rfl) (conj1 ((cell_x27ax7cbx27x7cx231 : SpG g _ _ _ _ _))) ?_ ?_
  · rfl
  · rfl
theorem valRowText_ok (l : List Vl) (hf : ∀ v, v ∈ l → v.fit) :
    SpG g 20 [.c (.d (.sl 7 (valsD l)))] [] (.c (.d (.s (S (rowTextB l))))) [] := by
  refine enterB 20 Tryz.func20 (by kernel_rfl) fun fr hG => ?_
  refine stepLen 0 rfl fun hl0 => ?_
  refine stepC hG hmix [] [1, 0, 1] (decide ((((valsD l).length : Int) : Int) > 8)) (⟨[(0, [], .c (.d (.sl 7 (valsD l)))), (2, [], .c (.d (.s (S []))))], []⟩) _ (by kernel_rfl) conj0 (fun hc1 => ?_) (fun hc1 => ?_)
  · (try simp only [blS, S_eqv, S_eqf, strs, rowD, rowsD, valsD, List.length_map] at hc1)
    refine stepR' hG hmix [] [] (.c (.d (.s (S [])))) [] (by kernel_rfl) conj0 ?_ ?_
    · rw [rowTextB_long (by omega)]
    · rfl
  · (try simp only [blS, S_eqv, S_eqf, strs, rowD, rowsD, valsD, List.length_map] at hc1)
    refine stepL hG hmix [] [0, 1, 0, 1, 1] ((fun (zz : Nat) => match zz with | k => ⟨[(0, [], .c (.d (.sl 7 (valsD l)))), (2, [], .c (.d (.s (S [])))), (8, [], .c (.d (.sl 7 (valsD l)))), (9, [], .c (.d (.i ((valsD l).length : Int)))), (10, [], .c (.d (.i (k : Int))))], []⟩) 0) _ (by kernel_rfl) conj0 ?_
    refine loopR (σ := Nat) (fun (zz : Nat) => match zz with | k => l.length - k) (fun (zz : Nat) => match zz with | k => ⟨[(0, [], .c (.d (.sl 7 (valsD l)))), (2, [], .c (.d (.s (S [])))), (8, [], .c (.d (.sl 7 (valsD l)))), (9, [], .c (.d (.i ((valsD l).length : Int)))), (10, [], .c (.d (.i (k : Int))))], []⟩) (fun (zz : Nat) => match zz with | k => k ≤ l.length ∧ ∀ j, j < k → rightB (l.getD j Vl.z) = true) 0 (by kernel_rfl) ?_ ?_
    · exact ⟨Nat.zero_le _, fun j hj => by omega⟩
    rintro k ⟨hk, hn⟩
    refine stepC hG hmix [] [0, 1] (decide (((k : Int) : Int) < ((valsD l).length : Int))) (⟨[(0, [], .c (.d (.sl 7 (valsD l)))), (2, [], .c (.d (.s (S [])))), (8, [], .c (.d (.sl 7 (valsD l)))), (9, [], .c (.d (.i ((valsD l).length : Int)))), (10, [], .c (.d (.i (k : Int))))], []⟩) _ (by kernel_rfl) conj0 (fun hc3 => ?_) (fun hc3 => ?_)
    · (try simp only [blS, S_eqv, S_eqf, strs, rowD, rowsD, valsD, List.length_map] at hc3)
      refine stepC hG hmix [(5, 0, .elem (VlD ((l).getD k Vl.z))), (6, 1, .call (.c (.d (.b (rightB ((l).getD k Vl.z))))) [] [])] [1, 1, 0, 0, 1, 1] (!(rightB ((l).getD k Vl.z))) (⟨[(0, [], .c (.d (.sl 7 (valsD l)))), (2, [], .c (.d (.s (S [])))), (8, [], .c (.d (.sl 7 (valsD l)))), (9, [], .c (.d (.i ((valsD l).length : Int)))), (10, [], .c (.d (.i (k : Int))))], []⟩) _ (by kernel_rfl) (conjC (show (0 : Int) ≤ (k : Int) ∧ (valsD l)[k]? = some (VlD ((l).getD k Vl.z)) from (by intros; exact map_at _ (by omega) (by (try simp only [rowD, rowsD, valsD, strs, List.length_map] at *); omega))) (conj1 ((right_ok ((l).getD k Vl.z) (hf _ (getD_mem (by omega))) : SpG g _ _ _ _ _)))) (fun hc4 => ?_) (fun hc4 => ?_)
      · (try simp only [blS, S_eqv, S_eqf, strs, rowD, rowsD, valsD, List.length_map] at hc4)
        refine leaveE hG hmix [] .ret (⟨[(0, [], .c (.d (.sl 7 (valsD l)))), (2, [], .c (.d (.s (S []))))], []⟩) _ (by kernel_rfl) conj0 rfl ?_
        refine stepR' hG hmix [] [] (.c (.d (.s (S [])))) [] (by kernel_rfl) conj0 ?_ ?_
        · rw [rowTextB_bad (k := k) (by omega) (by simpa using hc4)]
        · rfl
      · (try simp only [blS, S_eqv, S_eqf, strs, rowD, rowsD, valsD, List.length_map] at hc4)
        refine roundE hG hmix [] (k + 1) _ (by kernel_rfl) (conj1 (show inR ((k : Int) + 1) from (by intros; (try simp only [inR, maxLen, valsD, List.length_map] at *); omega))) ?_ ?_
        · (try dsimp only); omega
        · exact ⟨by omega, below_succ hn (by simpa using hc4)⟩
    · (try simp only [blS, S_eqv, S_eqf, strs, rowD, rowsD, valsD, List.length_map] at hc3)
      refine leaveE hG hmix [] (.exit 0) (⟨[(0, [], .c (.d (.sl 7 (valsD l)))), (2, [], .c (.d (.s (S []))))], []⟩) _ (by kernel_rfl) conj0 rfl ?_
      refine stepR' hG hmix [(9, 1, .call (.c (.d (.s (S (joinL [124] (l.map textB)))))) [] [])] [] (.c (.d (.s (S (joinL [124] (l.map textB)))))) [] (by kernel_rfl) (conj1 ((valJoin_of l [124] (by omega) (Nat.le_trans (texts_len (by omega)) (by decide)) hf decText_ok dateText_ok : SpG g _ _ _ _ _))) ?_ ?_
      · rw [rowTextB_ok (by omega) (fun j hj => hn j (by omega))]
      · rfl
theorem fit_lit {v : Vl} (h : decide (v.s.length ≤ 1000) = true) (hc : v.cols = []) (hr : v.rows = []) : v.fit := by
  refine ⟨?_, ?_, ?_⟩
  · simp only [decide_eq_true_eq] at h; unfold maxLen; omega
  · rw [hc]; intro t ht; cases ht
  · rw [hr]; intro t ht; cases ht
def exA : Vl := ⟨1, [97, 124, 98], 0, 0, 0, [], []⟩
def exB : Vl := ⟨2, [], 1, 0, 0, [], []⟩
theorem exA_text : textB exA = [39, 97, 124, 98, 39] := by rw [textB, if_pos (by decide)]; rfl
theorem exB_text : textB exB = [35, 49] := by
  have : textB exB = 35 :: decT 1 0 := by rw [textB, if_pos (by decide)]; rfl
  rw [this, decT_10]
theorem exAB_fit : ∀ v, v ∈ [exA, exB] → v.fit := by
  intro v hv
  simp only [List.mem_cons, List.not_mem_nil, or_false] at hv
  rcases hv with rfl | rfl
  · exact fit_lit (by decide) rfl rfl
  · exact fit_lit (by decide) rfl rfl
theorem exAB_text : rowTextB [exA, exB] = [39, 97, 124, 98, 39, 124, 35, 49] := by
  rw [rowTextB, if_pos (by decide), List.map_cons, List.map_cons, exA_text, exB_text]; rfl
theorem rowText_lit : SpG g 20 [.c (.d (.sl 7 (valsD [exA, exB])))] [] (.c (.d (.s (S [39, 97, 124, 98, 39, 124, 35, 49])))) [] := by
  rw [← exAB_text]; exact valRowText_ok _ exAB_fit
theorem read_x231x2e0  :
    SpG g 16 [.c (.d (.s (S [35, 49, 46, 48])))] [] (.tup [(true, [.d (.i 0), .d (.s (S [])), .d (.i 0), .d (.i 0), .d (.i 0), .d (.nil), .d (.nil)]), (false, [.d (.b false)])]) [] := by
  refine enterB 37 Tryz.func16 (by kernel_rfl) fun fr hG => ?_
  refine stepC hG hmix [(2, 1, .call (.tup [(true, [.d (.i 2), .d (.s (S [])), .d (.i 0), .d (.i 0), .d (.i 0), .d (.nil), .d (.nil)]), (false, [.d (.b false)])]) [] [[.s (S [])]]), (3, 11, .call (.c (.d (.b false))) [] []), (3, 16, .call (.c (.d (.s (S [])))) [] [])] [1, 0, 1, 1, 1] (true) (⟨[(2, [], .c (.bx 100 0)), (3, [], .c (.d (.b false))), (5, [], .c (.bx 305 0))], [(100, .box 30 [.d (.i 0), .d (.s (S [])), .d (.i 0), .d (.i 0), .d (.i 0), .d (.nil), .d (.nil)]), (305, .box 30 [.d (.i 2), .d (.s (S [])), .d (.i 0), .d (.i 0), .d (.i 0), .d (.nil), .d (.nil)])]⟩) _ (by kernel_rfl) (conjC ((value_x231x2e0 : SpG g _ _ _ _ _)) (conjC (show true = false → SpG g 13 [.agg [.d (.i 2), .d (.s (S [])), .d (.i 0), .d (.i 0), .d (.i 0), .d (.nil), .d (.nil)]] [] (.c (.d (.b false))) [] from fun hg1 => absurd hg1 (by decide)) (conj1 (show true = false → SpG g 15 [.agg [.d (.i 2), .d (.s (S [])), .d (.i 0), .d (.i 0), .d (.i 0), .d (.nil), .d (.nil)]] [] (.c (.d (.s (S [])))) [] from fun hg1 => absurd hg1 (by decide))))) (fun _ => ?_) (fun hc1 => absurd hc1 (by decide))
  refine stepR' hG hmix [] [] (.tup [(true, [.d (.i 0), .d (.s (S [])), .d (.i 0), .d (.i 0), .d (.i 0), .d (.nil), .d (.nil)]), (false, [.d (.b false)])]) [] (by kernel_rfl) conj0 ?_ ?_
  · rfl
  · rfl
theorem read_x3f2  :
    SpG g 16 [.c (.d (.s (S [63, 50])))] [] (.tup [(true, [.d (.i 0), .d (.s (S [])), .d (.i 0), .d (.i 0), .d (.i 0), .d (.nil), .d (.nil)]), (false, [.d (.b false)])]) [] := by
  refine enterB 37 Tryz.func16 (by kernel_rfl) fun fr hG => ?_
  refine stepC hG hmix [(2, 1, .call (.tup [(true, [.d (.i 4), .d (.s (S [])), .d (.i 0), .d (.i 0), .d (.i (-1)), .d (.nil), .d (.nil)]), (false, [.d (.b true)])]) [] [[.s (S [])]]), (3, 11, .call (.c (.d (.b false))) [] []), (3, 16, .call (.c (.d (.s (S [])))) [] [])] [1, 0, 1, 1, 1] (true) (⟨[(2, [], .c (.bx 100 0)), (3, [], .c (.d (.b false))), (5, [], .c (.bx 305 0))], [(100, .box 30 [.d (.i 0), .d (.s (S [])), .d (.i 0), .d (.i 0), .d (.i 0), .d (.nil), .d (.nil)]), (305, .box 30 [.d (.i 4), .d (.s (S [])), .d (.i 0), .d (.i 0), .d (.i (-1)), .d (.nil), .d (.nil)])]⟩) _ (by kernel_rfl) (conjC ((value_x3f2 : SpG g _ _ _ _ _)) (conjC (fun (hg1 : false = false) => ((spec_mask (ins := [.agg [.d (.i 4), .d (.s (S [])), .d (.i 0), .d (.i 0), .d (.i (-1)), .d (.nil), .d (.nil)]]) [[none, none, none, none, none, some 1, some 1]] (right_lit ⟨4, [], 0, 0, -1, [], []⟩ (fit_lit (by decide) rfl rfl) false (by decide)) : SpG g _ _ _ _ _))) (conj1 (show true = false → SpG g 15 [.agg [.d (.i 4), .d (.s (S [])), .d (.i 0), .d (.i 0), .d (.i (-1)), .d (.nil), .d (.nil)]] [] (.c (.d (.s (S [])))) [] from fun hg1 => absurd hg1 (by decide))))) (fun _ => ?_) (fun hc1 => absurd hc1 (by decide))
  refine stepR' hG hmix [] [] (.tup [(true, [.d (.i 0), .d (.s (S [])), .d (.i 0), .d (.i 0), .d (.i 0), .d (.nil), .d (.nil)]), (false, [.d (.b false)])]) [] (by kernel_rfl) conj0 ?_ ?_
  · rfl
  · rfl
theorem readRow_lit  :
    SpG g 22 [.c (.d (.s (S [39, 97, 124, 98, 39, 124, 35, 49])))] [] (.tup [(false, [.d (.sl 7 (valsD ([exA, exB])))]), (false, [.d (.b true)])]) [] := by
  refine enterB 35 Tryz.func22 (by kernel_rfl) fun fr hG => ?_
  refine stepC hG hmix [] [1, 0, 1] (false) (⟨[(0, [], .c (.d (.s (S [39, 97, 124, 98, 39, 124, 35, 49])))), (2, [], .c (.d (.nil))), (3, [], .c (.d (.b false)))], []⟩) _ (by kernel_rfl) conj0 (fun hc1 => absurd hc1 (by decide)) (fun _ => ?_)
  refine stepL hG hmix [] [0, 0, 1, 1, 1, 1] ((fun (zz : Nat) => match zz with | 0 => ⟨[(0, [], .c (.d (.s (S [39, 97, 124, 98, 39, 124, 35, 49])))), (2, [], .c (.d (.nil))), (3, [], .c (.d (.b false))), (4, [], .c (.bx 402 0)), (5, [], .c (.d (.nil)))], [(402, .box 90 [.d (.s (S [39, 97, 124, 98, 39, 124, 35, 49]))])]⟩ | _ => ⟨[(0, [], .c (.d (.s (S [39, 97, 124, 98, 39, 124, 35, 49])))), (2, [], .c (.d (.nil))), (3, [], .c (.d (.b false))), (4, [], .c (.bx 402 0)), (5, [], .c (.ar 1003 0))], [(402, .box 90 [.d (.s (S [35, 49]))]), (1003, .arr 0 30 7 (([[.i 1, .s (S [97, 124, 98]), .i 0, .i 0, .i 0, .sl 1 ([]), .sl 1 ([])]] : List (List D))))]⟩) 0) _ (by kernel_rfl) conj0 ?_
  refine loopR (σ := Nat) (fun (zz : Nat) => match zz with | k => 2 - k) (fun (zz : Nat) => match zz with | 0 => ⟨[(0, [], .c (.d (.s (S [39, 97, 124, 98, 39, 124, 35, 49])))), (2, [], .c (.d (.nil))), (3, [], .c (.d (.b false))), (4, [], .c (.bx 402 0)), (5, [], .c (.d (.nil)))], [(402, .box 90 [.d (.s (S [39, 97, 124, 98, 39, 124, 35, 49]))])]⟩ | _ => ⟨[(0, [], .c (.d (.s (S [39, 97, 124, 98, 39, 124, 35, 49])))), (2, [], .c (.d (.nil))), (3, [], .c (.d (.b false))), (4, [], .c (.bx 402 0)), (5, [], .c (.ar 1003 0))], [(402, .box 90 [.d (.s (S [35, 49]))]), (1003, .arr 0 30 7 (([[.i 1, .s (S [97, 124, 98]), .i 0, .i 0, .i 0, .sl 1 ([]), .sl 1 ([])]] : List (List D))))]⟩) (fun (zz : Nat) => match zz with | k => k ≤ 1) 0 (by kernel_rfl) ?_ ?_
  · exact Nat.zero_le _
  rintro k hI
  rcases (by omega : k = 0 ∨ k = 1) with rfl | rfl
  · skip
    refine stepC hG hmix [] [1, 0] (true) (⟨[(0, [], .c (.d (.s (S [39, 97, 124, 98, 39, 124, 35, 49])))), (2, [], .c (.d (.nil))), (3, [], .c (.d (.b false))), (4, [], .c (.bx 402 0)), (5, [], .c (.d (.nil)))], [(402, .box 90 [.d (.s (S [39, 97, 124, 98, 39, 124, 35, 49]))])]⟩) _ (by kernel_rfl) conj0 (fun _ => ?_) (fun hc3 => absurd hc3 (by decide))
    refine stepC hG hmix [(6, 1, .call (.tup [(true, [.d (.i 1), .d (.s (S [97, 124, 98])), .d (.i 0), .d (.i 0), .d (.i 0), .d (.nil), .d (.nil)]), (false, [.d (.b true)])]) [] [[.s (S [124, 35, 49])]])] [1, 0, 1, 0, 1] (false) (⟨[(0, [], .c (.d (.s (S [39, 97, 124, 98, 39, 124, 35, 49])))), (2, [], .c (.d (.nil))), (3, [], .c (.d (.b false))), (4, [], .c (.bx 402 0)), (5, [], .c (.d (.nil))), (6, [], .c (.bx 705 0))], [(402, .box 90 [.d (.s (S [124, 35, 49]))]), (705, .box 30 [.d (.i 1), .d (.s (S [97, 124, 98])), .d (.i 0), .d (.i 0), .d (.i 0), .d (.nil), .d (.nil)])]⟩) _ (by kernel_rfl) (conj1 ((value_x27ax7cbx27x7cx231 : SpG g _ _ _ _ _))) (fun hc4 => absurd hc4 (by decide)) (fun _ => ?_)
    refine stepC hG hmix [(9, 2, .mask [none, none, none, none, none, some 1, some 1]), (10, 1, .call (.c (.d (.b true))) [] [[.s (S [35, 49])]])] [1, 1, 1, 1, 0, 1] (false) (⟨[(0, [], .c (.d (.s (S [39, 97, 124, 98, 39, 124, 35, 49])))), (2, [], .c (.d (.nil))), (3, [], .c (.d (.b false))), (4, [], .c (.bx 402 0)), (5, [], .c (.ar 1003 0))], [(402, .box 90 [.d (.s (S [35, 49]))]), (1003, .arr 0 30 7 (([[.i 1, .s (S [97, 124, 98]), .i 0, .i 0, .i 0, .sl 1 ([]), .sl 1 ([])]] : List (List D))))]⟩) _ (by kernel_rfl) (conjC (show (([[.i 1, .s (S [97, 124, 98]), .i 0, .i 0, .i 0, .sl 1 ([]), .sl 1 ([])]] : List (List D))).length * (96 + 1) ≤ 140737488355328 from (by intros; first | decide | (unfold inR; decide))) (conj1 ((skip_x7cx231_124 : SpG g _ _ _ _ _)))) (fun hc5 => absurd hc5 (by decide)) (fun _ => ?_)
    refine roundE hG hmix [] 1 _ (by kernel_rfl) conj0 ?_ ?_
    · decide
    · decide
  · skip
    refine stepC hG hmix [] [1, 0] (decide ((((([[.i 1, .s (S [97, 124, 98]), .i 0, .i 0, .i 0, .sl 1 ([]), .sl 1 ([])]] : List (List D))).length : Int) : Int) < 8)) (⟨[(0, [], .c (.d (.s (S [39, 97, 124, 98, 39, 124, 35, 49])))), (2, [], .c (.d (.nil))), (3, [], .c (.d (.b false))), (4, [], .c (.bx 402 0)), (5, [], .c (.ar 1003 0))], [(402, .box 90 [.d (.s (S [35, 49]))]), (1003, .arr 0 30 7 (([[.i 1, .s (S [97, 124, 98]), .i 0, .i 0, .i 0, .sl 1 ([]), .sl 1 ([])]] : List (List D))))]⟩) _ (by kernel_rfl) conj0 (fun hc6 => ?_) (fun hc6 => ?_)
    · (try simp only [blS] at hc6)
      refine stepC hG hmix [(6, 1, .call (.tup [(true, [.d (.i 2), .d (.s (S [])), .d (.i 1), .d (.i 0), .d (.i 0), .d (.nil), .d (.nil)]), (false, [.d (.b true)])]) [] [[.s (S [])]])] [1, 0, 1, 0, 1] (false) (⟨[(0, [], .c (.d (.s (S [39, 97, 124, 98, 39, 124, 35, 49])))), (2, [], .c (.d (.nil))), (3, [], .c (.d (.b false))), (4, [], .c (.bx 402 0)), (5, [], .c (.ar 1003 0)), (6, [], .c (.bx 705 0))], [(402, .box 90 [.d (.s (S []))]), (705, .box 30 [.d (.i 2), .d (.s (S [])), .d (.i 1), .d (.i 0), .d (.i 0), .d (.nil), .d (.nil)]), (1003, .arr 0 30 7 (([[.i 1, .s (S [97, 124, 98]), .i 0, .i 0, .i 0, .sl 1 ([]), .sl 1 ([])]] : List (List D))))]⟩) _ (by kernel_rfl) (conj1 ((value_x231 : SpG g _ _ _ _ _))) (fun hc7 => absurd hc7 (by decide)) (fun _ => ?_)
      refine stepC hG hmix [(9, 2, .mask [none, none, none, none, none, some 1, some 1]), (10, 1, .call (.c (.d (.b false))) [] [[.s (S [])]])] [1, 1, 1, 1, 0, 1] (true) (⟨[(0, [], .c (.d (.s (S [39, 97, 124, 98, 39, 124, 35, 49])))), (2, [], .c (.d (.nil))), (3, [], .c (.d (.b false))), (4, [], .c (.bx 402 0)), (5, [], .c (.ar 1003 0))], [(402, .box 90 [.d (.s (S []))]), (1003, .arr 0 30 7 (([[.i 1, .s (S [97, 124, 98]), .i 0, .i 0, .i 0, .sl 1 ([]), .sl 1 ([])]] : List (List D)) ++ ([[.i 2, .s (S []), .i 1, .i 0, .i 0, .sl 1 ([]), .sl 1 ([])]] : List (List D))))]⟩) _ (by kernel_rfl) (conjC (show ((([[.i 1, .s (S [97, 124, 98]), .i 0, .i 0, .i 0, .sl 1 ([]), .sl 1 ([])]] : List (List D))).length + (([[.i 2, .s (S []), .i 1, .i 0, .i 0, .sl 1 ([]), .sl 1 ([])]] : List (List D))).length) * (96 + 1) ≤ 140737488355328 from (by intros; first | decide | (unfold inR; decide))) (conj1 ((skip__124 : SpG g _ _ _ _ _)))) (fun _ => ?_) (fun hc8 => absurd hc8 (by decide))
      refine leaveE hG hmix [] (.exit 0) (⟨[(0, [], .c (.d (.s (S [39, 97, 124, 98, 39, 124, 35, 49])))), (2, [], .c (.d (.nil))), (3, [], .c (.d (.b false))), (5, [], .c (.ar 1003 0))], [(1003, .arr 0 30 7 (([[.i 1, .s (S [97, 124, 98]), .i 0, .i 0, .i 0, .sl 1 ([]), .sl 1 ([])]] : List (List D)) ++ ([[.i 2, .s (S []), .i 1, .i 0, .i 0, .sl 1 ([]), .sl 1 ([])]] : List (List D))))]⟩) _ (by kernel_rfl) conj0 rfl ?_
      refine stepC hG hmix [(11, 1, .call (.c (.d (.s (S [39, 97, 124, 98, 39, 124, 35, 49])))) [] [])] [1, 0, 1, 1, 1, 1, 1] (false) (⟨[(2, [], .c (.d (.nil))), (3, [], .c (.d (.b false))), (5, [], .c (.ar 1003 0))], [(1003, .arr 0 30 7 (([[.i 1, .s (S [97, 124, 98]), .i 0, .i 0, .i 0, .sl 1 ([]), .sl 1 ([])]] : List (List D)) ++ ([[.i 2, .s (S []), .i 1, .i 0, .i 0, .sl 1 ([]), .sl 1 ([])]] : List (List D))))]⟩) _ (by kernel_rfl) (conj1 ((rowText_lit : SpG g _ _ _ _ _))) (fun hc9 => absurd hc9 (by decide)) (fun _ => ?_)
      refine stepR' hG hmix [] [] (.tup [(false, [.d (.sl 7 (([[.i 1, .s (S [97, 124, 98]), .i 0, .i 0, .i 0, .sl 1 ([]), .sl 1 ([])]] : List (List D)) ++ ([[.i 2, .s (S []), .i 1, .i 0, .i 0, .sl 1 ([]), .sl 1 ([])]] : List (List D))))]), (false, [.d (.b true)])]) [] (by kernel_rfl) conj0 ?_ ?_
      · rfl
      · rfl
    · (try simp only [blS] at hc6)
      exact absurd (by decide) hc6
end Go.Proofs.YtmpgfchkkemngaaGreatDoor
namespace Go.Proofs.YtmpgfchkkemngaaGreatDoor
open Go.RowKit Go.V
open Go.Eng (inR byteAt u8 bytesV)
variable {g : Gv}
theorem text_lit (v : Vl) (r : List UInt8) (hf : v.fit) (h : textB v = r) : SpG g 15 [vArg v] [] (.c (.d (.s (S r)))) [] := by
  rw [← h]; exact valText_all v hf
def ex1 : Vl := ⟨0, [], 0, 0, 18, [], []⟩
def ex2 : Vl := ⟨0, [], 0, 0, 0, [], []⟩
def ex3 : Vl := ⟨1, [105, 116, 39, 115], 0, 0, 0, [], []⟩
def ex4 : Vl := ⟨2, [], 35, 1, 0, [], []⟩
def ex5 : Vl := ⟨3, [], 0, 0, 0, [], []⟩
def ex6 : Vl := ⟨4, [], 0, 0, 1, [], []⟩
def exX : Cl := ⟨1, [120], 0, 0, 0⟩
def exY : Cl := ⟨2, [], 2, 0, 0⟩
def ex7 : Vl := ⟨5, [], 0, 0, 0, [[97], [98]], [[exX, exY]]⟩
theorem ex1_text : textB ex1 = [33, 49, 56] := by rw [textB, if_pos (by decide)]; rfl
theorem ex2_text : textB ex2 = [33, 48] := by rw [textB, if_pos (by decide)]; rfl
theorem ex3_text : textB ex3 = [39, 105, 116, 39, 39, 115, 39] := by rw [textB, if_pos (by decide)]; rfl
theorem ex4_text : textB ex4 = [35, 51, 46, 53] := by
  have e : textB ex4 = 35 :: decT 35 1 := by rw [textB, if_pos (by decide)]; rfl
  have h1 : natT (10 ^ (1 : Int).toNat + (35 : Int).natAbs % 10 ^ (1 : Int).toNat) = [49, 53] := by
    rw [show 10 ^ (1 : Int).toNat + (35 : Int).natAbs % 10 ^ (1 : Int).toNat = 15 from rfl, natT_high (by decide), show 15 / 10 = 1 from rfl, natT_low (by decide)]; rfl
  rw [e, decT, h1, show (35 : Int).natAbs / 10 ^ (1 : Int).toNat = 3 from rfl, natT_low (by decide)]
  rfl
theorem ex5_text : textB ex5 = [64, 48, 48, 48, 49, 45, 48, 49, 45, 48, 49] := by
  have e : textB ex5 = 64 :: dateText 0 := by rw [textB, if_pos (by decide)]; rfl
  have hc : civ 0 = (1, 1, 1) := civ_eq ⟨by decide, by decide, by decide, by decide, by decide, by decide⟩ (by decide)
  rw [e, dateText, hc]
  rfl
theorem ex6_text : textB ex6 = [63, 49] := by rw [textB, if_pos (by decide)]; rfl
theorem exY_text : cellT exY = [35, 50] := by
  have e : cellT exY = 35 :: decT 2 0 := rfl
  rw [e, decT, show (2 : Int).natAbs / 10 ^ (0 : Int).toNat = 2 from rfl, natT_low (by decide)]
  rfl
theorem ex7_text : textB ex7 = [91, 97, 44, 98, 59, 39, 120, 39, 44, 35, 50, 93] := by
  have e : textB ex7 = [91] ++ joinL [44] [[97], [98]] ++ ([59 :: joinL [44] [cellT exX, cellT exY]]).flatten ++ [93] := by rw [textB, if_pos (by decide)]; rfl
  rw [e, exY_text]
  rfl
theorem ex7_fit : ex7.fit := by
  refine ⟨by simp [ex7], ?_, ?_⟩
  · have : ∀ t, t ∈ ex7.cols → t.length ≤ 1 := by decide
    intro t ht; have := this t ht; unfold maxLen; omega
  · have : ∀ r, r ∈ ex7.rows → ∀ c, c ∈ r → c.s.length ≤ 1 := by decide
    intro r hr c hc; have := this r hr c hc; unfold maxLen; omega
theorem same_lit : SpG g 23 [.c (.d (.sl 7 (valsD [exA, exB]))), .c (.d (.sl 7 (valsD [exA, exB])))] [] (.c (.d (.b true))) [] := by
  have := refSame_ok (g := g) [exA, exB] [exA, exB]
  rw [decide_eq_true rfl] at this
  exact this
theorem sanity_ok  :
    SpG g 10 [] [] (.c (.d (.b true))) [] := by
  refine enterB 91 Tryz.func10 (by kernel_rfl) fun fr hG => ?_
  refine stepR' hG hmix [(1, 4, .elem [.nil, .nil, .nil, .nil, .nil, .sl 1 [], .sl 1 [], .nil, .nil, .nil, .nil, .nil, .sl 1 [], .sl 1 []]), (2, 0, .call (.agg [.d (.i 0), .d (.s (S [])), .d (.i 0), .d (.i 0), .d (.i 18), .d (.nil), .d (.nil)]) [] []), (2, 1, .call (.c (.d (.s (S [33, 49, 56])))) [] []), (2, 5, .call (.c (.d (.s (S [33, 48])))) [] []), (2, 10, .call (.c (.d (.s (S [39, 105, 116, 39, 39, 115, 39])))) [] []), (2, 16, .call (.c (.d (.s (S [35, 51, 46, 53])))) [] []), (3, 1, .call (.c (.d (.s (S [64, 48, 48, 48, 49, 45, 48, 49, 45, 48, 49])))) [] []), (3, 5, .call (.c (.d (.s (S [63, 49])))) [] []), (3, 10, .call (.c (.d (.s (S [91, 97, 44, 98, 59, 39, 120, 39, 44, 35, 50, 93])))) [] []), (4, 3, .mask [none, none, none, none, none, some 1, some 1, none, none, none, none, none, some 1, some 1]), (5, 0, .call (.tup [(false, [.d (.sl 7 (valsD ([exA, exB])))]), (false, [.d (.b true)])]) [] []), (6, 0, .call (.tup [(true, [.d (.i 0), .d (.s (S [])), .d (.i 0), .d (.i 0), .d (.i 0), .d (.nil), .d (.nil)]), (false, [.d (.b false)])]) [] []), (7, 0, .call (.tup [(true, [.d (.i 0), .d (.s (S [])), .d (.i 0), .d (.i 0), .d (.i 0), .d (.nil), .d (.nil)]), (false, [.d (.b false)])]) [] []), (8, 6, .call (.c (.d (.s (S [39, 97, 124, 98, 39, 124, 35, 49])))) [] []), (8, 15, .call (.c (.d (.b true))) [] [])] [] (.c (.d (.b true))) [] (by kernel_rfl) (conjC ((fail_ok 18 : SpG g _ _ _ _ _)) (conjC ((spec_mask (ins := [.agg [.d (.i 0), .d (.s (S [])), .d (.i 0), .d (.i 0), .d (.i 18), .d (.nil), .d (.nil)]]) [[none, none, none, none, none, some 1, some 1]] (text_lit ex1 [33, 49, 56] (fit_lit (by decide) rfl rfl) ex1_text) : SpG g _ _ _ _ _)) (conjC (fun (hg1 : true = true) => ((spec_mask (ins := [.agg [.d (.i 0), .d (.s (S [])), .d (.i 0), .d (.i 0), .d (.i 0), .d (.nil), .d (.nil)]]) [[none, none, none, none, none, some 1, some 1]] (text_lit ex2 [33, 48] (fit_lit (by decide) rfl rfl) ex2_text) : SpG g _ _ _ _ _))) (conjC (fun (hg1 : true = true) => ((spec_mask (ins := [.agg [.d (.i 1), .d (.s (S [105, 116, 39, 115])), .d (.i 0), .d (.i 0), .d (.i 0), .d (.nil), .d (.nil)]]) [[none, none, none, none, none, some 1, some 1]] (text_lit ex3 [39, 105, 116, 39, 39, 115, 39] (fit_lit (by decide) rfl rfl) ex3_text) : SpG g _ _ _ _ _))) (conjC (fun (hg1 : true = true) => ((spec_mask (ins := [.agg [.d (.i 2), .d (.s (S [])), .d (.i 35), .d (.i 1), .d (.i 0), .d (.nil), .d (.nil)]]) [[none, none, none, none, none, some 1, some 1]] (text_lit ex4 [35, 51, 46, 53] (fit_lit (by decide) rfl rfl) ex4_text) : SpG g _ _ _ _ _))) (conjC ((spec_mask (ins := [.agg [.d (.i 3), .d (.s (S [])), .d (.i 0), .d (.i 0), .d (.i 0), .d (.nil), .d (.nil)]]) [[none, none, none, none, none, some 1, some 1]] (text_lit ex5 [64, 48, 48, 48, 49, 45, 48, 49, 45, 48, 49] (fit_lit (by decide) rfl rfl) ex5_text) : SpG g _ _ _ _ _)) (conjC (fun (hg1 : true = true) => ((spec_mask (ins := [.agg [.d (.i 4), .d (.s (S [])), .d (.i 0), .d (.i 0), .d (.i 1), .d (.nil), .d (.nil)]]) [[none, none, none, none, none, some 1, some 1]] (text_lit ex6 [63, 49] (fit_lit (by decide) rfl rfl) ex6_text) : SpG g _ _ _ _ _))) (conjC (fun (hg1 : true = true) => ((text_lit ex7 [91, 97, 44, 98, 59, 39, 120, 39, 44, 35, 50, 93] ex7_fit ex7_text : SpG g _ _ _ _ _))) (conjC ((readRow_lit : SpG g _ _ _ _ _)) (conjC ((read_x231x2e0 : SpG g _ _ _ _ _)) (conjC ((read_x3f2 : SpG g _ _ _ _ _)) (conjC (fun (hg1 : true = true) => ((rowText_lit : SpG g _ _ _ _ _))) (conj1 (fun (hg1 : true = true) => ((same_lit : SpG g _ _ _ _ _)))))))))))))))) ?_ ?_
  · rfl
  · rfl
end Go.Proofs.YtmpgfchkkemngaaGreatDoor
