/- Part 38 of the proof: texts Q14. -/
import Derived.Test.YtfedkhjbkiillaaGreatDoorP28
set_option linter.all false
namespace Go.Proofs.YtfedkhjbkiillaaGreatDoor
open Go.RowKit Go.V
open Go.Eng (inR byteAt u8 bytesV)
def cmpL : List Int → List Int → Int
 | [], [] => 0
 | [], _ :: _ => -1
 | _ :: _, [] => 1
 | x :: a, y :: b => if x < y then -1 else if y < x then 1 else cmpL a b
def lessI (a b : List Int) : Bool := if a.length = b.length then decide (cmpL a b < 0) else decide (a.length < b.length)
theorem cmpL_rng : ∀ a b : List Int, cmpL a b = -1 ∨ cmpL a b = 0 ∨ cmpL a b = 1
 | [], [] => .inr (.inl rfl)
 | [], _ :: _ => .inl rfl
 | _ :: _, [] => .inr (.inr rfl)
 | x :: a, y :: b => by
  unfold cmpL
  split
  ·exact .inl rfl
  ·split
   ·exact .inr (.inr rfl)
   ·exact cmpL_rng a b
theorem cmpL_swap : ∀ a b : List Int, cmpL b a = - cmpL a b
 | [], [] => rfl
 | [], _ :: _ => rfl
 | _ :: _, [] => rfl
 | x :: a, y :: b => by
  unfold cmpL
  by_cases h1 : x < y
  ·rw [if_pos h1, if_neg (by omega), if_pos h1]; rfl
  ·by_cases h2 : y < x
   ·rw [if_pos h2, if_neg h1, if_pos h2]
   ·rw [if_neg h2, if_neg h1, if_neg h1, if_neg h2]; exact cmpL_swap a b
theorem cmpL_zero : ∀ {a b : List Int}, cmpL a b = 0 → a = b
 | [], [], _ => rfl
 | [], _ :: _, h => by cases h
 | _ :: _, [], h => by cases h
 | x :: a, y :: b, h => by
  unfold cmpL at h
  split at h
  ·cases h
  ·split at h
   ·cases h
   ·rw [cmpL_zero h, show x = y by omega]
theorem cmpL_self : ∀ a : List Int, cmpL a a = 0
 | [] => rfl
 | x :: a => by unfold cmpL; rw [if_neg (by omega), if_neg (by omega)]; exact cmpL_self a
theorem cmpL_trans : ∀ {a b c : List Int}, cmpL a b < 0 → cmpL b c < 0 → cmpL a c < 0
 | [], [], _, h, _ => by simp [cmpL] at h
 | _ :: _, [], _, h, _ => by simp [cmpL] at h
 | _, _ :: _, [], _, h => by simp [cmpL] at h
 | [], _ :: _, _ :: _, _, _ => by simp [cmpL]
 | x :: a, y :: b, z :: c, h1, h2 => by
  unfold cmpL at *
  by_cases e1 : x < y
  ·by_cases e2 : y < z
   ·rw [if_pos (by omega)]; decide
   ·rw [if_neg e2] at h2
    by_cases e3 : z < y
    ·rw [if_pos e3] at h2; omega
    ·rw [if_pos (by omega)]; decide
  ·rw [if_neg e1] at h1
   by_cases e1' : y < x
   ·rw [if_pos e1'] at h1; omega
   ·rw [if_neg e1'] at h1
    have hxy : x = y := by omega
    subst hxy
    by_cases e2 : x < z
    ·rw [if_pos e2]; decide
    ·rw [if_neg e2] at h2 ⊢
     by_cases e3 : z < x
     ·rw [if_pos e3] at h2; omega
     ·rw [if_neg e3] at h2 ⊢
      exact cmpL_trans h1 h2
theorem lessI_tri (a b : List Int) : lessI a b = true ∧ lessI b a = false ∧ a ≠ b ∨ lessI a b = false ∧ lessI b a = true ∧ a ≠ b ∨ lessI a b = false ∧ lessI b a = false ∧ a = b := by
 unfold lessI
 by_cases h : a.length = b.length
 ·rw [if_pos h, if_pos h.symm, cmpL_swap a b]
  rcases cmpL_rng a b with e | e | e
  ·exact .inl ⟨by simp [e], by simp [e], fun q => by subst q; rw [cmpL_self] at e; cases e⟩
  ·exact .inr (.inr ⟨by simp [e], by simp [e], cmpL_zero e⟩)
  ·exact .inr (.inl ⟨by simp [e], by simp [e], fun q => by subst q; rw [cmpL_self] at e; cases e⟩)
 ·rw [if_neg h, if_neg (Ne.symm h)]
  by_cases h2 : a.length < b.length
  ·exact .inl ⟨by simp [h2], by simp; omega, fun q => h (by rw [q])⟩
  ·exact .inr (.inl ⟨by simp; omega, by simp; omega, fun q => h (by rw [q])⟩)
theorem lessI_self (a : List Int) : lessI a a = false := by unfold lessI; simp [cmpL_self]
theorem lessI_trans {a b c : List Int} (h1 : lessI a b = true) (h2 : lessI b c = true) : lessI a c = true := by
 unfold lessI at *
 by_cases e1 : a.length = b.length
 ·rw [if_pos e1] at h1
  by_cases e2 : b.length = c.length
  ·rw [if_pos e2] at h2
   rw [if_pos (by omega)]
   simp only [decide_eq_true_eq] at h1 h2 ⊢
   exact cmpL_trans h1 h2
  ·rw [if_neg e2] at h2
   rw [if_neg (by omega)]
   simp only [decide_eq_true_eq] at h2 ⊢
   omega
 ·rw [if_neg e1] at h1
  simp only [decide_eq_true_eq] at h1
  by_cases e2 : b.length = c.length
  ·rw [if_neg (by omega)]
   simp only [decide_eq_true_eq]
   omega
  ·rw [if_neg e2] at h2
   simp only [decide_eq_true_eq] at h2
   rw [if_neg (by omega)]
   simp only [decide_eq_true_eq]
   omega
theorem lessI_len {a b : List Int} (h : lessI a b = true) : a.length = b.length ∨ a.length < b.length := by
 unfold lessI at h
 by_cases e : a.length = b.length
 ·exact .inl e
 ·rw [if_neg e] at h
  exact .inr (by simpa using h)
theorem cmpL_step {a b : List Int} {k : Nat} (h1 : k < a.length) (h2 : k < b.length) : cmpL (a.drop k) (b.drop k) = if Lib.compareInt (a.getD k 0) (b.getD k 0) = 0 then cmpL (a.drop (k + 1)) (b.drop (k + 1)) else Lib.compareInt (a.getD k 0) (b.getD k 0) := by
 rw [List.drop_eq_getElem_cons h1, List.drop_eq_getElem_cons h2, cmpL]
 have e1 : a.getD k 0 = a[k] := by simp [List.getD_eq_getElem?_getD, List.getElem?_eq_getElem h1]
 have e2 : b.getD k 0 = b[k] := by simp [List.getD_eq_getElem?_getD, List.getElem?_eq_getElem h2]
 rw [e1, e2, Lib.compareInt]
 by_cases c1 : a[k] < b[k]
 ·simp [c1]
 ·by_cases c2 : b[k] < a[k]
  ·simp [c1, c2]
  ·simp [c1, c2]
theorem cmpL_far {a b : List Int} {k : Nat} (h1 : k < a.length) (h2 : b.length ≤ k) : (1 : Int) = cmpL (a.drop k) (b.drop k) := by
 rw [List.drop_eq_getElem_cons h1, List.drop_of_length_le h2]; rfl
theorem cmpL_near {a b : List Int} {k : Nat} (h1 : a.length ≤ k) (h2 : k < b.length) : (-1 : Int) = cmpL (a.drop k) (b.drop k) := by
 rw [List.drop_eq_getElem_cons h2, List.drop_of_length_le h1]; rfl
theorem cmpL_same {a b : List Int} {k : Nat} (h1 : a.length ≤ k) (h2 : b.length ≤ k) : (0 : Int) = cmpL (a.drop k) (b.drop k) := by
 rw [List.drop_of_length_le h2, List.drop_of_length_le h1]; rfl
theorem below_succ {k : Nat} {q : Nat → Prop} (h : ∀ j, j < k → q j) (hk : q k) : ∀ j, j < k + 1 → q j := fun j hj => by
 rcases Nat.lt_succ_iff_lt_or_eq.1 hj with h' | h'
 ·exact h j h'
 ·rw [h']; exact hk
theorem eq_of_all {α : Type} {a b : List α} (z : α) (hl : a.length = b.length) (h : ∀ j, j < a.length → a.getD j z = b.getD j z) : a = b := by
 apply List.ext_getElem hl
 intro j h1 h2
 have := h j h1
 simpa [h1, h2] using this
theorem ne_of_at {α : Type} {a b : List α} (z : α) {j : Nat} (h : ¬ a.getD j z = b.getD j z) : ¬ a = b := fun e => h (by rw [e])
variable {g : Gv}
def zq0 := And.intro @List.length_map.{0, 0} (And.intro @blS (@intsD.eq_1))
theorem ints_ok (a b : List Int) :
  SpG g 18 [.c (.d (.sl 1 (intsD a))), .c (.d (.sl 1 (intsD b)))] [] (.c (.d (.b (decide (a = b))))) [] := by
 refine enterB 26 Tryz.func18 (by kernel_rfl) fun fr hG => ?_
 refine stepLen 0 rfl fun hl0 => ?_
 refine stepLen 1 rfl fun hl1 => ?_
 refine zC hG [] [1, 0, 1] (!decide ((((intsD a).length : Int) : Int) = ((intsD b).length : Int))) (⟨[(0, [], .c (.d (.sl 1 (intsD a)))), (1, [], .c (.d (.sl 1 (intsD b)))), (4, [], .c (.d (.b false)))], []⟩) (by kernel_rfl) conj0 (fun hc1 => ?_) (fun hc1 => ?_)
 ·(try simp only [zq0] at hc1)
  refine zR hG [] [] (.c (.d (.b false))) [] (by kernel_rfl) conj0 ?_ ?_
  ·have : ¬ a = b := fun e => hc1 (by rw [e])
   simp [this]
  ·rfl
 ·(try simp only [zq0] at hc1)
  refine zL hG [] [0, 1, 0, 1, 1] (fun (zz : Nat) => match zz with | k => (a.length - k, ⟨[(0, [], .c (.d (.sl 1 (intsD a)))), (1, [], .c (.d (.sl 1 (intsD b)))), (4, [], .c (.d (.b false))), (5, [], .c (.d (.i (k : Int))))], []⟩, k ≤ a.length ∧ ∀ j, j < k → a.getD j 0 = b.getD j 0)) 0 (by kernel_rfl) conj0 (by kernel_rfl) ?_ ?_
  ·exact ⟨Nat.zero_le _, fun j hj => by omega⟩
  rintro k ⟨hk, hn⟩
  refine zc hG [] [1, 0] (decide (((k : Int) : Int) < ((intsD a).length : Int))) (by kernel_rfl) conj0 (fun hc3 => ?_) (fun hc3 => ?_)
  ·(try simp only [zq0] at hc3)
   refine zc hG [(6, 2, .elem (intD ((a).getD k 0))), (6, 6, .elem (intD ((b).getD k 0)))] [1, 0, 0, 1] (!decide (((a).getD k 0 : Int) = ((b).getD k 0))) (by kernel_rfl) (conjC (show (0 : Int) ≤ (k : Int) ∧ (intsD a)[k]? = some (intD ((a).getD k 0)) from (by intros; exact map_at _ (by omega) (by (try simp only [intsD, List.length_map] at *); omega))) (conj1 (show (0 : Int) ≤ (k : Int) ∧ (intsD b)[k]? = some (intD ((b).getD k 0)) from (by intros; exact map_at _ (by omega) (by (try simp only [intsD, List.length_map] at *); omega))))) (fun hc4 => ?_) (fun hc4 => ?_)
   ·(try simp only [zq0] at hc4)
    refine zE hG [] .ret (⟨[(4, [], .c (.d (.b false)))], []⟩) (by kernel_rfl) conj0 rfl ?_
    refine zR hG [] [] (.c (.d (.b false))) [] (by kernel_rfl) conj0 ?_ ?_
    ·have : ¬ a = b := ne_of_at 0 (j := k) (by simpa using hc4)
     simp [this]
    ·rfl
   ·(try simp only [zq0] at hc4)
    refine zD hG [] (k + 1) (by kernel_rfl) (conj1 (show inR ((k : Int) + 1) from (by intros; (try simp only [intsD, List.length_map, inR, maxLen] at *); omega))) ?_ ?_
    ·(try dsimp only); omega
    ·exact ⟨by omega, below_succ hn (by simpa using hc4)⟩
  ·(try simp only [zq0] at hc3)
   refine zE hG [] (.exit 0) (⟨[(4, [], .c (.d (.b false)))], []⟩) (by kernel_rfl) conj0 rfl ?_
   refine zR hG [] [] (.c (.d (.b true))) [] (by kernel_rfl) conj0 ?_ ?_
   ·have : a = b := eq_of_all 0 (by omega) (fun j hj => hn j (by omega))
    simp [this]
   ·rfl
theorem cmpL_ok (a b : List Int) :
  SpG g 94 [.c (.d (.sl 1 (intsD a))), .c (.d (.sl 1 (intsD b)))] [] (.c (.d (.i (cmpL a b)))) [] := by
 refine enterB 36 Tryz.func94 (by kernel_rfl) fun fr hG => ?_
 refine stepLen 0 rfl fun hl0 => ?_
 refine stepLen 1 rfl fun hl1 => ?_
 refine zL hG [] [0, 1, 0, 1] (fun (zz : Nat) => match zz with | k => (a.length - k, ⟨[(0, [], .c (.d (.sl 1 (intsD a)))), (1, [], .c (.d (.sl 1 (intsD b)))), (4, [], .c (.d (.i 0))), (9, [], .c (.d (.sl 1 (intsD a)))), (10, [], .c (.d (.i ((intsD a).length : Int)))), (11, [], .c (.d (.i (k : Int))))], []⟩, k ≤ a.length ∧ k ≤ b.length ∧ cmpL a b = cmpL (a.drop k) (b.drop k))) 0 (by kernel_rfl) conj0 (by kernel_rfl) ?_ ?_
 ·exact ⟨Nat.zero_le _, Nat.zero_le _, rfl⟩
 rintro k ⟨hk1, hk2, hl⟩
 refine zc hG [] [0, 1] (decide (((k : Int) : Int) < ((intsD a).length : Int))) (by kernel_rfl) conj0 (fun hc2 => ?_) (fun hc2 => ?_)
 ·(try simp only [zq0] at hc2)
  refine zC hG [(3, 1, .elem (intD ((a).getD k 0)))] [1, 0, 1, 0, 0, 1, 1] (decide (((k : Int) : Int) ≥ ((intsD b).length : Int))) (⟨[(0, [], .c (.d (.sl 1 (intsD a)))), (1, [], .c (.d (.sl 1 (intsD b)))), (4, [], .c (.d (.i 0))), (5, [], .c (.d (.i (k : Int)))), (6, [], .c (.d (.i ((a).getD k 0)))), (9, [], .c (.d (.sl 1 (intsD a)))), (10, [], .c (.d (.i ((intsD a).length : Int)))), (11, [], .c (.d (.i (k : Int))))], []⟩) (by kernel_rfl) (conj1 (show (0 : Int) ≤ (k : Int) ∧ (intsD a)[k]? = some (intD ((a).getD k 0)) from (by intros; exact map_at _ (by omega) (by (try simp only [intsD, List.length_map] at *); omega)))) (fun hc3 => ?_) (fun hc3 => ?_)
  ·(try simp only [zq0] at hc3)
   refine zE hG [] .ret (⟨[(0, [], .c (.d (.sl 1 (intsD a)))), (1, [], .c (.d (.sl 1 (intsD b)))), (4, [], .c (.d (.i 1)))], []⟩) (by kernel_rfl) conj0 rfl ?_
   refine zR hG [] [] (.c (.d (.i 1))) [] (by kernel_rfl) conj0 ?_ ?_
   ·rw [hl, ← cmpL_far (a := a) (b := b) (k := k) (by omega) (by omega)]
   ·rfl
  ·(try simp only [zq0] at hc3)
   refine zC hG [(6, 2, .elem (intD ((b).getD k 0))), (7, 2, .call (.c (.d (.i (Lib.compareInt ((a).getD k 0) ((b).getD k 0))))) [] [])] [1, 1, 1, 1, 1, 0, 0, 1, 1] (!decide ((Lib.compareInt ((a).getD k 0) ((b).getD k 0) : Int) = 0)) (⟨[(0, [], .c (.d (.sl 1 (intsD a)))), (1, [], .c (.d (.sl 1 (intsD b)))), (4, [], .c (.d (.i 0))), (8, [], .c (.d (.i (Lib.compareInt ((a).getD k 0) ((b).getD k 0))))), (9, [], .c (.d (.sl 1 (intsD a)))), (10, [], .c (.d (.i ((intsD a).length : Int)))), (11, [], .c (.d (.i (k : Int))))], []⟩) (by kernel_rfl) (conjC (show (0 : Int) ≤ (k : Int) ∧ (intsD b)[k]? = some (intD ((b).getD k 0)) from (by intros; exact map_at _ (by omega) (by (try simp only [intsD, List.length_map] at *); omega))) (conj1 ((cmpInt_ok ((a).getD k 0) ((b).getD k 0) : SpG g _ _ _ _ _)))) (fun hc4 => ?_) (fun hc4 => ?_)
   ·(try simp only [zq0] at hc4)
    refine zE hG [] .ret (⟨[(0, [], .c (.d (.sl 1 (intsD a)))), (1, [], .c (.d (.sl 1 (intsD b)))), (4, [], .c (.d (.i (Lib.compareInt ((a).getD k 0) ((b).getD k 0)))))], []⟩) (by kernel_rfl) conj0 rfl ?_
    refine zR hG [] [] (.c (.d (.i (Lib.compareInt ((a).getD k 0) ((b).getD k 0))))) [] (by kernel_rfl) conj0 ?_ ?_
    ·rw [hl, cmpL_step (by omega) (by omega), if_neg (by simpa using hc4)]
    ·rfl
   ·(try simp only [zq0] at hc4)
    refine zD hG [] (k + 1) (by kernel_rfl) (conj1 (show inR ((k : Int) + 1) from (by intros; (try simp only [intsD, List.length_map, inR, maxLen] at *); omega))) ?_ ?_
    ·(try dsimp only); omega
    ·refine ⟨by omega, by omega, ?_⟩
     rw [hl, cmpL_step (by omega) (by omega), if_pos (by simpa using hc4)]
 ·(try simp only [zq0] at hc2)
  refine zE hG [] (.exit 0) (⟨[(0, [], .c (.d (.sl 1 (intsD a)))), (1, [], .c (.d (.sl 1 (intsD b)))), (4, [], .c (.d (.i 0)))], []⟩) (by kernel_rfl) conj0 rfl ?_
  refine zC hG [] [1, 0, 1, 1] (decide ((((intsD a).length : Int) : Int) < ((intsD b).length : Int))) (⟨[(4, [], .c (.d (.i 0)))], []⟩) (by kernel_rfl) conj0 (fun hc5 => ?_) (fun hc5 => ?_)
  ·(try simp only [zq0] at hc5)
   refine zR hG [] [] (.c (.d (.i (-1)))) [] (by kernel_rfl) conj0 ?_ ?_
   ·rw [hl, ← cmpL_near (a := a) (b := b) (k := k) (by omega) (by omega)]
   ·rfl
  ·(try simp only [zq0] at hc5)
   refine zR hG [] [] (.c (.d (.i 0))) [] (by kernel_rfl) conj0 ?_ ?_
   ·rw [hl, ← cmpL_same (a := a) (b := b) (k := k) (by omega) (by omega)]
   ·rfl
theorem lessI_ok (a b : List Int) :
  SpG g 35 [.c (.d (.sl 1 (intsD a))), .c (.d (.sl 1 (intsD b)))] [] (.c (.d (.b (lessI a b)))) [] := by
 refine enterB 19 Tryz.func35 (by kernel_rfl) fun fr hG => ?_
 refine stepLen 0 rfl fun hl0 => ?_
 refine stepLen 1 rfl fun hl1 => ?_
 refine zC hG [] [1, 0, 1] (!decide ((((intsD a).length : Int) : Int) = ((intsD b).length : Int))) (⟨[(0, [], .c (.d (.sl 1 (intsD a)))), (1, [], .c (.d (.sl 1 (intsD b)))), (4, [], .c (.d (.b false)))], []⟩) (by kernel_rfl) conj0 (fun hc1 => ?_) (fun hc1 => ?_)
 ·(try simp only [zq0] at hc1)
  refine zR hG [] [] (.c (.d (.b (decide ((((intsD a).length : Int) : Int) < ((intsD b).length : Int)))))) [] (by kernel_rfl) conj0 ?_ ?_
  ·rw [lessI, if_neg (by omega)]; simp [intsD]
  ·rfl
 ·(try simp only [zq0] at hc1)
  refine zR hG [(3, 2, .call (.c (.d (.i (cmpL a b)))) [] [])] [] (.c (.d (.b (decide ((cmpL a b : Int) < 0))))) [] (by kernel_rfl) (conj1 ((cmpL_ok a b : SpG g _ _ _ _ _))) ?_ ?_
  ·rw [lessI, if_pos (by omega)]
  ·rfl
end Go.Proofs.YtfedkhjbkiillaaGreatDoor
