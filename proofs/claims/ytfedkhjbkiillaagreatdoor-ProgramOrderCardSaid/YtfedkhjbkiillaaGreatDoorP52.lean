/- Part 52 of the proof: texts C14. -/
import Derived.Test.YtfedkhjbkiillaaGreatDoorP46
import Derived.Test.YtfedkhjbkiillaaGreatDoorP47
import Derived.Test.YtfedkhjbkiillaaGreatDoorP48
import Derived.Test.YtfedkhjbkiillaaGreatDoorP49
import Derived.Test.YtfedkhjbkiillaaGreatDoorP50
import Derived.Test.YtfedkhjbkiillaaGreatDoorP51
set_option linter.all false
namespace Go.Proofs.YtfedkhjbkiillaaGreatDoor
open Go.RowKit Go.V
theorem po_tri (a b : List Int) : ∃ o, o ≤ 4 ∧ Po a b o ∧ Po b a (4 - o) := by
 rcases lessI_tri a b with ⟨h1, h2, h3⟩ | ⟨h1, h2, h3⟩ | ⟨h1, h2, h3⟩
 ·rcases lessI_len h1 with h4 | h4
  ·exact ⟨1, by omega, ⟨h1, decide_eq_false h3, decide_eq_false (by omega)⟩, ⟨h2, decide_eq_false (Ne.symm h3), decide_eq_false (by omega)⟩⟩
  ·exact ⟨0, by omega, ⟨h1, decide_eq_false h3, decide_eq_true h4⟩, ⟨h2, decide_eq_false (Ne.symm h3), decide_eq_false (by omega)⟩⟩
 ·rcases lessI_len h2 with h4 | h4
  ·exact ⟨3, by omega, ⟨h1, decide_eq_false h3, decide_eq_false (by omega)⟩, ⟨h2, decide_eq_false (Ne.symm h3), decide_eq_false (by omega)⟩⟩
  ·exact ⟨4, by omega, ⟨h1, decide_eq_false h3, decide_eq_false (by omega)⟩, ⟨h2, decide_eq_false (Ne.symm h3), decide_eq_true h4⟩⟩
 ·subst h3
  exact ⟨2, by omega, ⟨h1, decide_eq_true rfl, decide_eq_false (by omega)⟩, ⟨h1, decide_eq_true rfl, decide_eq_false (by omega)⟩⟩
theorem po_self (a : List Int) : Po a a 2 := ⟨lessI_self a, decide_eq_true rfl, decide_eq_false (by omega)⟩
def rk (a b c x : List Int) : Nat := (if lessI a x then 1 else 0) + (if lessI b x then 1 else 0) + (if lessI c x then 1 else 0)
theorem one_le {z x y : List Int} (h : lessI x y = true) : (if lessI z x then 1 else 0) ≤ (if lessI z y then 1 else 0 : Nat) := by
 by_cases hz : lessI z x = true
 ·rw [if_pos hz, if_pos (lessI_trans hz h)]; exact Nat.le_refl _
 ·rw [if_neg hz]; exact Nat.zero_le _
theorem one_lt {x y : List Int} (h : lessI x y = true) : (if lessI x x then 1 else 0) < (if lessI x y then 1 else 0 : Nat) := by
 rw [lessI_self, if_pos h]; decide
theorem po_num {a b c x y : List Int} (hx : x = a ∨ x = b ∨ x = c) (hy : y = a ∨ y = b ∨ y = c) {o : Nat} (h : Po x y o) (h' : Po y x (4 - o)) (ho : o ≤ 4) :
  (o < 2 → rk a b c x < rk a b c y) ∧ (o = 2 → rk a b c x = rk a b c y) ∧ (2 < o → rk a b c y < rk a b c x) ∧ (o = 0 → x.length < y.length) ∧ (0 < o → o < 4 → x.length = y.length) ∧ (o = 4 → y.length < x.length) := by
 have up : ∀ {x y : List Int}, (x = a ∨ x = b ∨ x = c) → lessI x y = true → rk a b c x < rk a b c y := by
  intro x y hx h
  have h1 := one_le (z := a) h
  have h2 := one_le (z := b) h
  have h3 := one_le (z := c) h
  have h4 := one_lt h
  unfold rk
  rcases hx with rfl | rfl | rfl <;> omega
 obtain ⟨p1, p2, p3⟩ := h
 obtain ⟨q1, q2, q3⟩ := h'
 have ho : o = 0 ∨ o = 1 ∨ o = 2 ∨ o = 3 ∨ o = 4 := by omega
 rcases ho with rfl | rfl | rfl | rfl | rfl
 ·have h1 := up hx p1
  have h2 := of_decide_eq_true p3
  refine ⟨?_, ?_, ?_, ?_, ?_, ?_⟩ <;> intros <;> omega
 ·have h1 := up hx p1
  have h2 := of_decide_eq_false p3
  have h3 := of_decide_eq_false q3
  refine ⟨?_, ?_, ?_, ?_, ?_, ?_⟩ <;> intros <;> omega
 ·have h1 := of_decide_eq_true p2
  subst h1
  refine ⟨?_, ?_, ?_, ?_, ?_, ?_⟩ <;> intros <;> omega
 ·have h1 := up hy q1
  have h2 := of_decide_eq_false p3
  have h3 := of_decide_eq_false q3
  refine ⟨?_, ?_, ?_, ?_, ?_, ?_⟩ <;> intros <;> omega
 ·have h1 := up hy q1
  have h2 := of_decide_eq_true q3
  refine ⟨?_, ?_, ?_, ?_, ?_, ?_⟩ <;> intros <;> omega
theorem facts_of {a b c : List Int} {p q s : Nat} (hp : p ≤ 4) (hq : q ≤ 4) (hs : s ≤ 4) (h1 : Po (l6 a) (l6 b) p) (h1' : Po (l6 b) (l6 a) (4 - p)) (h2 : Po (l6 a) (l6 c) q) (h2' : Po (l6 c) (l6 a) (4 - q)) (h3 : Po (l6 b) (l6 c) s) (h3' : Po (l6 c) (l6 b) (4 - s)) : Facts p q s a b c := by
 intro i j hi hj
 have e1 : i = 0 ∨ i = 1 ∨ i = 2 := by omega
 have e2 : j = 0 ∨ j = 1 ∨ j = 2 := by omega
 rcases e1 with rfl | rfl | rfl <;> rcases e2 with rfl | rfl | rfl <;> first | assumption | exact po_self _
theorem five {o : Nat} (h : o ≤ 4) : o = 0 ∨ o = 1 ∨ o = 2 ∨ o = 3 ∨ o = 4 := by omega
theorem programOrder_ok (m : Int) (a b c : List Int) : V.Spec Tryz.prog (Gl (gT m)) 8 (insO (i8D a) (i8D b) (i8D c)) [] okO [] := by
 obtain ⟨p, hp, p1, p2⟩ := po_tri (l6 a) (l6 b)
 obtain ⟨q, hq, q1, q2⟩ := po_tri (l6 a) (l6 c)
 obtain ⟨s, hs, s1, s2⟩ := po_tri (l6 b) (l6 c)
 have hF := facts_of hp hq hs p1 p2 q1 q2 s1 s2
 have np := po_num (a := l6 a) (b := l6 b) (c := l6 c) (.inl rfl) (.inr (.inl rfl)) p1 p2 hp
 have nq := po_num (a := l6 a) (b := l6 b) (c := l6 c) (.inl rfl) (.inr (.inr rfl)) q1 q2 hq
 have ns := po_num (a := l6 a) (b := l6 b) (c := l6 c) (.inr (.inl rfl)) (.inr (.inr rfl)) s1 s2 hs
 clear p1 p2 q1 q2 s1 s2
 rcases five hp with rfl | rfl | rfl | rfl | rfl <;> rcases five hq with rfl | rfl | rfl | rfl | rfl <;> rcases five hs with rfl | rfl | rfl | rfl | rfl
 ·exact o000 m a b c hF
 ·exact o001 m a b c hF
 ·exact o002 m a b c hF
 ·exact o003 m a b c hF
 ·exact o004 m a b c hF
 ·exfalso; simp at np nq ns; omega
 ·exfalso; simp at np nq ns; omega
 ·exfalso; simp at np nq ns; omega
 ·exfalso; simp at np nq ns; omega
 ·exact o014 m a b c hF
 ·exfalso; simp at np nq ns; omega
 ·exfalso; simp at np nq ns; omega
 ·exfalso; simp at np nq ns; omega
 ·exfalso; simp at np nq ns; omega
 ·exact o024 m a b c hF
 ·exfalso; simp at np nq ns; omega
 ·exfalso; simp at np nq ns; omega
 ·exfalso; simp at np nq ns; omega
 ·exfalso; simp at np nq ns; omega
 ·exact o034 m a b c hF
 ·exfalso; simp at np nq ns; omega
 ·exfalso; simp at np nq ns; omega
 ·exfalso; simp at np nq ns; omega
 ·exfalso; simp at np nq ns; omega
 ·exact o044 m a b c hF
 ·exact o100 m a b c hF
 ·exfalso; simp at np nq ns; omega
 ·exfalso; simp at np nq ns; omega
 ·exfalso; simp at np nq ns; omega
 ·exfalso; simp at np nq ns; omega
 ·exfalso; simp at np nq ns; omega
 ·exact o111 m a b c hF
 ·exact o112 m a b c hF
 ·exact o113 m a b c hF
 ·exfalso; simp at np nq ns; omega
 ·exfalso; simp at np nq ns; omega
 ·exfalso; simp at np nq ns; omega
 ·exfalso; simp at np nq ns; omega
 ·exact o123 m a b c hF
 ·exfalso; simp at np nq ns; omega
 ·exfalso; simp at np nq ns; omega
 ·exfalso; simp at np nq ns; omega
 ·exfalso; simp at np nq ns; omega
 ·exact o133 m a b c hF
 ·exfalso; simp at np nq ns; omega
 ·exfalso; simp at np nq ns; omega
 ·exfalso; simp at np nq ns; omega
 ·exfalso; simp at np nq ns; omega
 ·exfalso; simp at np nq ns; omega
 ·exact o144 m a b c hF
 ·exact o200 m a b c hF
 ·exfalso; simp at np nq ns; omega
 ·exfalso; simp at np nq ns; omega
 ·exfalso; simp at np nq ns; omega
 ·exfalso; simp at np nq ns; omega
 ·exfalso; simp at np nq ns; omega
 ·exact o211 m a b c hF
 ·exfalso; simp at np nq ns; omega
 ·exfalso; simp at np nq ns; omega
 ·exfalso; simp at np nq ns; omega
 ·exfalso; simp at np nq ns; omega
 ·exfalso; simp at np nq ns; omega
 ·exact o222 m a b c hF
 ·exfalso; simp at np nq ns; omega
 ·exfalso; simp at np nq ns; omega
 ·exfalso; simp at np nq ns; omega
 ·exfalso; simp at np nq ns; omega
 ·exfalso; simp at np nq ns; omega
 ·exact o233 m a b c hF
 ·exfalso; simp at np nq ns; omega
 ·exfalso; simp at np nq ns; omega
 ·exfalso; simp at np nq ns; omega
 ·exfalso; simp at np nq ns; omega
 ·exfalso; simp at np nq ns; omega
 ·exact o244 m a b c hF
 ·exact o300 m a b c hF
 ·exfalso; simp at np nq ns; omega
 ·exfalso; simp at np nq ns; omega
 ·exfalso; simp at np nq ns; omega
 ·exfalso; simp at np nq ns; omega
 ·exfalso; simp at np nq ns; omega
 ·exact o311 m a b c hF
 ·exfalso; simp at np nq ns; omega
 ·exfalso; simp at np nq ns; omega
 ·exfalso; simp at np nq ns; omega
 ·exfalso; simp at np nq ns; omega
 ·exact o321 m a b c hF
 ·exfalso; simp at np nq ns; omega
 ·exfalso; simp at np nq ns; omega
 ·exfalso; simp at np nq ns; omega
 ·exfalso; simp at np nq ns; omega
 ·exact o331 m a b c hF
 ·exact o332 m a b c hF
 ·exact o333 m a b c hF
 ·exfalso; simp at np nq ns; omega
 ·exfalso; simp at np nq ns; omega
 ·exfalso; simp at np nq ns; omega
 ·exfalso; simp at np nq ns; omega
 ·exfalso; simp at np nq ns; omega
 ·exact o344 m a b c hF
 ·exact o400 m a b c hF
 ·exfalso; simp at np nq ns; omega
 ·exfalso; simp at np nq ns; omega
 ·exfalso; simp at np nq ns; omega
 ·exfalso; simp at np nq ns; omega
 ·exact o410 m a b c hF
 ·exfalso; simp at np nq ns; omega
 ·exfalso; simp at np nq ns; omega
 ·exfalso; simp at np nq ns; omega
 ·exfalso; simp at np nq ns; omega
 ·exact o420 m a b c hF
 ·exfalso; simp at np nq ns; omega
 ·exfalso; simp at np nq ns; omega
 ·exfalso; simp at np nq ns; omega
 ·exfalso; simp at np nq ns; omega
 ·exact o430 m a b c hF
 ·exfalso; simp at np nq ns; omega
 ·exfalso; simp at np nq ns; omega
 ·exfalso; simp at np nq ns; omega
 ·exfalso; simp at np nq ns; omega
 ·exact o440 m a b c hF
 ·exact o441 m a b c hF
 ·exact o442 m a b c hF
 ·exact o443 m a b c hF
 ·exact o444 m a b c hF
end Go.Proofs.YtfedkhjbkiillaaGreatDoor
