/- Part 1 of the proof: texts Eng. -/
import Derived.WalkKit
import Derived.OrdersHeld
import Derived.KernelRfl
set_option linter.all false
namespace Go
theorem _root_.Go.blS : (∀ (p : Prop) [Decidable p], (decide p = true) = p) ∧ (∀ (p : Prop) [Decidable p], (decide p = false) = ¬ p) ∧ (∀ a b : Bool, ((a && b) = true) = (a = true ∧ b = true)) ∧ (∀ a b : Bool, ((a || b) = true) = (a = true ∨ b = true)) ∧ (∀ a b : Bool, ((a && b) = false) = (a = false ∨ b = false)) ∧ (∀ a b : Bool, ((a || b) = false) = (a = false ∧ b = false)) ∧ (∀ b : Bool, ((!b) = true) = (b = false)) ∧ (∀ b : Bool, ((!b) = false) = (b = true)) :=
  ⟨fun p _ => decide_eq_true_eq, fun p _ => propext decide_eq_false_iff_not, fun a b => Bool.and_eq_true a b, fun a b => Bool.or_eq_true a b, fun a b => propext (Bool.and_eq_false_iff), fun a b => propext (Bool.or_eq_false_iff), fun b => Bool.not_eq_true' b, fun b => Bool.not_eq_false' b⟩
end Go
namespace Go.Eng
open Go.RowKit
def red {α : Type} (P : Program) : Sem α → Option α
 | .pure a => some a
 | .program k => red P (k P)
 | .mark _ k => red P k
 | _ => none
theorem red_run {α : Type} {P : Program} {w : World} : ∀ {s : Sem α} {a : α}, red P s = some a → s.run P w = .ok a w
 | .pure _, _, h => by simp only [red, Option.some.injEq] at h; rw [h]; rfl
 | .program k, _, h => by simp only [red] at h; exact red_run (s := k P) h
 | .mark _ k, _, h => by simp only [red] at h; exact red_run (s := k) h
 | .load .., _, h => by simp [red] at h
 | .store .., _, h => by simp [red] at h
 | .new .., _, h => by simp [red] at h
 | .shape .., _, h => by simp [red] at h
 | .freeze .., _, h => by simp [red] at h
 | .frozen .., _, h => by simp [red] at h
 | .getObj .., _, h => by simp [red] at h
 | .setObj .., _, h => by simp [red] at h
 | .choose .., _, h => by simp [red] at h
 | .sys .., _, h => by simp [red] at h
 | .halt .., _, h => by simp [red] at h
abbrev Path := List (Nat × Bool)
def sub (p q : Path) : Bool := p.all fun x => q.any fun y => x.1 == y.1 && x.2 == y.2
def Holds (a : Act) (p : Path) : Prop := ∀ x ∈ p, a.tmps.getD x.1 undef = .bool x.2
theorem sub_holds {a : Act} {p q : Path} (h : sub p q = true) (hq : Holds a q) : Holds a p := by
 intro x hx
 simp only [sub, List.all_eq_true, List.any_eq_true, Bool.and_eq_true, beq_iff_eq] at h
 obtain ⟨y, hy, h1, h2⟩ := h x hx
 rw [h1, h2]
 exact hq y hy
theorem put_getD (a : Act) (t : Nat) (v : Value) (u : Nat) (h : t < a.tmps.size) : (a.put (some t) v).tmps.getD u undef = if u = t then v else a.tmps.getD u undef := by
 simp only [Act.put, Array.getD_eq_getD_getElem?]
 by_cases hu : u = t
 ·subst hu; simp [h]
 ·simp [hu, Array.getElem?_setIfInBounds_ne (Ne.symm hu)]
theorem holds_put {a : Act} {t : Nat} {v : Value} {p : Path} (ht : t < a.tmps.size) (hp : ∀ x ∈ p, x.1 ≠ t) : Holds (a.put (some t) v) p ↔ Holds a p := by
 constructor
 ·intro h x hx; have := h x hx; rw [put_getD _ _ _ _ ht, if_neg (hp x hx)] at this; exact this
 ·intro h x hx; rw [put_getD _ _ _ _ ht, if_neg (hp x hx)]; exact h x hx
theorem getD_of_size {a : Act} {t : Nat} {v : Value} (h : a.tmps.getD t undef = v) (hv : v ≠ undef) : a.tmps[t]? = some v := by
 rw [Array.getD_eq_getD_getElem?] at h
 cases hh : a.tmps[t]? with
 | none => rw [hh] at h; simp at h; exact absurd h.symm hv
 | some x => rw [hh] at h; simp at h; rw [h]
end Go.Eng
