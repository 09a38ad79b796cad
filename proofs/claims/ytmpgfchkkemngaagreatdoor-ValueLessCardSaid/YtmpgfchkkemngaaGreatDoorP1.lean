/- Part 1 of the proof: texts Eng. -/
import Derived.WalkKit
import Derived.OrdersHeld
import Derived.KernelRfl
set_option linter.all false
namespace Go
theorem _root_.Go.blS : (∀ (p : Prop) [Decidable p], (decide p = true) = p) ∧ (∀ (p : Prop) [Decidable p], (decide p = false) = ¬ p) ∧ (∀ a b : Bool, ((a && b) = true) = (a = true ∧ b = true)) ∧ (∀ a b : Bool, ((a || b) = true) = (a = true ∨ b = true)) ∧ (∀ a b : Bool, ((a && b) = false) = (a = false ∨ b = false)) ∧ (∀ a b : Bool, ((a || b) = false) = (a = false ∧ b = false)) ∧ (∀ b : Bool, ((!b) = true) = (b = false)) ∧ (∀ b : Bool, ((!b) = false) = (b = true)) :=
  ⟨fun p _ => decide_eq_true_eq, fun p _ => propext decide_eq_false_iff_not, fun a b => Bool.and_eq_true a b, fun a b => Bool.or_eq_true a b, fun a b => propext (Bool.and_eq_false_iff), fun a b => propext (Bool.or_eq_false_iff), fun b => Bool.not_eq_true' b, fun b => Bool.not_eq_false' b⟩
end Go
namespace Go.Eng
open Go.RowKit
def red {α : Type} (P : Program) : Sem α → Option α
 | .pure a => some a
 | .program k => red P (k P)
 | .mark _ k => red P k
 | _ => none
theorem red_run {α : Type} {P : Program} {w : World} : ∀ {s : Sem α} {a : α}, red P s = some a → s.run P w = .ok a w
 | .pure _, _, h => by simp only [red, Option.some.injEq] at h; rw [h]; rfl
 | .program k, _, h => by simp only [red] at h; exact red_run (s := k P) h
 | .mark _ k, _, h => by simp only [red] at h; exact red_run (s := k) h
 | .load .., _, h => by simp [red] at h
 | .store .., _, h => by simp [red] at h
 | .new .., _, h => by simp [red] at h
 | .shape .., _, h => by simp [red] at h
 | .freeze .., _, h => by simp [red] at h
 | .frozen .., _, h => by simp [red] at h
 | .getObj .., _, h => by simp [red] at h
 | .setObj .., _, h => by simp [red] at h
 | .choose .., _, h => by simp [red] at h
 | .sys .., _, h => by simp [red] at h
 | .halt .., _, h => by simp [red] at h
abbrev Path := List (Nat × Bool)
inductive SV where
 | v (x : Value)
 | box (i off : Nat)
structure Bx where
 num : Nat
 ty : TypeId
 cells : List Value
structure En where
 slot : Nat
 path : Path
 sv : SV
def nums (own : List Bx) : List Nat := own.map (·.num)
def SV.val (ns : List Nat) : SV → Value
 | .v x => x
 | .box i off => .pointer (some ⟨ns.getD i 0, off, none⟩)
def find : List En → Nat → Option (Path × SV)
 | [], _ => none
 | e :: r, t => if e.slot == t then some (e.path, e.sv) else find r t
def sub (p q : Path) : Bool := p.all fun x => q.any fun y => x.1 == y.1 && x.2 == y.2
def mentions (env : List En) (t : Nat) : Bool := env.any fun e => e.path.any fun x => x.1 == t
def drop (env : List En) (t : Nat) : List En := env.filter fun e => !(e.slot == t)
def Holds (a : Act) (p : Path) : Prop := ∀ x ∈ p, a.tmps.getD x.1 undef = .bool x.2
structure Fits (n : Nat) (env : List En) (ns : List Nat) (a : Act) : Prop where
 defers : a.defers = []
 size : a.tmps.size = n
 yes : ∀ t p sv, find env t = some (p, sv) → Holds a p → a.tmps.getD t undef = sv.val ns
 no : ∀ t p sv, find env t = some (p, sv) → ¬ Holds a p → a.tmps.getD t undef = undef
def lookS (env : List En) (p : Path) : Operand → Option SV
 | .tmp t => match find env t with
  | some (q, sv) => if sub q p then some sv else none
  | none => none
 | .const v => some (.v v)
 | .global g => some (.v (.pointer (some ⟨g, 0, none⟩)))
 | .func f => some (.v (.func (.func f) #[] #[]))
def lookV (env : List En) (ns : List Nat) (p : Path) (x : Operand) : Option Value :=
 match lookS env p x with
 | some sv => some (sv.val ns)
 | none => none
def look (env : List En) (ns : List Nat) (p : Path) (x : Operand) : Value :=
 match lookS env p x with
 | some sv => sv.val ns
 | none => undef
theorem sub_holds {a : Act} {p q : Path} (h : sub p q = true) (hq : Holds a q) : Holds a p := by
 intro x hx
 simp only [sub, List.all_eq_true, List.any_eq_true, Bool.and_eq_true, beq_iff_eq] at h
 obtain ⟨y, hy, h1, h2⟩ := h x hx
 rw [h1, h2]
 exact hq y hy
theorem lookS_eq {n : Nat} {env : List En} {ns : List Nat} {a : Act} (hf : Fits n env ns a) {p : Path} (hp : Holds a p) {x : Operand} {sv : SV} (h : lookS env p x = some sv) : a.eval x = sv.val ns := by
 cases x with
 | tmp t =>
  simp only [lookS] at h
  split at h
  ·rename_i q sv' hfd
   split at h
   ·rename_i hs
    simp only [Option.some.injEq] at h
    subst h
    exact hf.yes t q sv' hfd (sub_holds hs hp)
   ·cases h
  ·cases h
 | _ => simp only [lookS, Option.some.injEq] at h; subst h; rfl
theorem lookV_eq {n : Nat} {env : List En} {ns : List Nat} {a : Act} (hf : Fits n env ns a) {p : Path} (hp : Holds a p) {x : Operand} {v : Value} (h : lookV env ns p x = some v) : a.eval x = v := by
 unfold lookV at h
 split at h
 ·rename_i sv hs
  simp only [Option.some.injEq] at h
  rw [← h]
  exact lookS_eq hf hp hs
 ·cases h
theorem look_eq {n : Nat} {env : List En} {ns : List Nat} {a : Act} (hf : Fits n env ns a) {p : Path} (hp : Holds a p) {x : Operand} (h : (lookS env p x).isSome = true) : look env ns p x = a.eval x := by
 unfold look
 split
 ·rename_i sv hs; exact (lookS_eq hf hp hs).symm
 ·rename_i hs; rw [hs] at h; cases h
theorem find_drop (env : List En) (t u : Nat) : find (drop env t) u = if u = t then none else find env u := by
 induction env with
 | nil => simp [drop, find]
 | cons e r ih =>
  simp only [drop, List.filter_cons] at ih ⊢
  by_cases h : e.slot = t
  ·simp only [h, beq_self_eq_true, Bool.not_true, Bool.false_eq_true, if_false, find]
   rw [ih]
   by_cases hu : u = t
   ·simp [hu]
   ·simp [hu, Ne.symm hu]
  ·simp only [beq_iff_eq, h, not_false_eq_true, Bool.not_eq_true', beq_eq_false_iff_ne, ne_eq, if_true, find]
   by_cases hu : e.slot = u
   ·subst hu; simp [h]
   ·simp [hu, ih]
theorem mentions_spec {env : List En} {t : Nat} (h : mentions env t = false) {u : Nat} {p : Path} {sv : SV} (hf : find env u = some (p, sv)) : ∀ x ∈ p, x.1 ≠ t := by
 induction env with
 | nil => simp [find] at hf
 | cons e r ih =>
  simp only [mentions, List.any_cons, Bool.or_eq_false_iff] at h
  simp only [find] at hf
  split at hf
  ·simp only [Option.some.injEq, Prod.mk.injEq] at hf
   obtain ⟨rfl, _⟩ := hf
   intro x hx he
   have := h.1
   simp only [List.any_eq_false, beq_iff_eq] at this
   exact this x hx he
  ·exact ih h.2 hf
theorem put_getD (a : Act) (t : Nat) (v : Value) (u : Nat) (h : t < a.tmps.size) : (a.put (some t) v).tmps.getD u undef = if u = t then v else a.tmps.getD u undef := by
 simp only [Act.put, Array.getD_eq_getD_getElem?]
 by_cases hu : u = t
 ·subst hu; simp [h]
 ·simp [hu, Array.getElem?_setIfInBounds_ne (Ne.symm hu)]
theorem holds_put {a : Act} {t : Nat} {v : Value} {p : Path} (ht : t < a.tmps.size) (hp : ∀ x ∈ p, x.1 ≠ t) : Holds (a.put (some t) v) p ↔ Holds a p := by
 constructor
 ·intro h x hx; have := h x hx; rw [put_getD _ _ _ _ ht, if_neg (hp x hx)] at this; exact this
 ·intro h x hx; rw [put_getD _ _ _ _ ht, if_neg (hp x hx)]; exact h x hx
theorem Fits.put {n : Nat} {env : List En} {ns : List Nat} {a : Act} (hf : Fits n env ns a) {t : Nat} (ht : t < n) (hm : mentions env t = false) {p : Path} (hpt : ∀ x ∈ p, x.1 ≠ t) {sv : SV} {v : Value}
  (h1 : Holds a p → v = sv.val ns) (h2 : ¬ Holds a p → v = undef) : Fits n (⟨t, p, sv⟩ :: drop env t) ns (a.put (some t) v) := by
 have hts : t < a.tmps.size := by rw [hf.size]; exact ht
 refine ⟨hf.defers, by simp [Act.put, hf.size], ?_, ?_⟩
 ·intro u q sv' hfd hh
  rw [put_getD _ _ _ _ hts]
  simp only [find, beq_iff_eq] at hfd
  by_cases hu : t = u
  ·subst hu
   simp only [if_true, Option.some.injEq, Prod.mk.injEq] at hfd ⊢
   obtain ⟨rfl, rfl⟩ := hfd
   exact h1 ((holds_put hts hpt).1 hh)
  ·rw [if_neg hu, find_drop, if_neg (Ne.symm hu)] at hfd
   rw [if_neg (Ne.symm hu)]
   exact hf.yes u q sv' hfd ((holds_put hts (mentions_spec hm hfd)).1 hh)
 ·intro u q sv' hfd hh
  rw [put_getD _ _ _ _ hts]
  simp only [find, beq_iff_eq] at hfd
  by_cases hu : t = u
  ·subst hu
   simp only [if_true, Option.some.injEq, Prod.mk.injEq] at hfd ⊢
   obtain ⟨rfl, rfl⟩ := hfd
   exact h2 (fun h => hh ((holds_put hts hpt).2 h))
  ·rw [if_neg hu, find_drop, if_neg (Ne.symm hu)] at hfd
   rw [if_neg (Ne.symm hu)]
   exact hf.no u q sv' hfd (fun h => hh ((holds_put hts (mentions_spec hm hfd)).2 h))
def pathOf (ops : Array Oper) (env : List En) (o : Oper) : Option Path :=
 match o.guard with
 | none => some []
 | some (j, want) =>
  match (ops[j]?).bind (·.dst) with
  | none => none
  | some g => match find env g with
   | some (p, .v (.bool _)) => some ((g, want) :: p)
   | _ => none
theorem getD_of_size {a : Act} {t : Nat} {v : Value} (h : a.tmps.getD t undef = v) (hv : v ≠ undef) : a.tmps[t]? = some v := by
 rw [Array.getD_eq_getD_getElem?] at h
 cases hh : a.tmps[t]? with
 | none => rw [hh] at h; simp at h; exact absurd h.symm hv
 | some x => rw [hh] at h; simp at h; rw [h]
theorem wanted_iff {n : Nat} {env : List En} {ns : List Nat} {a : Act} (hf : Fits n env ns a) {ops : Array Oper} {o : Oper} {p : Path} (h : pathOf ops env o = some p) :
  Region.wanted o (yielded ops a.tmps) = true ↔ Holds a p := by
 unfold pathOf at h
 unfold Region.wanted
 split at h
 ·rename_i hg
  simp only [Option.some.injEq] at h
  subst h
  simp [hg, Holds]
 ·rename_i j want hg
  simp only [hg]
  split at h
  ·cases h
  ·rename_i g hd
   split at h
   ·rename_i q b hfd
    simp only [Option.some.injEq] at h
    subst h
    unfold yielded
    rw [hd]
    simp only [Option.bind_some]
    by_cases hq : Holds a q
    ·have := hf.yes g q _ hfd hq
     simp only [SV.val] at this
     rw [getD_of_size this (by simp [undef])]
     simp only [beq_iff_eq, Option.some.injEq]
     constructor
     ·intro hb x hx
      simp only [List.mem_cons] at hx
      rcases hx with rfl | hx
      ·simp only []; rw [this, hb]
      ·exact hq x hx
     ·intro hh
      have h0 := hh (g, want) (by simp)
      simp only [] at h0
      rw [this] at h0
      injection h0
    ·have := hf.no g q _ hfd hq
     constructor
     ·intro hw
      exfalso
      rw [Array.getD_eq_getD_getElem?] at this
      cases hh : a.tmps[g]? with
      | none => rw [hh] at hw; simp at hw
      | some x =>
       rw [hh] at this hw
       simp only [Option.getD_some] at this
       subst this
       simp [undef] at hw
     ·intro hh; exact absurd (fun x hx => hh x (by simp [hx])) hq
   ·cases h
end Go.Eng
