/- Part 6 of the proof: texts Eng6. -/
import Derived.Test.YtmpgfchkkemngaaGreatDoorP5
set_option linter.all false
namespace Go.Eng
open Go.RowKit
section
variable {P : Program} {n : Nat} {ops : Array Oper} {Q : Exit → Act → World → Prop} {own : List Bx} {w : World} {env : List En}
theorem OwnOk.blk (h : OwnOk w own) (i : Nat) {b : Bx} (hb : own[i]? = some b) : w.heap[b.num]? = some (.cells b.cells.toArray b.ty (0, 0)) := h.at_ i b hb
theorem OwnOk.only {w' : World} (h : OwnOk w own) {i : Nat} {b : Bx} (hb : own[i]? = some b) (hg : w.grownBy w' (some b.num)) {cs : List Value} (hc : w'.heap[b.num]? = some (.cells cs.toArray b.ty (0, 0))) : OwnOk w' (own.set i ⟨b.num, b.ty, cs⟩) := by
 have hil : i < own.length := (List.getElem?_eq_some_iff.1 hb).1
 have hn : ∀ (k : Nat) (c : Bx), (own.set i ⟨b.num, b.ty, cs⟩)[k]? = some c → (k = i ∧ c = ⟨b.num, b.ty, cs⟩) ∨ (k ≠ i ∧ own[k]? = some c) := by
  intro k c hk
  rw [List.getElem?_set] at hk
  by_cases hik : i = k
  ·subst hik
   simp only [if_true, if_pos hil, Option.some.injEq] at hk
   exact .inl ⟨rfl, hk.symm⟩
  ·rw [if_neg hik] at hk
   exact .inr ⟨fun e => hik e.symm, hk⟩
 refine ⟨fun k c hk => ?_, fun k l c d hk hl hcd => ?_⟩
 ·rcases hn k c hk with ⟨rfl, rfl⟩ | ⟨hne, hk'⟩
  ·exact hc
  ·rw [hg.block _ (h.lt hk') (fun e => hne (h.inj k i c b hk' hb (by injection e)))]
   exact h.at_ k c hk'
 ·rcases hn k c hk with ⟨rfl, rfl⟩ | ⟨hne, hk'⟩ <;> rcases hn l d hl with ⟨rfl, rfl⟩ | ⟨hne', hl'⟩
  ·rfl
  ·exact absurd (h.inj l k d b hl' hb hcd.symm) hne'
  ·exact absurd (h.inj k l c b hk' hb hcd) hne
  ·exact h.inj k l c d hk' hl' hcd
theorem only_refl (a : World) (r : Option Nat) : a.grownBy a r := ⟨rfl, rfl, rfl, Nat.le_refl _, fun _ _ _ => rfl⟩
end
def Row (w : World) (e : TypeId) (sz : Nat) (A : Option Addr) (n : Nat) (xs : List Value) : Prop :=
 xs.length = n * sz ∧ (0 < n → ∃ b off cur fz, A = some ⟨b, off, none⟩ ∧ w.heap[b]? = some (.cells cur e fz) ∧ ∀ (j : Nat) (u : Value), xs[j]? = some u → cur[off + j]? = some u)
def KeepT (e : TypeId) (w w' : World) : Prop := ∀ (b : Nat) (cur : Array Value) (fz : Nat × Nat), w.heap[b]? = some (.cells cur e fz) → w'.heap[b]? = some (.cells cur e fz)
theorem KeepT.below {e : TypeId} {w w' : World} (h : Below w.heap.size w w') : KeepT e w w' := fun b _ _ hb => (h.block b (Array.getElem?_eq_some_iff.1 hb).1).trans hb
theorem KeepT.only {e t : TypeId} {w w' : World} {g : Nat} {cs : Array Value} {fz : Nat × Nat} (h : w.grownBy w' (some g)) (hg : w.heap[g]? = some (.cells cs t fz)) (hne : t ≠ e) : KeepT e w w' := fun b cur f hb => by
 rw [h.block b (Array.getElem?_eq_some_iff.1 hb).1 (fun he => by injection he with he; subst he; rw [hg] at hb; injection hb with hb; injection hb with _ h2; exact hne h2)]
 exact hb
theorem KeepT.trans {e : TypeId} {a b c : World} (h : KeepT e a b) (k : KeepT e b c) : KeepT e a c := fun x cur fz hx => k x cur fz (h x cur fz hx)
section
variable {P : Program} {w w' : World} {e : TypeId} {sz n : Nat} {A : Option Addr} {xs : List Value}
theorem Row.keep (h : Row w e sz A n xs) (hk : KeepT e w w') : Row w' e sz A n xs := ⟨h.1, fun hn => by
 obtain ⟨b, off, cur, fz, hA, hb, hc⟩ := h.2 hn
 exact ⟨b, off, cur, fz, hA, hk b cur fz hb, hc⟩⟩
theorem Row.nil : Row w e sz A 0 [] := ⟨by simp, fun h => absurd h (by omega)⟩
theorem Row.some_ (h : Row w e sz A n xs) (hn : 0 < n) : ∃ b off, A = some ⟨b, off, none⟩ := by
 obtain ⟨b, off, _, _, hA, _⟩ := h.2 hn
 exact ⟨b, off, hA⟩
theorem Row.cell {b off : Nat} (h : Row w e sz (some ⟨b, off, none⟩) n xs) {j : Nat} {u : Value} (hj : xs[j]? = some u) : w.cell? ⟨b, off + j, none⟩ = some u := by
 have hn : 0 < n := by
  rcases Nat.eq_zero_or_pos n with h0 | h0
  ·have := h.1; rw [h0, Nat.zero_mul] at this; rw [List.eq_nil_of_length_eq_zero this] at hj; simp at hj
  ·exact h0
 obtain ⟨b', off', cur, fz, hA, hb, hc⟩ := h.2 hn
 simp only [Option.some.injEq, Addr.mk.injEq, and_true] at hA
 obtain ⟨rfl, rfl⟩ := hA
 rw [cell_of_row w b (off + j) cur e fz hb]
 exact hc j u hj
end
end Go.Eng
