/- Part 36 of the proof: texts K3, V11, X8, X9, T6p. -/
import Derived.Test.YtdejnaokkdndeaaGreatDoorP30
import Derived.Test.YtdejnaokkdndeaaGreatDoorP33
import Derived.Test.YtdejnaokkdndeaaGreatDoorP34
import Derived.Test.YtdejnaokkdndeaaGreatDoorP35
import Derived.Lib.Strings
set_option linter.all false
namespace Go.Proofs.YtdejnaokkdndeaaGreatDoor
open Go.RowKit Go.V
set_option maxRecDepth 1000000 in
theorem aDH (m : Int) : V.Spec Tryz.prog (Gl (gT m)) 10 [] [] (.c (cB true)) [] :=
 kA (fun _ => none) (fun _ => none) (T := eTypes (tyT m) :: eRightC :: eAddC :: eCmpC :: eOne _ _ _ (aH2 m) :: T0) (ne := N0e) (df := D0e) (F := 100000) (d := 60) (cs := [uX = uX]) (by kernel_rfl) (by kernel_rfl) rfl
end Go.Proofs.YtdejnaokkdndeaaGreatDoor
namespace Go.Proofs.YtdejnaokkdndeaaGreatDoor
open Go.RowKit Go.V
open Go.Eng (inR byteAt u8 aU)
section
variable {g : Gv}
end
end Go.Proofs.YtdejnaokkdndeaaGreatDoor
namespace Go.V
open Go.RowKit
section
variable {P : Program} {G : List (Nat × List Value)}
end
section
variable {P : Program} {G : List (Nat × List Value)}
end
end Go.V
namespace Go.V
open Go.RowKit
section
variable {P : Program} {G : List (Nat × List Value)}
def eT (f : FuncId) (tell : Nat → List (Nat × Ob) → Option (SV × List (Nat × Ob))) : Ent P G where
 f := f
 ask := fun k ins refs => match tell k refs with
  | some (out, post) => some (out, post, [Spec P G f ins refs out post])
  | none => none
 ok := by
  intro k ins refs post out cs h hc
  split at h
  cases h; exact hc
  cases h
end
end Go.V
namespace Go.Proofs.YtdejnaokkdndeaaGreatDoor
open Go.RowKit Go.V
theorem fD (l : List UInt8) : (S l).data.toList = l := by simp [S]
def dM (c : Int) : Int := if c < 32 ∨ c > 126 then 0 else if 48 ≤ c ∧ c ≤ 57 then 1 else if 65 ≤ c ∧ c ≤ 90 then 2 else if 97 ≤ c ∧ c ≤ 122 then 3 else if c = 32 then 5 else 6
def iH (a b : Int) : Bool := decide (a = b) || decide (b = 7) || (decide (b = 4) && (decide (a = 2) || decide (a = 3)))
structure Pc where
 cls : Int
 least : Int
 most : Int
 text : List UInt8
def Pc.z : Pc := ⟨0, 0, 0, []⟩
def pcD (p : Pc) : List D := [.i p.cls, .i p.least, .i p.most, .s (S p.text)]
def bJ (l : List Pc) : List (List D) := l.map pcD
def chP (l : List UInt8) (i : Nat) : Int := ((l.getD i 0).toNat : Int)
def mxI (a b : Int) : Int := if b > a then b else a
def mxC (p : Pc) (l : List UInt8) (af : List Int) (i : Nat) : Nat → Nat → Int → Int
  | 0, j, m => m
  | f + 1, j, m => if (j : Int) ≤ p.most then
      (if i + j = l.length ∨ iH (dM (chP l (i + j))) p.cls = false then (if p.least ≤ (j : Int) then mxI m (af.getD (i + j) 0) else m)
       else mxC p l af i f (j + 1) (if p.least ≤ (j : Int) then mxI m (af.getD (i + j) 0) else m)) else m
def cP (p : Pc) (l : List UInt8) (af : List Int) (i : Nat) : Int :=
 if p.cls = 0 then (if Lib.hasPrefix (l.drop i) p.text then mxI (-1) (af.getD (i + p.text.length) 0) else -1) else mxC p l af i (l.length + 1 - i) 0 (-1)
def aF1 (p : Pc) (l : List UInt8) (af : List Int) : List Int := (List.range (l.length + 1)).map (cP p l af)
def aG (l : List UInt8) : List Pc → List Int
 | [] => (List.range (l.length + 1)).map fun i : Nat => (i : Int)
 | p :: r => aF1 p l (aG l r)
theorem lR (p : Pc) (l : List UInt8) (af : List Int) (i f j : Nat) (m : Int) : mxC p l af i (f + 1) j m = if (j : Int) ≤ p.most then
      (if i + j = l.length ∨ iH (dM (chP l (i + j))) p.cls = false then (if p.least ≤ (j : Int) then mxI m (af.getD (i + j) 0) else m)
       else mxC p l af i f (j + 1) (if p.least ≤ (j : Int) then mxI m (af.getD (i + j) 0) else m)) else m := rfl
theorem eE (t : List UInt8) (ps : List Pc) : (aG t ps).length = t.length + 1 := by
 cases ps <;> simp [aG, aF1]
def aCZ (p : Pc) (l : List UInt8) (i k : Nat) : Prop := p.least ≤ (k : Int) ∧ (k : Int) ≤ p.most ∧ i + k ≤ l.length ∧ ∀ q, q < k → iH (dM (chP l (i + q))) p.cls = true
def PM (p : Pc) (l : List UInt8) (i m : Nat) : Prop :=
 if p.cls = 0 then Lib.hasPrefix (l.drop i) p.text = true ∧ m = i + p.text.length ∧ m ≤ l.length else ∃ k, m = i + k ∧ aCZ p l i k
def Mt : List Pc → List UInt8 → Nat → Nat → Prop
 | [], l, i, e => i = e ∧ i ≤ l.length
 | p :: r, l, i, e => ∃ m, PM p l i m ∧ Mt r l m e
theorem mxI_l (a b : Int) : a ≤ mxI a b := by unfold mxI; split <;> omega
theorem aG5 (a b : Int) : b ≤ mxI a b := by unfold mxI; split <;> omega
theorem aAC (a b : Int) : mxI a b = a ∨ mxI a b = b := by unfold mxI; split <;> simp
theorem wX (p : Pc) (l : List UInt8) (af : List Int) (i : Nat) : ∀ (f j : Nat) (m : Int), i + j + f = l.length + 1 → (∀ q, q < j → iH (dM (chP l (i + q))) p.cls = true) →
  m ≤ mxC p l af i f j m ∧ (∀ k, j ≤ k → aCZ p l i k → af.getD (i + k) 0 ≤ mxC p l af i f j m) ∧ (mxC p l af i f j m = m ∨ ∃ k, j ≤ k ∧ aCZ p l i k ∧ mxC p l af i f j m = af.getD (i + k) 0)
 | 0, j, m, hf, hq => by
  refine ⟨Int.le_refl _, fun k hk h => ?_, .inl rfl⟩
  have := h.2.2.1
  omega
 | f + 1, j, m, hf, hq => by
  rw [lR]
  by_cases hm : (j : Int) ≤ p.most
  rw [if_pos hm]
  by_cases hs : i + j = l.length ∨ iH (dM (chP l (i + j))) p.cls = false
  rw [if_pos hs]
  have hj : ∀ k, j ≤ k → aCZ p l i k → k = j := by
   intro k hk h
   rcases Nat.eq_or_lt_of_le hk with h1 | h1
   exact h1.symm
   exfalso
   rcases hs with hs | hs
   have := h.2.2.1; omega
   rw [h.2.2.2 j h1] at hs; cases hs
  by_cases hl : p.least ≤ (j : Int)
  rw [if_pos hl]
  refine ⟨mxI_l _ _, fun k hk h => ?_, ?_⟩
  rw [hj k hk h]; exact aG5 _ _
  rcases aAC m (af.getD (i + j) 0) with h | h
  exact .inl h
  exact .inr ⟨j, Nat.le_refl _, ⟨hl, hm, by omega, hq⟩, h⟩
  rw [if_neg hl]
  refine ⟨Int.le_refl _, fun k hk h => ?_, .inl rfl⟩
  rw [hj k hk h] at h
  exact absurd h.1 hl
  rw [if_neg hs]
  have h1 : ¬ i + j = l.length := fun h => hs (.inl h)
  have h2 : iH (dM (chP l (i + j))) p.cls = true := by
   cases h : iH (dM (chP l (i + j))) p.cls with
   | true => rfl
   | false => exact absurd (.inr h) hs
  have hq' : ∀ q, q < j + 1 → iH (dM (chP l (i + q))) p.cls = true := by
   intro q h
   rcases Nat.eq_or_lt_of_le (Nat.le_of_lt_succ h) with h3 | h3
   rw [h3]; exact h2
   exact hq q h3
  obtain ⟨a, b, c⟩ := wX p l af i f (j + 1) (if p.least ≤ (j : Int) then mxI m (af.getD (i + j) 0) else m) (by omega) hq'
  generalize hR : mxC p l af i f (j + 1) (if p.least ≤ (j : Int) then mxI m (af.getD (i + j) 0) else m) = R at a b c ⊢
  by_cases hl : p.least ≤ (j : Int)
  rw [if_pos hl] at a c
  refine ⟨Int.le_trans (mxI_l _ _) a, fun k hk h => ?_, ?_⟩
  rcases Nat.eq_or_lt_of_le hk with h3 | h3
  rw [← h3]; exact Int.le_trans (aG5 _ _) a
  exact b k h3 h
  rcases c with c | ⟨k, hk, h, e⟩
  rcases aAC m (af.getD (i + j) 0) with h | h
  exact .inl (c.trans h)
  exact .inr ⟨j, Nat.le_refl _, ⟨hl, hm, by omega, hq⟩, c.trans h⟩
  exact .inr ⟨k, by omega, h, e⟩
  rw [if_neg hl] at a c
  refine ⟨a, fun k hk h => ?_, ?_⟩
  rcases Nat.eq_or_lt_of_le hk with h3 | h3
  rw [← h3] at h; exact absurd h.1 hl
  exact b k h3 h
  rcases c with c | ⟨k, hk, h, e⟩
  exact .inl c
  exact .inr ⟨k, by omega, h, e⟩
  rw [if_neg hm]
  refine ⟨Int.le_refl _, fun k hk h => ?_, .inl rfl⟩
  have := h.2.1
  omega
theorem hasP_le {l q : List UInt8} (h : Lib.hasPrefix l q = true) : q.length ≤ l.length := (List.isPrefixOf_iff_prefix.1 h).length_le
theorem aA2 (p : Pc) (l : List UInt8) (af : List Int) (i : Nat) (hi : i ≤ l.length) :
  (∀ m, PM p l i m → af.getD m 0 ≤ cP p l af i) ∧ (cP p l af i = -1 ∨ ∃ m, PM p l i m ∧ cP p l af i = af.getD m 0) := by
 unfold cP PM
 by_cases hc : p.cls = 0
 simp only [if_pos hc]
 cases hp : Lib.hasPrefix (l.drop i) p.text with
 | true =>
  have hl := hasP_le hp
  rw [List.length_drop] at hl
  simp only [if_true]
  refine ⟨fun m h => by rw [h.2.1]; exact aG5 _ _, ?_⟩
  rcases aAC (-1) (af.getD (i + p.text.length) 0) with h | h
  exact .inl h
  exact .inr ⟨_, ⟨trivial, rfl, by omega⟩, h⟩
 | false =>
  simp
 simp only [if_neg hc]
 obtain ⟨a, b, c⟩ := wX p l af i (l.length + 1 - i) 0 (-1) (by omega) (fun q h => by omega)
 refine ⟨fun m h => ?_, ?_⟩
 obtain ⟨k, rfl, h⟩ := h
 exact b k (Nat.zero_le _) h
 rcases c with c | ⟨k, _, h, e⟩
 exact .inl c
 exact .inr ⟨i + k, ⟨k, rfl, h⟩, e⟩
theorem yF {p : Pc} {l : List UInt8} {i m : Nat} (h : PM p l i m) : i ≤ m ∧ m ≤ l.length := by
 unfold PM at h
 split at h
 obtain ⟨_, h1, h2⟩ := h
 omega
 obtain ⟨k, h1, h2⟩ := h
 have := h2.2.2.1
 omega
theorem yG : ∀ {ps : List Pc} {l : List UInt8} {i e : Nat}, Mt ps l i e → i ≤ e ∧ e ≤ l.length
 | [], l, i, e, h => by
  obtain ⟨h1, h2⟩ := h
  omega
 | p :: r, l, i, e, h => by
  obtain ⟨m, h1, h2⟩ := h
  have a := yF h1
  have b := yG h2
  omega
theorem gF (l : List UInt8) : ∀ (ps : List Pc) (i : Nat), i ≤ l.length → (∀ e, Mt ps l i e → (e : Int) ≤ (aG l ps).getD i 0) ∧ ((aG l ps).getD i 0 = -1 ∨ ∃ e : Nat, (aG l ps).getD i 0 = e ∧ Mt ps l i e)
 | [], i, hi => by
  have : (aG l []).getD i 0 = (i : Int) := by
   simp only [aG]
   rw [List.getD_eq_getElem?_getD, List.getElem?_map, List.getElem?_range (by omega)]; rfl
  rw [this]
  exact ⟨fun e h => by rw [h.1]; omega, .inr ⟨i, rfl, rfl, hi⟩⟩
 | p :: r, i, hi => by
  have : (aG l (p :: r)).getD i 0 = cP p l (aG l r) i := by
   simp only [aG, aF1]
   rw [List.getD_eq_getElem?_getD, List.getElem?_map, List.getElem?_range (by omega)]; rfl
  rw [this]
  obtain ⟨a, b⟩ := aA2 p l (aG l r) i hi
  refine ⟨fun e h => ?_, ?_⟩
  obtain ⟨m, h1, h2⟩ := h
  exact Int.le_trans ((gF l r m (yF h1).2).1 e h2) (a m h1)
  rcases b with b | ⟨m, h1, h2⟩
  exact .inl b
  rcases (gF l r m (yF h1).2).2 with h3 | ⟨e, h3, h4⟩
  exact .inl (h2.trans h3)
  exact .inr ⟨e, h2.trans h3, m, h1, h4⟩
theorem aIX {l : List UInt8} {a n q : Nat} (h : q < n) : chP ((l.drop a).take n) q = chP l (a + q) := by
 unfold chP
 rw [List.getD_eq_getElem?_getD, List.getD_eq_getElem?_getD, List.getElem?_take_of_lt h, List.getElem?_drop]
theorem PM_part {p : Pc} {l : List UInt8} {a n i m : Nat} (ha : a + n ≤ l.length) (hm : a + m ≤ a + n) (h : PM p l (a + i) (a + m)) : PM p ((l.drop a).take n) i m := by
 have hle := yF h
 have hl : ((l.drop a).take n).length = n := by rw [List.length_take, List.length_drop]; omega
 unfold PM at h ⊢
 split
 rename_i hc
 rw [if_pos hc] at h
 obtain ⟨h1, h2, h3⟩ := h
 refine ⟨?_, by omega, by omega⟩
 have e : ((l.drop a).take n).drop i = (l.drop (a + i)).take (n - i) := by rw [List.drop_take, List.drop_drop]
 rw [e]
 have h4 : p.text <+: l.drop (a + i) := List.isPrefixOf_iff_prefix.1 h1
 exact List.isPrefixOf_iff_prefix.2 (List.prefix_take_iff.2 ⟨h4, by omega⟩)
 rename_i hc
 rw [if_neg hc] at h
 obtain ⟨k, h1, h2, h3, h4, h5⟩ := h
 refine ⟨k, by omega, h2, h3, by omega, fun q hq => ?_⟩
 rw [aIX (by omega), ← Nat.add_assoc]
 exact h5 q hq
theorem aC0 {l : List UInt8} {a n : Nat} (ha : a + n ≤ l.length) : ∀ {ps : List Pc} {i e : Nat}, e ≤ n → Mt ps l (a + i) (a + e) → Mt ps ((l.drop a).take n) i e
 | [], i, e, he, h => by
  have hl : ((l.drop a).take n).length = n := by rw [List.length_take, List.length_drop]; omega
  exact ⟨by have := h.1; omega, by have := h.1; omega⟩
 | p :: r, i, e, he, h => by
  obtain ⟨m, h1, h2⟩ := h
  have a1 := yF h1
  have a2 := yG h2
  obtain ⟨m', rfl⟩ : ∃ m', m = a + m' := ⟨m - a, by omega⟩
  exact ⟨m', PM_part ha (by omega) h1, aC0 ha he h2⟩
theorem zF {l : List UInt8} {ps : List Pc} {a b : Nat} (ha : a ≤ l.length) (hab : a < b) (h : (aG l ps).getD a 0 = (b : Int)) : b ≤ l.length ∧ (aG ((l.drop a).take (b - a)) ps).getD 0 0 = ((b - a : Nat) : Int) := by
 rcases (gF l ps a ha).2 with h1 | ⟨e, h1, h2⟩
 omega
 have e1 : e = b := by omega
 subst e1
 have hb := (yG h2).2
 have hl : ((l.drop a).take (e - a)).length = e - a := by rw [List.length_take, List.length_drop]; omega
 have h3 : Mt ps ((l.drop a).take (e - a)) 0 (e - a) := aC0 (by omega) (Nat.le_refl _) (by rw [Nat.add_zero, Nat.add_sub_cancel' (by omega)]; exact h2)
 obtain ⟨c, d⟩ := gF ((l.drop a).take (e - a)) ps 0 (Nat.zero_le _)
 refine ⟨hb, ?_⟩
 rcases d with d | ⟨e', d, d2⟩
 have := c _ h3; omega
 have := c _ h3
 have := (yG d2).2
 omega
def gK (tr : List Int) (n : Nat) : Nat → Nat → Int → Option (Nat × Nat)
 | 0, _, _ => none
 | f + 1, p, k => if n ≤ p then none else if tr.getD p 0 ≤ (p : Int) then gK tr n f (p + 1) k else if k = 1 then some (p, (tr.getD p 0).toNat) else gK tr n f (tr.getD p 0).toNat (k - 1)
theorem qH (tr : List Int) (n : Nat) : ∀ (f p : Nat) (k : Int) (a b : Nat), gK tr n f p k = some (a, b) → a < n ∧ a < b ∧ tr.getD a 0 = (b : Int)
 | 0, p, k, a, b, h => by cases h
 | f + 1, p, k, a, b, h => by
  rw [gK] at h
  split at h
  cases h
  split at h
  exact qH tr n f _ _ a b h
  split at h
  simp only [Option.some.injEq, Prod.mk.injEq] at h
  obtain ⟨rfl, rfl⟩ := h
  refine ⟨by omega, by omega, by omega⟩
  exact qH tr n f _ _ a b h
def sN (ps : List Pc) (t : List UInt8) (k : Int) : Option (Nat × Nat) := gK (aG t ps) t.length (t.length + 1) 0 k
theorem aEJ {ps : List Pc} {t : List UInt8} {k : Int} {a b : Nat} (h : sN ps t k = some (a, b)) : a < b ∧ b ≤ t.length ∧ (aG ((t.drop a).take (b - a)) ps).getD 0 0 = ((b - a : Nat) : Int) := by
 obtain ⟨h1, h2, h3⟩ := qH _ _ _ _ _ _ _ h
 obtain ⟨h4, h5⟩ := zF (by omega) h2 h3
 exact ⟨h2, h4, h5⟩
end Go.Proofs.YtdejnaokkdndeaaGreatDoor
