/- Part 34 of the proof: texts M0, D0, M1, D1, D2, N0, N1, N2, N3. -/
import Derived.Test.YtmpgfchkkemngaaGreatDoorP33
import Derived.Test.YtmpgfchkkemngaaGreatDoorProg
import Derived.Lib.Small
set_option linter.all false
namespace Go.Proofs.YtmpgfchkkemngaaGreatDoor
open Go.RowKit
open Go.Eng (inR byteAt u8 bH)
abbrev bs (s : ByteArray) : List UInt8 := s.data.toList
theorem x6 (s : ByteArray) : (bs s).length = s.size := by cases s; simp [ByteArray.size]
def bAt (s : ByteArray) (k : Nat) : UInt8 := (bs s).getD k 0
theorem jL (s : ByteArray) (k : Nat) (h : k < s.size) : (bs s).drop k = bAt s k :: (bs s).drop (k + 1) := by
 have h' : k < (bs s).length := by rw [x6]; exact h
 rw [List.drop_eq_getElem_cons h', bAt, List.getD_eq_getElem?_getD, List.getElem?_eq_getElem h']; rfl
theorem fB (a b : ByteArray) : (a.toList == b.toList) = decide (a = b) := by
 rw [Bool.eq_iff_iff]; simp only [beq_iff_eq, decide_eq_true_eq, ByteArray.toList_eq]
 constructor
 intro h
 cases a; cases b
 exact congrArg ByteArray.mk (Array.toList_inj.1 h)
 rintro rfl; rfl
theorem aJD (a : ByteArray) : a = ⟨#[]⟩ ↔ a.size = 0 := by
 constructor
 rintro rfl; rfl
 intro h
 cases a with
 | mk d => simp only [ByteArray.size] at h; rw [Array.eq_empty_of_size_eq_zero h]
theorem aAP (s : ByteArray) (k : Nat) (h : s.size ≤ k) : (bs s).drop k = [] := List.drop_eq_nil_of_le (by rw [x6]; exact h)
theorem eH (s : ByteArray) (k : Nat) : byteAt s (k : Int) = ((bAt s k).toNat : Int) := by simp [byteAt, bAt]
def cA (c : Int) : Bool := (decide (c ≥ 97) && decide (c ≤ 122)) || (decide (c ≥ 65) && decide (c ≤ 90))
def f6 (c : UInt8) : Bool := decide (32 ≤ (c.toNat : Int)) && decide ((c.toNat : Int) ≤ 126)
def iE (s : ByteArray) : Bool := (bs s).all f6 && decide ((s.size : Int) ≤ 200)
def cJ (c : UInt8) : Bool := cA c.toNat || decide ((c.toNat : Int) = 95) || (decide (48 ≤ (c.toNat : Int)) && decide ((c.toNat : Int) ≤ 57))
def dG (s : ByteArray) : Bool := decide (1 ≤ s.size) && decide (s.size ≤ 20) && cA (bAt s 0).toNat && (bs s).all cJ
theorem aGC {x : Int} {b : Bool} (h : (b = true ∨ x = 95) ∨ ¬ x < 48 ∧ ¬ x > 57) : (b || decide (x = 95) || (decide (48 ≤ x) && decide (x ≤ 57))) = true := by
 rcases h with (h | h) | h
 simp [h]
 simp [h]
 have h1 : 48 ≤ x := by omega
 have h2 : x ≤ 57 := by omega
 simp [h1, h2]
theorem aA8 {x : Int} {b : Bool} (h : (b = false ∧ ¬ x = 95) ∧ (x < 48 ∨ x > 57)) : (b || decide (x = 95) || (decide (48 ≤ x) && decide (x ≤ 57))) = false := by
 obtain ⟨⟨h1, h2⟩, h3⟩ := h
 simp [h1, h2]; omega
theorem mN (s : ByteArray) : byteAt s 0 = ((bAt s 0).toNat : Int) := eH s 0
theorem aIV {s : ByteArray} (h : (¬ s.size = 0 ∧ ¬ (s.size : Int) > 20) ∧ cA (byteAt s 0) = true) (ht : (bs s).all cJ = true) : dG s = true := by
 obtain ⟨⟨h1, h2⟩, h3⟩ := h
 rw [mN] at h3
 simp only [dG, h3, ht, Bool.and_true, Bool.and_eq_true, decide_eq_true_eq]; omega
theorem uA {s : ByteArray} (h : (s.size = 0 ∨ (s.size : Int) > 20) ∨ cA (byteAt s 0) = false) : dG s = false := by
 rcases h with (h | h) | h
 simp [dG, h]
 have : ¬ s.size ≤ 20 := by omega
 simp [dG, this]
 rw [mN] at h; simp [dG, h]
theorem wZ {s : ByteArray} (ht : (bs s).all cJ = false) : dG s = false := by simp [dG, ht]
theorem kZ (x : Int) : cA x = true ↔ (x ≥ 97 ∧ x ≤ 122 ∨ x ≥ 65 ∧ x ≤ 90) := by simp [cA]
theorem pO (x : Int) : cA x = false ↔ ¬ (x ≥ 97 ∧ x ≤ 122 ∨ x ≥ 65 ∧ x ≤ 90) := by rw [← kZ]; simp
theorem rn_tail {c : UInt8} {k : Int} (h : ((c.toNat : Int) ≥ 97 ∧ (c.toNat : Int) ≤ 122 ∨ (c.toNat : Int) ≥ 65 ∧ (c.toNat : Int) ≤ 90) ∨ ¬ k = 0 ∧ ((c.toNat : Int) = 95 ∨ ¬ (c.toNat : Int) < 48 ∧ ¬ (c.toNat : Int) > 57)) : cJ c = true := by
 rcases h with h | ⟨_, h | h⟩
 rw [cJ, (kZ _).2 h]; rfl
 rw [cJ, h]; simp
 exact aGC (.inr h)
theorem rn_head {s : ByteArray} {k : Nat} {Z : Prop} (h : (((bAt s k).toNat : Int) ≥ 97 ∧ ((bAt s k).toNat : Int) ≤ 122 ∨ ((bAt s k).toNat : Int) ≥ 65 ∧ ((bAt s k).toNat : Int) ≤ 90) ∨ ¬ (k : Int) = 0 ∧ Z)
  (hl : 1 ≤ k → cA (bAt s 0).toNat = true) : cA (bAt s 0).toNat = true := by
 by_cases hk : k = 0
 subst hk
 rcases h with h | h
 exact (kZ _).2 h
 exact absurd rfl h.1
 exact hl (by omega)
theorem rn_bad {s : ByteArray} {k : Nat} {r : List UInt8} (h : ¬ (((bAt s k).toNat : Int) ≥ 97 ∧ ((bAt s k).toNat : Int) ≤ 122 ∨ ((bAt s k).toNat : Int) ≥ 65 ∧ ((bAt s k).toNat : Int) ≤ 90) ∧ ((k : Int) = 0 ∨ ¬ ((bAt s k).toNat : Int) = 95 ∧ (((bAt s k).toNat : Int) < 48 ∨ ((bAt s k).toNat : Int) > 57)))
  (hall : (bs s).all cJ = ((bs s).drop k).all cJ) (hd : (bs s).drop k = bAt s k :: r) : dG s = false := by
 obtain ⟨h1, h2⟩ := h
 rcases h2 with h2 | h2
 have : k = 0 := by omega
 subst this
 exact uA (.inr (by rw [mN]; exact (pO _).2 h1))
 exact wZ (by rw [hall, hd, List.all_cons, cJ, aA8 ⟨⟨(pO _).2 h1, h2.1⟩, h2.2⟩, Bool.false_and])
theorem rn_end {s : ByteArray} {k : Nat} (hall : (bs s).all cJ = ((bs s).drop k).all cJ) (hd : (bs s).drop k = []) (hk : s.size ≤ k) (hl : 1 ≤ k → cA (bAt s 0).toNat = true) :
  (decide ((s.size : Int) ≥ 1) && decide ((s.size : Int) ≤ 20)) = dG s := by
 rw [hd] at hall
 simp only [List.all_nil] at hall
 by_cases h : s.size = 0
 simp [dG, h]
 simp only [dG, hall, hl (by omega), Bool.and_true]
 rw [Bool.eq_iff_iff]; simp; omega
def j7 (y : Int) : Bool := decide (y % 4 = 0) && (decide (y % 100 ≠ 0) || decide (y % 400 = 0))
def cZ (n s : Int) : Bool := decide (0 ≤ s) && decide (s ≤ 6) && decide (-1000000000000000 ≤ n) && decide (n ≤ 1000000000000000) && (decide (s = 0) || decide (n.tmod 10 ≠ 0))
def lpI (y : Int) : Int := if j7 y then 1 else 0
def dI (y m : Int) : Int := if m = 2 then 28 + lpI y else if m = 4 ∨ m = 6 ∨ m = 9 ∨ m = 11 then 30 else 31
def dby (y : Int) : Int := 365 * (y - 1) + (y - 1) / 4 - (y - 1) / 100 + (y - 1) / 400
def cumN (y : Int) : Nat → Int
 | 0 => 0
 | k + 1 => cumN y k + dI y (k + 1)
def cum (y m : Int) : Int := cumN y (m - 1).toNat
def eO (y m d : Int) : Int := dby y + d - 1 + cum y m
def vld (y m d : Int) : Prop := 1 ≤ y ∧ y ≤ 9999 ∧ 1 ≤ m ∧ m ≤ 12 ∧ 1 ≤ d ∧ d ≤ dI y m
theorem aL2 (y : Int) : lpI y = 0 ∨ lpI y = 1 := by unfold lpI; split <;> simp
theorem mL (y : Int) (h : 1 ≤ y) : dby (y + 1) = dby y + 365 + lpI y := by
 have h2 : lpI y = if (y % 4 = 0 ∧ (y % 100 ≠ 0 ∨ y % 400 = 0)) then 1 else 0 := by
  unfold lpI j7; simp
 rw [h2]
 unfold dby
 split <;> omega
theorem pW (a b : Int) (h0 : 1 ≤ a) (h : a ≤ b) : dby a ≤ dby b := by unfold dby; omega
theorem aNK : dby 1 = 0 := by decide
theorem sN : dby 10000 = 3652059 := by decide
theorem oM (y : Int) (h0 : 1 ≤ y) (h : y ≤ 10000) : 0 ≤ dby y ∧ dby y ≤ 3652059 := by
 have h1 := pW 1 y (by omega) h0
 have h2 := pW y 10000 h0 h
 rw [aNK] at h1; rw [sN] at h2; exact ⟨h1, h2⟩
theorem iF (y m : Int) : 28 ≤ dI y m ∧ dI y m ≤ 31 := by
 have := aL2 y
 unfold dI; split
 omega
 split <;> omega
theorem u5 (y : Int) : cum y 1 = 0 := rfl
theorem eM (y m : Int) (h : 1 ≤ m) : cum y (m + 1) = cum y m + dI y m := by
 unfold cum
 obtain ⟨k, hk⟩ : ∃ k : Nat, m = (k : Int) + 1 := ⟨(m - 1).toNat, by omega⟩
 subst hk
 have e1 : ((k : Int) + 1 + 1 - 1).toNat = k + 1 := by omega
 have e2 : ((k : Int) + 1 - 1).toNat = k := by omega
 rw [e1, e2]; rfl
theorem rE (y : Int) : cum y 13 = 365 + lpI y := by
 have : cum y 13 = cumN y 12 := rfl
 rw [this]
 simp [cumN, dI]; omega
theorem i6 (y : Int) : ∀ (a b : Int), 1 ≤ a → a ≤ b → cum y a ≤ cum y b := by
 intro a b ha hab
 obtain ⟨k, hk⟩ : ∃ k : Nat, b = a + k := ⟨(b - a).toNat, by omega⟩
 subst hk
 clear hab
 induction k with
 | zero => simp
 | succ k ih =>
  have := eM y (a + k) (by omega)
  have h2 := iF y (a + k)
  have e : a + ((k + 1 : Nat) : Int) = a + k + 1 := by omega
  rw [e]; omega
theorem u4 (y m : Int) (h1 : 1 ≤ m) (h2 : m ≤ 13) : 0 ≤ cum y m ∧ cum y m ≤ 366 := by
 have a := i6 y 1 m (by omega) h1
 have b := i6 y m 13 h1 h2
 rw [u5] at a; rw [rE] at b
 have := aL2 y; omega
theorem aCC {y m d : Int} (h : vld y m d) : dby y ≤ eO y m d ∧ eO y m d < dby (y + 1) := by
 obtain ⟨h1, h2, h3, h4, h5, h6⟩ := h
 have a := u4 y m h3 (by omega)
 have b := i6 y (m + 1) 13 (by omega) (by omega)
 have c := eM y m h3
 rw [rE] at b
 rw [mL y h1]
 unfold eO; omega
theorem num_inj {y m d y' m' d' : Int} (h : vld y m d) (h' : vld y' m' d') (e : eO y m d = eO y' m' d') : y = y' ∧ m = m' ∧ d = d' := by
 have a := aCC h
 have b := aCC h'
 have hy : y = y' := by
  rcases Int.lt_trichotomy y y' with hlt | heq | hgt
  have := pW (y + 1) y' (by have := h.1; omega) (by omega); omega
  exact heq
  have := pW (y' + 1) y (by have := h'.1; omega) (by omega); omega
 subst hy
 obtain ⟨h1, h2, h3, h4, h5, h6⟩ := h
 obtain ⟨g1, g2, g3, g4, g5, g6⟩ := h'
 have hm : m = m' := by
  unfold eO at e
  rcases Int.lt_trichotomy m m' with hlt | heq | hgt
  have := i6 y (m + 1) m' (by omega) (by omega); have := eM y m h3; omega
  exact heq
  have := i6 y (m' + 1) m (by omega) (by omega); have := eM y m' g3; omega
 subst hm
 refine ⟨rfl, rfl, ?_⟩
 unfold eO at e; omega
theorem aF2 (n : Int) (h0 : 0 ≤ n) : ∀ k : Nat, n < dby (1 + k) → ∃ y : Int, 1 ≤ y ∧ y < 1 + k ∧ dby y ≤ n ∧ n < dby (y + 1)
 | 0, h => by rw [show (1 : Int) + ((0 : Nat) : Int) = 1 from rfl, aNK] at h; omega
 | k + 1, h => by
  by_cases hk : n < dby (1 + k)
  obtain ⟨y, h1, h2, h3, h4⟩ := aF2 n h0 k hk
  exact ⟨y, h1, by omega, h3, h4⟩
  refine ⟨1 + k, by omega, by omega, by omega, ?_⟩
  rw [show (1 : Int) + k + 1 = 1 + ((k + 1 : Nat) : Int) by omega]
  exact h
theorem aCH (y r : Int) (h0 : 0 ≤ r) : ∀ k : Nat, r < cum y (1 + k) → ∃ m : Int, 1 ≤ m ∧ m < 1 + k ∧ cum y m ≤ r ∧ r < cum y (m + 1)
 | 0, h => by rw [show (1 : Int) + ((0 : Nat) : Int) = 1 from rfl, u5] at h; omega
 | k + 1, h => by
  by_cases hk : r < cum y (1 + k)
  obtain ⟨m, h1, h2, h3, h4⟩ := aCH y r h0 k hk
  exact ⟨m, h1, by omega, h3, h4⟩
  refine ⟨1 + k, by omega, by omega, by omega, ?_⟩
  rw [show (1 : Int) + k + 1 = 1 + ((k + 1 : Nat) : Int) by omega]
  exact h
theorem date_ex (n : Int) (h0 : 0 ≤ n) (h1 : n ≤ 3652058) : ∃ y m d : Int, vld y m d ∧ eO y m d = n := by
 obtain ⟨y, a1, a2, a3, a4⟩ := aF2 n h0 9999 (by rw [show (1 : Int) + ((9999 : Nat) : Int) = 10000 from rfl, sN]; omega)
 obtain ⟨m, b1, b2, b3, b4⟩ := aCH y (n - dby y) (by omega) 12 (by rw [show (1 : Int) + ((12 : Nat) : Int) = 13 from rfl, rE]; have := mL y a1; omega)
 refine ⟨y, m, n - dby y - cum y m + 1, ⟨a1, by omega, b1, by omega, by omega, ?_⟩, by unfold eO; omega⟩
 have := eM y m b1
 omega
open Classical in
noncomputable def civ (n : Int) : Int × Int × Int := if h : ∃ t : Int × Int × Int, vld t.1 t.2.1 t.2.2 ∧ eO t.1 t.2.1 t.2.2 = n then Classical.choose h else (0, 0, 0)
theorem vB {y m d n : Int} (h : vld y m d) (hn : eO y m d = n) : civ n = (y, m, d) := by
 unfold civ
 have hex : ∃ t : Int × Int × Int, vld t.1 t.2.1 t.2.2 ∧ eO t.1 t.2.1 t.2.2 = n := ⟨(y, m, d), h, hn⟩
 rw [dif_pos hex]
 obtain ⟨h1, h2⟩ := Classical.choose_spec hex
 obtain ⟨e1, e2, e3⟩ := num_inj h1 h (h2.trans hn.symm)
 exact Prod.ext e1 (Prod.ext e2 e3)
theorem kG {n : Int} (h0 : 0 ≤ n) (h1 : n ≤ 3652058) : vld (civ n).1 (civ n).2.1 (civ n).2.2 ∧ eO (civ n).1 (civ n).2.1 (civ n).2.2 = n := by
 obtain ⟨y, m, d, h, e⟩ := date_ex n h0 h1
 rw [vB h e]
 exact ⟨h, e⟩
theorem oQ {n : Int} (h0 : 0 ≤ n) (h1 : n ≤ 3652058) : 1 ≤ (civ n).1 ∧ (civ n).1 ≤ 9999 ∧ 1 ≤ (civ n).2.1 ∧ (civ n).2.1 ≤ 12 ∧ 1 ≤ (civ n).2.2 ∧ (civ n).2.2 ≤ 31 := by
 obtain ⟨h, _⟩ := kG h0 h1
 have := iF (civ n).1 (civ n).2.1
 exact ⟨h.1, h.2.1, h.2.2.1, h.2.2.2.1, h.2.2.2.2.1, by have := h.2.2.2.2.2; omega⟩
def mlen : List Int := [31, 28, 31, 30, 31, 30, 31, 31, 30, 31, 30, 31]
theorem aLX (y m : Int) (h1 : 1 ≤ m) (h2 : m ≤ 12) (h : ¬ (m = 2 ∧ j7 y = true)) : mlen.getD (m - 1).toNat 0 = dI y m := by
 have : m = 1 ∨ m = 2 ∨ m = 3 ∨ m = 4 ∨ m = 5 ∨ m = 6 ∨ m = 7 ∨ m = 8 ∨ m = 9 ∨ m = 10 ∨ m = 11 ∨ m = 12 := by omega
 rcases this with rfl | rfl | rfl | rfl | rfl | rfl | rfl | rfl | rfl | rfl | rfl | rfl
 case inr.inl =>
  have hl : j7 y = false := by
   cases hb : j7 y with
   | false => rfl
   | true => exact absurd ⟨rfl, hb⟩ h
  simp [mlen, dI, lpI, hl]
 all_goals simp [mlen, dI]
def eT (y m d : Int) : Bool := decide (1 ≤ y) && decide (y ≤ 9999) && decide (1 ≤ m) && decide (m ≤ 12) && decide (1 ≤ d) && decide (d ≤ dI y m)
theorem yE {y m d : Int} (h : eT y m d = true) : vld y m d := by
 simp only [eT, Bool.and_eq_true, decide_eq_true_eq] at h
 obtain ⟨⟨⟨⟨⟨h1, h2⟩, h3⟩, h4⟩, h5⟩, h6⟩ := h
 exact ⟨h1, h2, h3, h4, h5, h6⟩
theorem aD8 {y m d : Int} (h : vld y m d) : eT y m d = true := by
 obtain ⟨h1, h2, h3, h4, h5, h6⟩ := h
 simp [eT, h1, h2, h3, h4, h5, h6]
theorem civ_up {n y m d : Int} (h1 : 1 ≤ y) (h2 : y ≤ 9999) (h3 : dby y ≤ n) (h4 : n ≤ 3652058) (hc : ¬ y < 9999 ∨ ¬ dby (y + 1) ≤ n) (hm1 : 1 ≤ m) (hm2 : m ≤ 12) (hd : d = n - dby y + 1 - cum y m) : m = 12 → d ≤ dI y m := by
 rintro rfl
 have e1 := mL y h1
 have e2 := eM y 12 (by omega)
 have e3 : cum y (12 + 1) = 365 + lpI y := rE y
 have e4 : n < dby (y + 1) := by
  rcases hc with hc | hc
  obtain rfl : y = 9999 := by omega
  have := sN
  have e : dby (9999 + 1) = dby 10000 := rfl
  omega
  omega
 omega
theorem ref_up {n y m r : Int} (h1 : 1 ≤ y) (h2 : y ≤ 9999) (hc : n < dby (y + 1)) (hm1 : 1 ≤ m) (hm2 : m ≤ 12) (hd : r = n - dby y - cum y m) : m = 12 → r < dI y m := by
 rintro rfl
 have e1 := mL y h1
 have e2 := eM y 12 (by omega)
 have e3 : cum y (12 + 1) = 365 + lpI y := rE y
 omega
def S (l : List UInt8) : ByteArray := ⟨l.toArray⟩
theorem bI (a b : List UInt8) : S a ++ S b = S (a ++ b) := by
 have : (S a ++ S b).data = (S (a ++ b)).data := by simp [S]
 cases h1 : S a ++ S b; cases h2 : S (a ++ b); rw [h1, h2] at this; simpa using this
theorem aF (l : List UInt8) : (S l).size = l.length := by simp [S, ByteArray.size]
def dec2 (n : Int) : List UInt8 := if n < 10 then [u8 (48 + n)] else [u8 (48 + n.tdiv 10), u8 (48 + n.tmod 10)]
def cY : Nat → Int → Int → List UInt8 → List UInt8
 | 0, _, _, acc => acc
 | f + 1, n, k, acc => if n > 0 ∨ k > 0 then cY f (n / 10) (k - 1) (u8 (48 + n % 10) :: acc) else acc
theorem xQ {f : Nat} {x k : Int} {acc : List UInt8} (h : x > 0 ∨ k > 0) (hx : x < 10 ^ f) (hk : k ≤ f) (h0 : 0 ≤ x) : ∃ f', f = f' + 1 ∧ x / 10 < 10 ^ f' ∧ k - 1 ≤ f' ∧ cY f x k acc = cY f' (x / 10) (k - 1) (u8 (48 + x % 10) :: acc) := by
 cases f with
 | zero => simp at hx hk; omega
 | succ f' =>
  refine ⟨f', rfl, ?_, by omega, by rw [cY, if_pos h]⟩
  have : (10 : Int) ^ (f' + 1) = 10 * 10 ^ f' := by rw [Int.pow_succ, Int.mul_comm]
  rw [this] at hx
  exact Int.ediv_lt_of_lt_mul (by decide) (by rw [Int.mul_comm]; exact hx)
theorem aNB {f : Nat} {x k : Int} {acc : List UInt8} (h : ¬ (x > 0 ∨ k > 0)) : cY f x k acc = acc := by
 cases f with
 | zero => rfl
 | succ f' => rw [cY, if_neg h]
theorem iX : ∀ (f : Nat) (x k : Int) (acc : List UInt8), (cY f x k acc).length ≤ f + acc.length
 | 0, _, _, acc => by simp [cY]
 | f + 1, x, k, acc => by
  rw [cY]
  split
  have := iX f (x / 10) (k - 1) (u8 (48 + x % 10) :: acc); simp at this; omega
  omega
noncomputable def aR (n : Int) : List UInt8 := cY 5 (civ n).1 4 [] ++ [45] ++ cY 5 (civ n).2.1 2 [] ++ [45] ++ cY 5 (civ n).2.2 2 []
def bR (l : List UInt8) : Nat := l.foldl (fun a b => 256 * a + b.toNat) 0
def cL (l : List UInt8) : List UInt8 := l.dropWhile (· == 0)
def nb (n : Nat) : List UInt8 := if h : n = 0 then [] else nb (n / 256) ++ [UInt8.ofNat (n % 256)]
termination_by n
decreasing_by exact Nat.div_lt_self (Nat.pos_of_ne_zero h) (by decide)
theorem fM : nb 0 = [] := by rw [nb]; simp
theorem l7 {n : Nat} (h : n ≠ 0) : nb n = nb (n / 256) ++ [UInt8.ofNat (n % 256)] := by rw [nb]; simp [h]
theorem fA (l : List UInt8) (x : UInt8) : bR (l ++ [x]) = 256 * bR l + x.toNat := by simp [bR, List.foldl_append]
theorem aA3 : bR [] = 0 := rfl
theorem foldB (l : List UInt8) : ∀ a : Nat, l.foldl (fun a b => 256 * a + b.toNat) a = a * 256 ^ l.length + bR l := by
 induction l with
 | nil => intro a; simp [bR]
 | cons x t ih =>
  intro a
  have hv : bR (x :: t) = (256 * 0 + x.toNat) * 256 ^ t.length + bR t := ih (256 * 0 + x.toNat)
  rw [List.foldl_cons, ih, hv]
  simp only [List.length_cons, Nat.pow_succ, Nat.mul_zero, Nat.zero_add, Nat.add_mul]
  rw [Nat.mul_comm 256 a, Nat.mul_assoc, Nat.mul_comm 256 (256 ^ t.length)]
  omega
theorem mU (x : UInt8) (t : List UInt8) : bR (x :: t) = x.toNat * 256 ^ t.length + bR t := by
 rw [bR, List.foldl_cons, foldB]; simp
theorem aA4 (a b : List UInt8) : bR (a ++ b) = bR a * 256 ^ b.length + bR b := by
 rw [bR, List.foldl_append, foldB]; rfl
theorem mT (l : List UInt8) : bR l < 256 ^ l.length := by
 induction l with
 | nil => simp [bR]
 | cons x t ih =>
  rw [mU, List.length_cons, Nat.pow_succ]
  have := x.toNat_lt
  have h : (x.toNat + 1) * 256 ^ t.length ≤ 256 * 256 ^ t.length := Nat.mul_le_mul_right _ (by omega)
  rw [Nat.add_mul] at h
  rw [Nat.mul_comm (256 ^ t.length) 256]
  omega
theorem f0 (n : Nat) : bR (nb n) = n := by
 induction n using Nat.strongRecOn with
 | ind n ih =>
  by_cases h : n = 0
  subst h; rw [fM]; rfl
  rw [l7 h, fA, ih _ (Nat.div_lt_self (Nat.pos_of_ne_zero h) (by decide))]
  have : (UInt8.ofNat (n % 256)).toNat = n % 256 := by simp
  rw [this]; omega
theorem aLQ {v : Nat} {x : UInt8} (h : ¬ (v = 0 ∧ x = 0)) : nb (256 * v + x.toNat) = nb v ++ [x] := by
 have hx := x.toNat_lt
 have hn : 256 * v + x.toNat ≠ 0 := by
  intro hz
  have hx0 : x.toNat = 0 := by omega
  exact h ⟨by omega, UInt8.toNat_inj.1 (by simpa using hx0)⟩
 rw [l7 hn]
 have h1 : (256 * v + x.toNat) / 256 = v := by omega
 have h2 : (256 * v + x.toNat) % 256 = x.toNat := by omega
 rw [h1, h2]; simp
theorem o8 {P : List UInt8 → Prop} (h0 : P []) (h1 : ∀ l x, P l → P (l ++ [x])) (l : List UInt8) : P l := by
 have : ∀ r : List UInt8, P r.reverse := by
  intro r
  induction r with
  | nil => exact h0
  | cons x t ih => rw [List.reverse_cons]; exact h1 _ _ ih
 have := this l.reverse
 rwa [List.reverse_reverse] at this
theorem xO (l : List UInt8) (x : UInt8) : cL (l ++ [x]) = if cL l = [] then (if x = 0 then [] else [x]) else cL l ++ [x] := by
 induction l with
 | nil => simp [cL, List.dropWhile_cons]
 | cons y t ih =>
  simp only [cL, List.cons_append, List.dropWhile_cons] at ih ⊢
  by_cases hy : (y == 0) = true
  simp only [hy, if_true]; exact ih
  simp [hy]
theorem xY (l : List UInt8) : cL l = [] ↔ bR l = 0 := by
 refine o8 (P := fun l => cL l = [] ↔ bR l = 0) ?_ ?_ l
 simp [cL, bR]
 intro l x ih
 rw [xO, fA]
 by_cases h : cL l = []
 rw [if_pos h, ih.1 h]
 by_cases hx : x = 0
 simp [hx]
 rw [if_neg hx]
 constructor
 intro h; simp at h
 intro h; exact absurd (UInt8.toNat_inj.1 (by simpa using h)) hx
 rw [if_neg h]
 have : bR l ≠ 0 := fun hz => h (ih.2 hz)
 constructor
 intro h; simp at h
 intro h; omega
theorem aDL (l : List UInt8) : cL l = nb (bR l) := by
 refine o8 (P := fun l => cL l = nb (bR l)) ?_ ?_ l
 simp [cL, bR, fM]
 intro l x ih
 rw [xO, fA]
 by_cases h : cL l = []
 rw [if_pos h, (xY l).1 h]
 by_cases hx : x = 0
 subst hx; simp [fM]
 rw [if_neg hx, aLQ (v := 0) (fun hh => hx hh.2), fM]; rfl
 rw [if_neg h]
 have : bR l ≠ 0 := fun hz => h ((xY l).2 hz)
 rw [aLQ (fun hh => this hh.1), ih]
theorem gJ {n k : Nat} (h : n < 256 ^ k) : (nb n).length ≤ k := by
 induction k generalizing n with
 | zero => simp at h; subst h; rw [fM]; simp
 | succ k ih =>
  by_cases hn : n = 0
  subst hn; rw [fM]; simp
  rw [l7 hn]; simp
  refine ih ?_
  rw [Nat.pow_succ] at h
  exact Nat.div_lt_of_lt_mul (by rw [Nat.mul_comm]; exact h)
theorem qR {n k : Nat} (h : 256 ^ k ≤ n) : k < (nb n).length := by
 rcases Nat.lt_or_ge k (nb n).length with h1 | h1
 exact h1
 have := mT (nb n)
 rw [f0] at this
 have h2 := Nat.pow_le_pow_right (n := 256) (by decide) h1
 omega
theorem gX (n : Nat) : (nb n).length = 0 ↔ n = 0 := by
 constructor
 intro h
 have := f0 n
 rw [List.length_eq_zero_iff.1 h] at this
 exact this.symm
 intro h; subst h; rw [fM]; rfl
theorem nb_head {n : Nat} (h : n < 2 ^ 63) (hl : (nb n).length = 8) : ((nb n).getD 0 0).toNat ≤ 127 := by
 have hv := f0 n
 cases hn : nb n with
 | nil => rw [hn] at hl; simp at hl
 | cons x t =>
  rw [hn] at hl hv
  rw [mU] at hv
  simp at hl
  rw [hl] at hv
  simp
  have : x.toNat * 256 ^ 7 < 2 ^ 63 := by omega
  omega
theorem yG (l : List UInt8) (k : Nat) : bR (l.take k) ≤ bR l := by
 have h := aA4 (l.take k) (l.drop k)
 rw [List.take_append_drop] at h
 have h1 : 1 ≤ 256 ^ (l.drop k).length := Nat.one_le_pow _ _ (by decide)
 have h2 := Nat.mul_le_mul_left (bR (l.take k)) h1
 omega
theorem sW {l : List UInt8} {k : Nat} (h : k < l.length) : bR (l.take (k + 1)) = 256 * bR (l.take k) + (l.getD k 0).toNat := by
 rw [List.take_add_one, List.getElem?_eq_getElem h]
 simp only [Option.toList]
 rw [fA]
 simp [List.getD, h]
theorem cO (l : List UInt8) (i : Int) : byteAt (S l) i = ((l.getD i.toNat 0).toNat : Int) := by simp [byteAt, S]
theorem eI (l : List UInt8) (k : Nat) : (S l).extract k (S l).size = S (l.drop k) := by
 have h : ((S l).extract k (S l).size).data = (S (l.drop k)).data := by
  rw [ByteArray.data_extract, aF]
  simp [S, List.take_of_length_le]
 cases h1 : (S l).extract k (S l).size; cases h2 : S (l.drop k); rw [h1, h2] at h; simpa using h
theorem aD2 (s : ByteArray) : S s.data.toList = s := by cases s; simp [S]
theorem aFU {l : List UInt8} {k : Nat} (h : k < l.length) (hz : (l.getD k 0).toNat = 0) : cL (l.drop k) = cL (l.drop (k + 1)) := by
 rw [List.drop_eq_getElem_cons h]
 have : l[k] = 0 := by
  simp [List.getD, h] at hz
  exact UInt8.toNat_inj.1 (by simpa using hz)
 simp [cL, List.dropWhile_cons, this]
theorem aFV {l : List UInt8} {k : Nat} (h : ¬ (k < l.length ∧ (l.getD k 0).toNat = 0)) : cL (l.drop k) = l.drop k := by
 rcases Nat.lt_or_ge k l.length with hk | hk
 rw [List.drop_eq_getElem_cons hk]
 have : ¬ (l[k] = 0) := by
  intro hz
  exact h ⟨hk, by simp [List.getD, hk, hz]⟩
 have h2 : (l[k] == 0) = false := by simpa using this
 rw [cL, List.dropWhile_cons, h2]; rfl
 rw [List.drop_eq_nil_of_le hk]; rfl
theorem lR (x : Int) : ((u8 x).toNat : Int) = x % 256 := by
 have h1 := Int.emod_nonneg x (show (256 : Int) ≠ 0 by decide)
 have h2 := Int.emod_lt_of_pos x (show (0 : Int) < 256 by decide)
 rw [u8]; simp; omega
theorem wrap64 {x : Int} (h : inR x) : IntKind.wrap .i64 x = x := by
 unfold inR at h
 simp [IntKind.wrap, IntKind.bits, IntKind.signed]
 omega
theorem aAX (x : UInt8) : IntKind.wrap .i64 (x.toNat : Int) = (x.toNat : Int) := by
 have := x.toNat_lt
 exact wrap64 (by unfold inR; omega)
def fX : Nat → Nat → Nat × Nat
 | m, 0 => (m, 0)
 | m, s + 1 => if m % 10 = 0 then fX (m / 10) s else (m, s + 1)
theorem aC4 : ∀ (s m : Nat), (fX m s).2 = 0 ∨ (fX m s).1 % 10 ≠ 0
 | 0, m => by simp [fX]
 | s + 1, m => by
  rw [fX]
  split
  exact aC4 s (m / 10)
  rename_i h; exact .inr h
theorem xH {m : Nat} {s : Int} (h : s > 0) (hm : m % 10 = 0) : fX m s.toNat = fX (m / 10) (s - 1).toNat := by
 obtain ⟨k, rfl⟩ : ∃ k : Nat, s = (k : Int) + 1 := ⟨(s - 1).toNat, by omega⟩
 have h1 : ((k : Int) + 1).toNat = k + 1 := by omega
 have h2 : ((k : Int) + 1 - 1).toNat = k := by omega
 rw [h1, h2, fX, if_pos hm]
theorem fE {m : Nat} {s : Int} (h0 : 0 ≤ s) (h : s = 0 ∨ m % 10 ≠ 0) : fX m s.toNat = (m, s.toNat) := by
 rcases h with rfl | h
 rfl
 rcases Nat.eq_zero_or_pos s.toNat with hz | hp
 rw [hz]; rfl
 obtain ⟨k, hk⟩ : ∃ k, s.toNat = k + 1 := ⟨s.toNat - 1, by omega⟩
 rw [hk, fX, if_neg h]
def eF (m : Nat) (s : Int) : Bool := decide ((fX m s.toNat).1 ≤ 1000000000000000 ∧ (fX m s.toNat).2 ≤ 6)
def d9 (neg : Bool) (m : Nat) (s : Int) : Int := if eF m s then (if neg then -((fX m s.toNat).1 : Int) else ((fX m s.toNat).1 : Int)) else 0
def d8 (m : Nat) (s : Int) : Int := if eF m s then ((fX m s.toNat).2 : Int) else 0
theorem aAW {m : Nat} (h : m ≤ 1000000000000000) : IntKind.wrap .i64 (0 - (m : Int)) = -(m : Int) := by
 rw [wrap64 (by unfold inR; omega)]; omega
def j3 (n : Nat) : List UInt8 := if h : n = 0 then [] else j3 (n / 10) ++ [u8 (48 + ((n % 10 : Nat) : Int))]
termination_by n
decreasing_by exact Nat.div_lt_self (Nat.pos_of_ne_zero h) (by decide)
theorem fC : j3 0 = [] := by rw [j3]; simp
theorem f7 {n : Nat} (h : n ≠ 0) : j3 n = j3 (n / 10) ++ [u8 (48 + ((n % 10 : Nat) : Int))] := by rw [j3]; simp [h]
theorem pI {n k : Nat} (h : n < 10 ^ k) : (j3 n).length ≤ k := by
 induction k generalizing n with
 | zero => simp at h; subst h; rw [fC]; simp
 | succ k ih =>
  by_cases hn : n = 0
  subst hn; rw [fC]; simp
  rw [f7 hn]; simp
  refine ih ?_
  rw [Nat.pow_succ] at h
  exact Nat.div_lt_of_lt_mul (by rw [Nat.mul_comm]; exact h)
def bD (n : Nat) : List UInt8 := if n = 0 then [48] else j3 n
theorem gY {n k : Nat} (h : n < 10 ^ k) (hk : 1 ≤ k) : (bD n).length ≤ k := by
 unfold bD; split
 simpa using hk
 exact pI h
theorem l8 (n : Nat) : 1 ≤ (bD n).length := by
 unfold bD; split
 simp
 rename_i h; rw [f7 h]; simp
def bU (n s : Int) : List UInt8 :=
 (if n < 0 then [45] else []) ++ bD (n.natAbs / 10 ^ s.toNat) ++ (if s > 0 then [46] ++ (bD (10 ^ s.toNat + n.natAbs % 10 ^ s.toNat)).drop 1 else [])
theorem aB5 {k : Nat} (h : k ≤ 6) : 1 ≤ 10 ^ k ∧ 10 ^ k ≤ 1000000 := ⟨Nat.one_le_pow _ _ (by decide), Nat.pow_le_pow_right (by decide) h⟩
theorem fG {n s : Int} (h : cZ n s = true) : 0 ≤ s ∧ s ≤ 6 ∧ -1000000000000000 ≤ n ∧ n ≤ 1000000000000000 ∧ (s = 0 ∨ n.tmod 10 ≠ 0) := by
 simp [cZ] at h; omega
theorem lG (l : List UInt8) (k : Nat) : (S l).extract k l.length = S (l.drop k) := by rw [← eI, aF]
end Go.Proofs.YtmpgfchkkemngaaGreatDoor
namespace Go.Proofs.YtmpgfchkkemngaaGreatDoor
open Go.RowKit Go.V
open Go.Eng (inR byteAt u8 bH)
structure Gv where
 maxLen : Int
 more : List (Nat × List Value) := []
def powL : List Int := [1, 10, 100, 1000, 10000, 100000, 1000000, 10000000, 100000000, 1000000000, 10000000000, 100000000000, 1000000000000, 10000000000000, 100000000000000, 1000000000000000, 10000000000000000, 100000000000000000, 1000000000000000000, 10000000000000000000]
def Gl (g : Gv) : List (Nat × List Value) := (0, [.int .i64 g.maxLen]) :: (2, powL.map (Value.int .u64)) :: (5, mlen.map (Value.int .i64)) :: g.more
def SpG (g : Gv) (f : FuncId) (ins : List SV) (refs : bL) (out : SV) (post : bL) : Prop := V.Spec Tryz.prog (Gl g) f ins refs out post
theorem cW : Tryz.prog.follows .mixedOrders = true := by kernel_rfl
section
variable {R : Wp Tryz.prog} {fr : Fr} {n : Nat} {root : Code} {Q : Exit → Act → World → Prop} {G : List (Nat × List Value)} {pids : List Nat} {now : Now} {st : V.St} {cs : List Prop}
theorem zC (hG : FrIs fr G pids) (hs : dA) (pos : List Nat) (b : Bool) (st' : V.St) (hc : V.conj cs) (ht : b = true → W R fr n root Q (.code (0 :: pos)) st') (hf : b = false → W R fr n root Q (.code (1 :: pos)) st') (h : goS Tryz.prog G pids n root hs 1000 now st st' = told (.cond pos b) st' cs := by kernel_rfl) : W R fr n root Q now st := stepC hG cW hs pos b st' cs h hc ht hf
theorem zc (hG : FrIs fr G pids) (hs : dA) (pos : List Nat) (b : Bool) (hc : V.conj cs) (ht : b = true → W R fr n root Q (.code (0 :: pos)) st) (hf : b = false → W R fr n root Q (.code (1 :: pos)) st) (h : goS Tryz.prog G pids n root hs 1000 now st st = told (.cond pos b) st cs := by kernel_rfl) : W R fr n root Q now st := stepC hG cW hs pos b st cs h hc ht hf
theorem zr {fn : Func} {out : SV} {post : bL} (hG : FrIs fr G []) (hs : dA) (ids : List Nat) (hc : V.conj cs) (h : goR Tryz.prog G n root hs 1000 now st fn ids = some (out, post, cs) := by kernel_rfl) : W R fr n root (bodyPost Tryz.prog fn (rG fr out post)) now st := aKD hG cW hs ids out post h hc rfl rfl
theorem zR {fn : Func} {out : SV} {post : bL} (hG : FrIs fr G []) (hs : dA) (ids : List Nat) (out' : SV) (post' : bL) (hc : V.conj cs) (ho : out' = out) (hp : post' = post) (h : goR Tryz.prog G n root hs 1000 now st fn ids = some (out', post', cs) := by kernel_rfl) : W R fr n root (bodyPost Tryz.prog fn (rG fr out post)) now st := aKD hG cW hs ids out' post' h hc ho hp
theorem zL {σ : Type} (hG : FrIs fr G pids) (hs : dA) (pos : List Nat) (F : σ → Nat × V.St × Prop) (x0 : σ) (hc : V.conj cs) (h0 : (F x0).2.2) (round : ∀ x, (F x).2.2 → W R fr n (mB root pos) (Exit.then (V.Handed fr n (fun x => (F x).1) (fun x => (F x).2.1) (fun x => (F x).2.2) x) (ctx R root Q pos)) (.code []) (F x).2.1) (h : goS Tryz.prog G pids n root hs 1000 now st (F x0).2.1 = told (.loop pos) (F x0).2.1 cs := by kernel_rfl) (hl : zJ root pos = true := by kernel_rfl) : W R fr n root Q now st :=
 s7 hG cW hs pos (F x0).2.1 cs h hc (aG4 (fun x => (F x).1) (fun x => (F x).2.1) (fun x => (F x).2.2) x0 hl h0 round)
theorem zA {σ : Type} (hG : FrIs fr G pids) (hs : dA) (pos : List Nat) (st6 : V.St) (ss : List (Nat × Nat × Nat × Nat)) (cc : List (Nat × Nat × Nat × Nat × Nat)) (F : σ → Nat × V.St × Prop) (x0 : σ) (hc : V.conj cs) (h0 : (F x0).2.2) (round : ∀ x, (F x).2.2 → W R fr n (mB root pos) (Exit.then (V.Handed fr n (fun x => (F x).1) (fun x => (F x).2.1) (fun x => (F x).2.2) x) (ctx R root Q pos)) (.code []) (F x).2.1) (h : goS Tryz.prog G pids n root hs 1000 now st st6 = told (.loop pos) st6 cs := by kernel_rfl) (ha : adK pids ss cc st6 (F x0).2.1 = told (.loop []) (F x0).2.1 [] := by kernel_rfl) (hl : zJ root pos = true := by kernel_rfl) : W R fr n root Q now st :=
 s7 hG cW hs pos st6 cs h hc (stepA hG ss cc (F x0).2.1 ha (aG4 (fun x => (F x).1) (fun x => (F x).2.1) (fun x => (F x).2.2) x0 hl h0 round))
theorem zD {σ : Type} {m : σ → Nat} {S : σ → V.St} {Inv : σ → Prop} {x : σ} {Q0 : Exit → Act → World → Prop} (hG : FrIs fr G pids) (hs : dA) (y : σ) (hc : V.conj cs) (hlt : m y < m x) (hI : Inv y) (h : goS Tryz.prog G pids n root hs 1000 now st (S y) = told (.done .normal) (S y) cs := by kernel_rfl) : W R fr n root (Exit.then (V.Handed fr n m S Inv x) Q0) now st := roundE hG cW hs y cs h hc hlt hI
theorem zE {H : Act → World → Prop} {root' : Code} {pos : List Nat} (hG : FrIs fr G pids) (hs : dA) (e : Ex) (st' : V.St) (hc : V.conj cs) (he : e.isNormal = false) (hk : W R fr n root' Q (.exit pos e) st') (h : goS Tryz.prog G pids n root hs 1000 now st st' = told (.done e) st' cs := by kernel_rfl) : W R fr n root (Exit.then H (ctx R root' Q pos)) now st := leaveE hG cW hs e st' cs h hc he hk
theorem zP (hG : FrIs fr G pids) (hs : dA) (pos : List Nat) (p : Prop) [Decidable p] (st' : V.St) (hc : V.conj cs) (ht : p → W R fr n root Q (.code (0 :: pos)) st') (hf : ¬ p → W R fr n root Q (.code (1 :: pos)) st') (h : goS Tryz.prog G pids n root hs 1000 now st st' = told (.cond pos (decide p)) st' cs := by kernel_rfl) : W R fr n root Q now st := zC hG hs pos (decide p) st' hc (fun h => ht (of_decide_eq_true h)) (fun h => hf (of_decide_eq_false h)) h
theorem zp (hG : FrIs fr G pids) (hs : dA) (pos : List Nat) (p : Prop) [Decidable p] (hc : V.conj cs) (ht : p → W R fr n root Q (.code (0 :: pos)) st) (hf : ¬ p → W R fr n root Q (.code (1 :: pos)) st) (h : goS Tryz.prog G pids n root hs 1000 now st st = told (.cond pos (decide p)) st cs := by kernel_rfl) : W R fr n root Q now st := zc hG hs pos (decide p) hc (fun h => ht (of_decide_eq_true h)) (fun h => hf (of_decide_eq_false h)) h
end
structure Cl where
 kind : Int
 s : List UInt8
 dn : Int
 ds : Int
 n : Int
 deriving DecidableEq
structure Vl where
 kind : Int
 s : List UInt8
 dn : Int
 ds : Int
 n : Int
 cols : List (List UInt8)
 rows : List (List Cl)
 deriving DecidableEq
def Cl.toV (c : Cl) : Vl := ⟨c.kind, c.s, c.dn, c.ds, c.n, [], []⟩
def cH (s : List UInt8) : List D := [.s (S s)]
def strs (l : List (List UInt8)) : List (List D) := l.map cH
def ClD (c : Cl) : List D := [.i c.kind, .s (S c.s), .i c.dn, .i c.ds, .i c.n, .sl 1 [], .sl 1 []]
def rowD (r : List Cl) : List (List D) := r.map ClD
def fK (r : List Cl) : List D := [.sl 7 (rowD r)]
def rowsD (l : List (List Cl)) : List (List D) := l.map fK
def VlD (v : Vl) : List D := [.i v.kind, .s (S v.s), .i v.dn, .i v.ds, .i v.n, .sl 1 (strs v.cols), .sl 1 (rowsD v.rows)]
def valsD (l : List Vl) : List (List D) := l.map VlD
def qB (v : Vl) : SV := .agg [.d (.i v.kind), .d (.s (S v.s)), .d (.i v.dn), .d (.i v.ds), .d (.i v.n), .d (.sl 1 (strs v.cols)), .d (.sl 1 (rowsD v.rows))]
def Cl.z : Cl := ⟨0, [], 0, 0, 0⟩
def Vl.z : Vl := ⟨0, [], 0, 0, 0, [], []⟩
theorem aY {α β : Type} {f : α → β} {l : List α} {i : Int} (z : α) (h0 : 0 ≤ i) (h : i < (l.length : Int)) : 0 ≤ i ∧ (l.map f)[i.toNat]? = some (f (l.getD i.toNat z)) := by
 have : i.toNat < l.length := by omega
 exact ⟨h0, by simp [this]⟩
theorem sJ {α β : Type} {f : α → β} {l : List α} {k : Nat} (z : α) (h : k < l.length) : (l.map f)[k]? = some (f (l.getD k z)) := by simp [h]
theorem S_inj {a b : List UInt8} : S a = S b ↔ a = b := by
 constructor
 intro h; have := congrArg (fun x => x.data.toList) h; simpa [S] using this
 rintro rfl; rfl
theorem aD4 (a b : List UInt8) : ((S a).toList == (S b).toList) = decide (a = b) := by rw [fB]; simp [S_inj]
theorem aD3 {a b : List UInt8} : (((S a).toList == (S b).toList) = true) = (a = b) := by rw [aD4]; simp
theorem dY {a b : List UInt8} : (((S a).toList == (S b).toList) = false) = ¬ (a = b) := by rw [aD4]; simp
section
variable {g : Gv}
theorem tW {f : FuncId} {ins : List SV} {out : SV} {args : List Value} {v : Value} (hi : rV ins = some args) (ho : exT out = some v) (hk : okS out = true)
  (h : ∀ w : World, Calls Tryz.prog f args.toArray w fun e w' => e = .returned v ∧ w = w') : SpG g f ins [] out [] :=
 gP hi ho hk fun w _ => (h w).mono fun e w' ⟨h1, h2⟩ => ⟨h1, by subst h2; exact Below.refl _ _⟩
end
def intD (x : Int) : List D := [.i x]
def intsD (l : List Int) : List (List D) := l.map intD
theorem dS (acc : List UInt8) (x : Int) : bytesD acc ++ [[D.y (IntKind.wrap .u8 x)]] = bytesD (acc ++ [u8 x]) := by
 simp [bytesD, D.y, Eng.wrap_u8]
theorem jC (acc : List UInt8) : bytesD (S acc).data.toList = bytesD acc := by simp [S]
theorem aFW (x y : Int) : [[D.y (IntKind.wrap .u8 x)], [D.y (IntKind.wrap .u8 y)]] = bytesD (S [u8 x, u8 y]).data.toList := by
 rw [jC]; simp [bytesD, D.y, Eng.wrap_u8]
abbrev zI (n : Nat) (x : Int) : Nat × Path × SV := (n, [], .c (.d (.i x)))
abbrev zS (n : Nat) (x : ByteArray) : Nat × Path × SV := (n, [], .c (.d (.s x)))
abbrev zB (n : Nat) (x : Bool) : Nat × Path × SV := (n, [], .c (.d (.b x)))
abbrev zX (n a b : Nat) : Nat × Path × SV := (n, [], .c (.bx a b))
abbrev zY (n a b : Nat) : Nat × Path × SV := (n, [], .c (.ar a b))
abbrev zN (n : Nat) : Nat × Path × SV := (n, [], .c (.d (.nil)))
abbrev zM (n s : Nat) (e : List (List D)) : Nat × Path × SV := (n, [], .c (.d (.sl s e)))
abbrev cI (x : Int) : C := .d (.i x)
abbrev cS (x : ByteArray) : C := .d (.s x)
abbrev cB (x : Bool) : C := .d (.b x)
abbrev cN : C := .d (.nil)
abbrev cM (s : Nat) (e : List (List D)) : C := .d (.sl s e)
abbrev zV (v : Vl) : List C := [cI v.kind, cS (S v.s), cI v.dn, cI v.ds, cI v.n, cM 1 (strs v.cols), cM 1 (rowsD v.rows)]
abbrev zW (v : Cl) : List C := [cI v.kind, cS (S v.s), cI v.dn, cI v.ds, cI v.n, cM 1 [], cM 1 []]
abbrev zK (f : Func) (p : List Nat) (fn : FuncId) (tm : Array Value) (D l : Nat) : Ob := .box ⟨.raw (.loop (aX (aM f) p fn tm D)), some l⟩ []
abbrev kI (x : Int) : Hint := .call (.c (cI x)) [] []
abbrev kS (x : ByteArray) : Hint := .call (.c (cS x)) [] []
abbrev kB (x : Bool) : Hint := .call (.c (cB x)) [] []
abbrev kC (x : SV) : Hint := .call x [] []
end Go.Proofs.YtmpgfchkkemngaaGreatDoor
namespace Go.Proofs.YtmpgfchkkemngaaGreatDoor
open Go.RowKit Go.V
open Go.Eng (inR byteAt u8 bH)
variable {g : Gv}
theorem dO {a b : Bool} (h : a = b) : (SV.c (cB a) : SV) = .c (cB b) := by rw [h]
theorem f4 {a b : Int} (h : a = b) : (SV.c (cI a) : SV) = .c (cI b) := by rw [h]
theorem fN (a : ByteArray) : a = S [] ↔ a.size = 0 := aJD a
theorem sT (n : Int) :
  SpG g 73 [.c (cI n)] [] (.c (cB (decide ((-1000000000000000 : Int) ≤ n) && decide (n ≤ 1000000000000000)))) [] := by
 refine aG 9 Tryz.func73 (by kernel_rfl) fun fr hG => ?_
 refine zR hG [] [] (.c (cB ((decide ((n : Int) ≥ (-1000000000000000))) && (decide ((n : Int) ≤ 1000000000000000))))) [] aA ?_ ?_
 refine dO ?_
 rw [Bool.eq_iff_iff] <;> (try simp) <;> (try omega)
 rfl
theorem vX (n : Int) :
  SpG g 148 [.c (cI n)] [] (.c (cB (decide ((0 : Int) ≤ n) && decide (n ≤ 3652058)))) [] := by
 refine aG 9 Tryz.func148 (by kernel_rfl) fun fr hG => ?_
 refine zR hG [] [] (.c (cB ((decide ((n : Int) ≥ 0)) && (decide ((n : Int) ≤ 3652058))))) [] aA ?_ ?_
 refine dO ?_
 rw [Bool.eq_iff_iff] <;> (try simp) <;> (try omega)
 rfl
theorem uE (c : Int) :
  SpG g 114 [.c (.d (.y c))] [] (.c (cB (cA c))) [] := by
 refine aG 17 Tryz.func114 (by kernel_rfl) fun fr hG => ?_
 exact zr hG [] [] aA
def zq0 := And.intro @blS (@Go.Eng.inR.eq_1)
theorem aB0 (y : Int) (h : 0 ≤ y) :
  SpG g 181 [.c (cI y)] [] (.c (cB (j7 y))) [] := by
 refine aG 16 Tryz.func181 (by kernel_rfl) fun fr hG => ?_
 refine zR hG [] [] (.c (cB ((decide ((Int.tmod y 4 : Int) = 0)) && ((!decide ((Int.tmod y 100 : Int) = 0)) || (decide ((Int.tmod y 400 : Int) = 0)))))) [] (aC (by intros; first | omega | decide | (simp only [zq0] at *; omega) : 4 ≠ (0 : Int)) (aC (by intros; first | omega | decide | (simp only [zq0] at *; omega) : (decide ((Int.tmod y 4 : Int) = 0)) = true → 100 ≠ (0 : Int)) (aB (by intros; first | omega | decide | (simp only [zq0] at *; omega) : (!decide ((Int.tmod y 100 : Int) = 0)) = false → (decide ((Int.tmod y 4 : Int) = 0)) = true → 400 ≠ (0 : Int))))) ?_ ?_
 refine dO ?_
 simp only [j7, Int.tmod_eq_emod_of_nonneg h]; rw [Bool.eq_iff_iff] <;> (try simp) <;> (try omega)
 rfl
theorem rX (n s : Int) :
  SpG g 39 [.agg [cI n, cI s]] [] (.c (cB (cZ n s))) [] := by
 refine aG 26 Tryz.func39 (by kernel_rfl) fun fr hG => ?_
 refine zC hG [(1, 11, kB (decide ((-1000000000000000 : Int) ≤ n) && decide (n ≤ (1000000000000000 : Int))))] [1, 0, 1] (((decide ((s : Int) < 0)) || (decide ((s : Int) > 6))) || (!(decide ((-1000000000000000 : Int) ≤ n) && decide (n ≤ (1000000000000000 : Int))))) (⟨[zX 1 100 0, zB 2 false], [(100, .box 26 [cI n, cI s])]⟩) (aB (fun (hg1 : ((decide ((s : Int) < 0)) || (decide ((s : Int) > 6))) = false) => (sT n : SpG g _ _ _ _ _))) (fun hc1 => ?_) (fun hc1 => ?_)
 (try simp only [blS] at hc1)
 refine zR hG [] [] (.c (cB false)) [] aA ?_ ?_
 refine dO ?_
 simp only [cZ]; rw [Bool.eq_iff_iff] <;> (try simp) <;> (try omega)
 rfl
 (try simp only [blS] at hc1)
 refine zR hG [] [] (.c (cB ((decide ((s : Int) = 0)) || (!decide ((Int.tmod n 10 : Int) = 0))))) [] (aB (by intros; first | omega | decide | (simp only [zq0] at *; omega) : (decide ((s : Int) = 0)) = false → 10 ≠ (0 : Int))) ?_ ?_
 refine dO ?_
 simp only [cZ]; rw [Bool.eq_iff_iff] <;> (try simp) <;> (try omega)
 rfl
theorem l5 (n s : Int) :
  SpG g 42 [.agg [cI n, cI s]] [] (.c (cB (cZ n s))) [] := by
 refine aG 32 Tryz.func42 (by kernel_rfl) fun fr hG => ?_
 refine zR hG [] [] (.c (cB (((((decide ((s : Int) ≥ 0)) && (decide ((s : Int) ≤ 6))) && (decide ((n : Int) ≥ (-1000000000000000)))) && (decide ((n : Int) ≤ 1000000000000000))) && ((decide ((s : Int) = 0)) || (!decide ((Int.tmod n 10 : Int) = 0)))))) [] (aB (by intros; first | omega | decide | (simp only [zq0] at *; omega) : (decide ((s : Int) = 0)) = false → ((((decide ((s : Int) ≥ 0)) && (decide ((s : Int) ≤ 6))) && (decide ((n : Int) ≥ (-1000000000000000)))) && (decide ((n : Int) ≤ 1000000000000000))) = true → 10 ≠ (0 : Int))) ?_ ?_
 refine dO ?_
 simp only [cZ]; rw [Bool.eq_iff_iff] <;> (try simp) <;> (try omega)
 rfl
theorem aE6 (s : ByteArray) (hs : s.size ≤ maxLen) :
  SpG g 38 [.c (cS s)] [] (.c (cB (iE s))) [] := by
 unfold maxLen at hs
 refine aG 23 Tryz.func38 (by kernel_rfl) fun fr hG => ?_
 refine zL hG [] [0, 1, 0, 1] (fun (zz : Nat) => match zz with | k => (s.size - k, ⟨[zS 0 s, zB 2 false, zI 5 ((s).size : Int), zI 6 (k : Int)], []⟩, k ≤ s.size ∧ (bs s).all f6 = ((bs s).drop k).all f6)) 0 aA ?_ ?_
 exact ⟨Nat.zero_le _, rfl⟩
 rintro k ⟨hk, hall⟩
 refine zp hG [] [0, 1] (((k : Int) : Int) < ((s).size : Int)) aA (fun hc2 => ?_) (fun hc2 => ?_)
 skip
 refine zc hG [] [1, 1, 0, 0, 1, 1] ((decide ((byteAt (s) (k : Int) : Int) < 32)) || (decide ((byteAt (s) (k : Int) : Int) > 126))) (aC (by intros; first | omega | decide | (simp only [zq0] at *; omega) : (0 : Int) ≤ (k : Int) ∧ (k : Int) < ((s).size : Int)) (aB (by intros; first | omega | decide | (simp only [zq0] at *; omega) : (decide ((byteAt (s) (k : Int) : Int) < 32)) = false → (0 : Int) ≤ (k : Int) ∧ (k : Int) < ((s).size : Int)))) (fun hc3 => ?_) (fun hc3 => ?_)
 (try simp only [blS] at hc3)
 refine zE hG [] .ret (⟨[zS 0 s, zB 2 false], []⟩) aA rfl ?_
 refine zR hG [] [] (.c (cB false)) [] aA ?_ ?_
 refine dO ?_
 rw [iE, hall, jL s k (by omega)]; simp only [eH] at hc3; simp [f6]; omega
 rfl
 (try simp only [blS] at hc3)
 refine zD hG [] (k + 1) (aB (by intros; first | omega | decide | (simp only [zq0] at *; omega) : inR ((k : Int) + 1))) ?_ ?_
 (try dsimp only); omega
 exact ⟨by omega, by rw [hall, jL s k (by omega)]; simp only [eH] at hc3; simp [f6]; omega⟩
 skip
 refine zE hG [] (.exit 0) (⟨[zS 0 s, zB 2 false], []⟩) aA rfl ?_
 refine zR hG [] [] (.c (cB (decide ((((s).size : Int) : Int) ≤ 200)))) [] aA ?_ ?_
 refine dO ?_
 rw [iE, hall, aAP s k (by omega)]; simp
 rfl
theorem aIJ (s : ByteArray) (hs : s.size ≤ maxLen) :
  SpG g 41 [.c (cS s)] [] (.c (cB (iE s))) [] := by
 unfold maxLen at hs
 refine aG 23 Tryz.func41 (by kernel_rfl) fun fr hG => ?_
 refine zL hG [] [0, 1, 0, 1] (fun (zz : Nat) => match zz with | k => (s.size - k, ⟨[zS 0 s, zB 2 false, zI 3 (k : Int)], []⟩, k ≤ s.size ∧ (bs s).all f6 = ((bs s).drop k).all f6)) 0 aA ?_ ?_
 exact ⟨Nat.zero_le _, rfl⟩
 rintro k ⟨hk, hall⟩
 refine zp hG [] [1, 0] (((k : Int) : Int) < ((s).size : Int)) aA (fun hc2 => ?_) (fun hc2 => ?_)
 skip
 refine zc hG [] [1, 0, 0, 1] ((decide ((byteAt (s) (k : Int) : Int) < 32)) || (decide ((byteAt (s) (k : Int) : Int) > 126))) (aC (by intros; first | omega | decide | (simp only [zq0] at *; omega) : (0 : Int) ≤ (k : Int) ∧ (k : Int) < ((s).size : Int)) (aB (by intros; first | omega | decide | (simp only [zq0] at *; omega) : (decide ((byteAt (s) (k : Int) : Int) < 32)) = false → (0 : Int) ≤ (k : Int) ∧ (k : Int) < ((s).size : Int)))) (fun hc3 => ?_) (fun hc3 => ?_)
 (try simp only [blS] at hc3)
 refine zE hG [] .ret (⟨[zS 0 s, zB 2 false], []⟩) aA rfl ?_
 refine zR hG [] [] (.c (cB false)) [] aA ?_ ?_
 refine dO ?_
 rw [iE, hall, jL s k (by omega)]; simp only [eH] at hc3; simp [f6]; omega
 rfl
 (try simp only [blS] at hc3)
 refine zD hG [] (k + 1) (aB (by intros; first | omega | decide | (simp only [zq0] at *; omega) : inR ((k : Int) + 1))) ?_ ?_
 (try dsimp only); omega
 exact ⟨by omega, by rw [hall, jL s k (by omega)]; simp only [eH] at hc3; simp [f6]; omega⟩
 skip
 refine zE hG [] (.exit 0) (⟨[zS 0 s, zB 2 false], []⟩) aA rfl ?_
 refine zR hG [] [] (.c (cB (decide ((((s).size : Int) : Int) ≤ 200)))) [] aA ?_ ?_
 refine dO ?_
 rw [iE, hall, aAP s k (by omega)]; simp
 rfl
theorem aE7 (s : ByteArray) :
  SpG g 74 [.c (cS s)] [] (.c (cB (dG s))) [] := by
 refine aG 46 Tryz.func74 (by kernel_rfl) fun fr hG => ?_
 refine zC hG [(1, 10, kB (cA (byteAt (s) 0)))] [1, 0, 1] ((((s).toList == (S []).toList) || (decide ((((s).size : Int) : Int) > 20))) || (!(cA (byteAt (s) 0)))) (⟨[zS 0 s, zB 2 false], []⟩) (aC (by intros; first | omega | decide | (simp only [zq0, fB, fN] at *; omega) : (((s).toList == (S []).toList) || (decide ((((s).size : Int) : Int) > 20))) = false → (0 : Int) ≤ 0 ∧ 0 < ((s).size : Int)) (aB (fun (hg1 : (((s).toList == (S []).toList) || (decide ((((s).size : Int) : Int) > 20))) = false) => (uE (byteAt (s) 0) : SpG g _ _ _ _ _)))) (fun hc1 => ?_) (fun hc1 => ?_)
 (try simp only [blS, fB, fN] at hc1)
 refine zR hG [] [] (.c (cB false)) [] aA ?_ ?_
 exact dO (uA hc1).symm
 rfl
 (try simp only [blS, fB, fN] at hc1)
 refine zL hG [] [0, 1, 0, 1, 1] (fun (zz : Nat) => match zz with | k => (s.size - k, ⟨[zS 0 s, zB 2 false, zI 18 ((s).size : Int), zI 19 (k : Int)], []⟩, k ≤ s.size ∧ (bs s).all cJ = ((bs s).drop k).all cJ)) 0 aA ?_ ?_
 exact ⟨Nat.zero_le _, rfl⟩
 rintro k ⟨hk, hall⟩
 refine zc hG [] [0, 1] (decide (((k : Int) : Int) < ((s).size : Int))) aA (fun hc3 => ?_) (fun hc3 => ?_)
 (try simp only [blS, fB, fN] at hc3)
 refine zc hG [(6, 3, kB (cA (byteAt (s) (k : Int))))] [1, 1, 0, 0, 1, 1] (((!(cA (byteAt (s) (k : Int)))) && (!decide ((byteAt (s) (k : Int) : Int) = 95))) && ((decide ((byteAt (s) (k : Int) : Int) < 48)) || (decide ((byteAt (s) (k : Int) : Int) > 57)))) (aC (by intros; first | omega | decide | (simp only [zq0, fB, fN] at *; omega) : (0 : Int) ≤ (k : Int) ∧ (k : Int) < ((s).size : Int)) (aC (uE (byteAt (s) (k : Int)) : SpG g _ _ _ _ _) (aC (by intros; first | omega | decide | (simp only [zq0, fB, fN] at *; omega) : (!(cA (byteAt (s) (k : Int)))) = true → (0 : Int) ≤ (k : Int) ∧ (k : Int) < ((s).size : Int)) (aC (by intros; first | omega | decide | (simp only [zq0, fB, fN] at *; omega) : ((!(cA (byteAt (s) (k : Int)))) && (!decide ((byteAt (s) (k : Int) : Int) = 95))) = true → (0 : Int) ≤ (k : Int) ∧ (k : Int) < ((s).size : Int)) (aB (by intros; first | omega | decide | (simp only [zq0, fB, fN] at *; omega) : (decide ((byteAt (s) (k : Int) : Int) < 48)) = false → ((!(cA (byteAt (s) (k : Int)))) && (!decide ((byteAt (s) (k : Int) : Int) = 95))) = true → (0 : Int) ≤ (k : Int) ∧ (k : Int) < ((s).size : Int))))))) (fun hc4 => ?_) (fun hc4 => ?_)
 (try simp only [blS, fB, fN] at hc4)
 refine zE hG [] .ret (⟨[zB 2 false], []⟩) aA rfl ?_
 refine zR hG [] [] (.c (cB false)) [] aA ?_ ?_
 refine dO (wZ ?_).symm
 rw [hall, jL s k (by omega)]
 simp only [eH] at hc4
 rw [List.all_cons, cJ, aA8 hc4, Bool.false_and]
 rfl
 (try simp only [blS, fB, fN] at hc4)
 refine zD hG [] (k + 1) (aB (by intros; first | omega | decide | (simp only [zq0, fB, fN] at *; omega) : inR ((k : Int) + 1))) ?_ ?_
 (try dsimp only); omega
 refine ⟨by omega, ?_⟩
 rw [hall, jL s k (by omega)]
 simp only [eH] at hc4
 rw [List.all_cons, cJ, aGC hc4, Bool.true_and]
 (try simp only [blS, fB, fN] at hc3)
 refine zE hG [] (.exit 0) (⟨[zB 2 false], []⟩) aA rfl ?_
 refine zR hG [] [] (.c (cB true)) [] aA ?_ ?_
 exact dO (aIV hc1 (by rw [hall, aAP s k (by omega)]; rfl)).symm
 rfl
theorem aBY (s : ByteArray) (hs : s.size ≤ maxLen) :
  SpG g 116 [.c (cS s)] [] (.c (cB (dG s))) [] := by
 unfold maxLen at hs
 refine aG 55 Tryz.func116 (by kernel_rfl) fun fr hG => ?_
 refine zL hG [] [0, 1, 0, 1] (fun (zz : Nat) => match zz with | k => (s.size - k, ⟨[zS 0 s, zB 2 false, zI 3 (k : Int)], []⟩, k ≤ s.size ∧ (bs s).all cJ = ((bs s).drop k).all cJ ∧ (1 ≤ k → cA (bAt s 0).toNat = true))) 0 aA ?_ ?_
 exact ⟨Nat.zero_le _, rfl, fun h => by omega⟩
 rintro k ⟨hk, hall, hl0⟩
 refine zp hG [] [1, 0] (((k : Int) : Int) < ((s).size : Int)) aA (fun hc2 => ?_) (fun hc2 => ?_)
 skip
 refine zc hG [] [1, 1, 1, 0, 0, 1] ((!(((decide ((byteAt (s) (k : Int) : Int) ≥ 97)) && (decide ((byteAt (s) (k : Int) : Int) ≤ 122))) || ((decide ((byteAt (s) (k : Int) : Int) ≥ 65)) && (decide ((byteAt (s) (k : Int) : Int) ≤ 90))))) && ((decide (((k : Int) : Int) = 0)) || ((!decide ((byteAt (s) (k : Int) : Int) = 95)) && ((decide ((byteAt (s) (k : Int) : Int) < 48)) || (decide ((byteAt (s) (k : Int) : Int) > 57)))))) (aB (by intros; first | omega | decide | (simp only [zq0] at *; omega) : (0 : Int) ≤ (k : Int) ∧ (k : Int) < ((s).size : Int))) (fun hc3 => ?_) (fun hc3 => ?_)
 (try simp only [blS] at hc3)
 refine zE hG [] .ret (⟨[zS 0 s, zB 2 false], []⟩) aA rfl ?_
 refine zR hG [] [] (.c (cB false)) [] aA ?_ ?_
 simp only [eH] at hc3
 exact dO (rn_bad (by omega) hall (jL s k (by omega))).symm
 rfl
 (try simp only [blS] at hc3)
 refine zD hG [] (k + 1) (aB (by intros; first | omega | decide | (simp only [zq0] at *; omega) : inR ((k : Int) + 1))) ?_ ?_
 (try dsimp only); omega
 simp only [eH] at hc3
 exact ⟨by omega, by rw [hall, jL s k (by omega), List.all_cons, rn_tail hc3, Bool.true_and], fun _ => rn_head hc3 hl0⟩
 skip
 refine zE hG [] (.exit 0) (⟨[zS 0 s, zB 2 false], []⟩) aA rfl ?_
 refine zR hG [] [] (.c (cB ((decide ((((s).size : Int) : Int) ≥ 1)) && (decide ((((s).size : Int) : Int) ≤ 20))))) [] aA ?_ ?_
 exact dO (rn_end hall (aAP s k (by omega)) (by omega) hl0)
 rfl
theorem jJ (y m : Int) (h0 : 0 ≤ y) :
  SpG g 150 [.c (cI y), .c (cI m)] [] (.c (cI (dI y m))) [] := by
 refine aG 17 Tryz.func150 (by kernel_rfl) fun fr hG => ?_
 refine zP hG [] [1, 0, 1, 0, 1] ((m : Int) = 2) (⟨[zI 0 y, zI 4 0, zI 6 m], []⟩) aA (fun hc1 => ?_) (fun hc1 => ?_)
 skip
 refine zC hG [(3, 1, kB (j7 y))] [1, 0, 1, 0, 1, 0, 1, 0, 1] (j7 y) (⟨[zI 4 0], []⟩) (aB (aB0 y (by omega) : SpG g _ _ _ _ _)) (fun hc2 => ?_) (fun hc2 => ?_)
 (try simp only [blS] at hc2)
 refine zR hG [] [] (.c (cI 29)) [] aA ?_ ?_
 first | (exfalso; omega) | (refine f4 ?_; simp [dI, lpI, *])
 rfl
 (try simp only [blS] at hc2)
 refine zR hG [] [] (.c (cI 28)) [] aA ?_ ?_
 first | (exfalso; omega) | (refine f4 ?_; simp [dI, lpI, *])
 rfl
 skip
 refine zP hG [] [1, 0, 1, 1, 0, 1, 0, 1] ((m : Int) = 4) (⟨[zI 4 0, zI 6 m, zB 12 (decide ((m : Int) = 4))], []⟩) aA (fun hc3 => ?_) (fun hc3 => ?_)
 skip
 refine zP hG [] [1, 1, 1, 0, 1, 0, 1] ((m : Int) = 4) (⟨[zI 4 0], []⟩) aA (fun hc4 => ?_) (fun hc4 => ?_)
 skip
 refine zR hG [] [] (.c (cI 30)) [] aA ?_ ?_
 first | (exfalso; omega) | (refine f4 ?_; simp [dI, lpI, *])
 rfl
 skip
 refine zR hG [] [] (.c (cI 31)) [] aA ?_ ?_
 first | (exfalso; omega) | (refine f4 ?_; simp [dI, lpI, *])
 rfl
 skip
 refine zP hG [] [1, 1, 1, 0, 1, 1, 0, 1, 0, 1] ((m : Int) = 6) (⟨[zI 4 0, zI 6 m, zB 12 (decide ((m : Int) = 6))], []⟩) aA (fun hc5 => ?_) (fun hc5 => ?_)
 skip
 refine zP hG [] [1, 1, 1, 0, 1, 0, 1] ((m : Int) = 6) (⟨[zI 4 0], []⟩) aA (fun hc6 => ?_) (fun hc6 => ?_)
 skip
 refine zR hG [] [] (.c (cI 30)) [] aA ?_ ?_
 first | (exfalso; omega) | (refine f4 ?_; simp [dI, lpI, *])
 rfl
 skip
 refine zR hG [] [] (.c (cI 31)) [] aA ?_ ?_
 first | (exfalso; omega) | (refine f4 ?_; simp [dI, lpI, *])
 rfl
 skip
 refine zP hG [] [1, 1, 1, 1, 1, 0, 1, 1, 0, 1, 0, 1] ((m : Int) = 9) (⟨[zI 4 0, zI 6 m, zB 12 (decide ((m : Int) = 9))], []⟩) aA (fun hc7 => ?_) (fun hc7 => ?_)
 skip
 refine zP hG [] [1, 1, 1, 0, 1, 0, 1] ((m : Int) = 9) (⟨[zI 4 0], []⟩) aA (fun hc8 => ?_) (fun hc8 => ?_)
 skip
 refine zR hG [] [] (.c (cI 30)) [] aA ?_ ?_
 first | (exfalso; omega) | (refine f4 ?_; simp [dI, lpI, *])
 rfl
 skip
 refine zR hG [] [] (.c (cI 31)) [] aA ?_ ?_
 first | (exfalso; omega) | (refine f4 ?_; simp [dI, lpI, *])
 rfl
 skip
 refine zP hG [] [1, 1, 1, 0, 1, 0, 1] ((m : Int) = 11) (⟨[zI 4 0], []⟩) aA (fun hc9 => ?_) (fun hc9 => ?_)
 skip
 refine zR hG [] [] (.c (cI 30)) [] aA ?_ ?_
 first | (exfalso; omega) | (refine f4 ?_; simp [dI, lpI, *])
 rfl
 skip
 refine zR hG [] [] (.c (cI 31)) [] aA ?_ ?_
 first | (exfalso; omega) | (refine f4 ?_; simp [dI, lpI, *])
 rfl
theorem kT (y : Int) (h1 : 1 ≤ y) (h2 : y ≤ 10000) :
  SpG g 149 [.c (cI y)] [] (.c (cI (dby y))) [] := by
 refine aG 17 Tryz.func149 (by kernel_rfl) fun fr hG => ?_
 refine zR hG [] [] (.c (cI ((((365 * (y - 1)) + (Int.tdiv (y - 1) 4)) - (Int.tdiv (y - 1) 100)) + (Int.tdiv (y - 1) 400)))) [] (aC (by intros; first | omega | decide | (simp only [inR, Int.tdiv_eq_ediv_of_nonneg (show 0 ≤ y - 1 by omega)]; omega) : inR (y - 1)) (aC (by intros; first | omega | decide | (simp only [inR, Int.tdiv_eq_ediv_of_nonneg (show 0 ≤ y - 1 by omega)]; omega) : inR (365 * (y - 1))) (aC (by intros; first | omega | decide | (simp only [inR, Int.tdiv_eq_ediv_of_nonneg (show 0 ≤ y - 1 by omega)]; omega) : 4 ≠ (0 : Int) ∧ inR (Int.tdiv (y - 1) 4)) (aC (by intros; first | omega | decide | (simp only [inR, Int.tdiv_eq_ediv_of_nonneg (show 0 ≤ y - 1 by omega)]; omega) : inR ((365 * (y - 1)) + (Int.tdiv (y - 1) 4))) (aC (by intros; first | omega | decide | (simp only [inR, Int.tdiv_eq_ediv_of_nonneg (show 0 ≤ y - 1 by omega)]; omega) : 100 ≠ (0 : Int) ∧ inR (Int.tdiv (y - 1) 100)) (aC (by intros; first | omega | decide | (simp only [inR, Int.tdiv_eq_ediv_of_nonneg (show 0 ≤ y - 1 by omega)]; omega) : inR (((365 * (y - 1)) + (Int.tdiv (y - 1) 4)) - (Int.tdiv (y - 1) 100))) (aC (by intros; first | omega | decide | (simp only [inR, Int.tdiv_eq_ediv_of_nonneg (show 0 ≤ y - 1 by omega)]; omega) : 400 ≠ (0 : Int) ∧ inR (Int.tdiv (y - 1) 400)) (aB (by intros; first | omega | decide | (simp only [inR, Int.tdiv_eq_ediv_of_nonneg (show 0 ≤ y - 1 by omega)]; omega) : inR ((((365 * (y - 1)) + (Int.tdiv (y - 1) 4)) - (Int.tdiv (y - 1) 100)) + (Int.tdiv (y - 1) 400))))))))))) ?_ ?_
 refine f4 ?_
 simp only [Int.tdiv_eq_ediv_of_nonneg (show 0 ≤ y - 1 by omega)]; rfl
 rfl
abbrev y0 (a0 : Int) (a1 : Int) (a2 : Int) : SV := .tup [(false, [cI a0]), (false, [cI a1]), (false, [cI a2]), (false, [cB true])]
theorem yS (n : Int) (h0 : 0 ≤ n) (h1 : n ≤ 3652058) :
  SpG g 92 [.c (cI n)] [] (y0 ((civ n).1) ((civ n).2.1) ((civ n).2.2)) [] := by
 refine aG 49 Tryz.func92 (by kernel_rfl) fun fr hG => ?_
 refine zC hG [(1, 1, kB (decide ((0 : Int) ≤ n) && decide (n ≤ (3652058 : Int))))] [1, 0, 1] (!(decide ((0 : Int) ≤ n) && decide (n ≤ (3652058 : Int)))) (⟨[zI 0 n, zI 2 0, zI 3 0, zI 4 0, zB 5 false], []⟩) (aB (vX n : SpG g _ _ _ _ _)) (fun hc1 => ?_) (fun hc1 => ?_)
 (try simp only [blS] at hc1)
 exfalso; omega
 (try simp only [blS] at hc1)
 refine zL hG [] [0, 0, 1, 1, 1, 1] (fun (zz : Int × Int) => match zz with | (lo, hi) => ((hi - lo).toNat, ⟨[zI 0 n, zI 2 0, zI 3 0, zI 4 0, zB 5 false, zI 6 lo, zI 7 hi], []⟩, 1 ≤ lo ∧ lo ≤ hi ∧ hi ≤ 9999 ∧ dby lo ≤ n ∧ n < dby (hi + 1))) (1, 9999) aA ?_ ?_
 exact ⟨by omega, by omega, by omega, by rw [aNK]; omega, by show n < dby 10000; rw [sN]; omega⟩
 rintro ⟨lo, hi⟩ ⟨hy1, hy2, hy3, hy4, hy5⟩
 have hmd : Int.tdiv ((lo + hi) + 1) 2 = (lo + hi + 1) / 2 := Int.tdiv_eq_ediv_of_nonneg (by omega)
 have hdb := oM lo hy1 (by omega)
 refine zp hG [] [1, 0] ((lo : Int) < hi) aA (fun hc3 => ?_) (fun hc3 => ?_)
 skip
 refine zP hG [(7, 1, kI (dby (Int.tdiv ((lo + hi) + 1) 2)))] [1, 1, 0, 1] ((dby (Int.tdiv ((lo + hi) + 1) 2) : Int) ≤ n) (⟨[zI 0 n, zI 2 0, zI 3 0, zI 4 0, zB 5 false, zI 6 lo, zI 7 hi, zI 8 (Int.tdiv ((lo + hi) + 1) 2)], []⟩) (aC (by intros; first | omega | decide | (simp only [zq0] at *; first | omega | (rw [hmd] at *; omega)) : inR (lo + hi)) (aC (by intros; first | omega | decide | (simp only [zq0] at *; first | omega | (rw [hmd] at *; omega)) : inR ((lo + hi) + 1)) (aC (by intros; first | omega | decide | (simp only [zq0] at *; first | omega | (rw [hmd] at *; omega)) : 2 ≠ (0 : Int) ∧ inR (Int.tdiv ((lo + hi) + 1) 2)) (aB (kT (Int.tdiv ((lo + hi) + 1) 2) (by first | omega | (rw [hmd]; omega)) (by first | omega | (rw [hmd]; omega)) : SpG g _ _ _ _ _))))) (fun hc4 => ?_) (fun hc4 => ?_)
 skip
 refine zD hG [] (Int.tdiv ((lo + hi) + 1) 2, hi) aA ?_ ?_
 (try dsimp only); rw [hmd]; omega
 rw [hmd] at *
 exact ⟨by omega, by omega, by omega, hc4, hy5⟩
 skip
 refine zD hG [] (lo, Int.tdiv ((lo + hi) + 1) 2 - 1) (aB (by intros; first | omega | decide | (simp only [zq0] at *; first | omega | (rw [hmd] at *; omega)) : inR ((Int.tdiv ((lo + hi) + 1) 2) - 1))) ?_ ?_
 (try dsimp only); rw [hmd]; omega
 rw [hmd] at *
 exact ⟨by omega, by omega, by omega, by omega, by rw [Int.sub_add_cancel]; omega⟩
 skip
 refine zE hG [] (.exit 0) (⟨[zI 0 n, zI 2 0, zI 3 0, zI 4 0, zB 5 false, zI 6 lo], []⟩) aA rfl ?_
 refine zL hG [(10, 2, kI (dby lo))] [0, 0, 1, 1, 1, 1, 1, 1, 1] (fun (zz : Int × Int) => match zz with | (r, m) => ((12 - m).toNat, ⟨[zI 2 0, zI 3 0, zI 4 0, zB 5 false, zI 6 lo, zI 9 r, zI 10 m], []⟩, 1 ≤ m ∧ m ≤ 12 ∧ 0 ≤ r ∧ r = n - dby lo - cum lo m)) (n - dby lo, 1) (aC (kT lo (by first | omega | (rw [hmd]; omega)) (by first | omega | (rw [hmd]; omega)) : SpG g _ _ _ _ _) (aB (by intros; first | omega | decide | (simp only [zq0] at *; first | omega | (rw [hmd] at *; omega)) : inR (n - (dby lo))))) ?_ ?_
 exact ⟨by omega, by omega, by omega, by rw [u5]; omega⟩
 rintro ⟨r, m⟩ ⟨hm1, hm2, hr1, hr2⟩
 obtain rfl : lo = hi := by omega
 have hcb := u4 lo m hm1 (by omega)
 have hdl := iF lo m
 have hcs := eM lo m hm1
 have hup := ref_up hy1 hy3 hy5 hm1 hm2 hr2
 refine zp hG [(12, 3, kI (dI lo m))] [1, 0] ((r : Int) ≥ (dI lo m)) (aB (jJ lo m (by omega) : SpG g _ _ _ _ _)) (fun hc6 => ?_) (fun hc6 => ?_)
 skip
 refine zD hG [(13, 3, kI (dI lo m))] (r - dI lo m, m + 1) (aC (jJ lo m (by omega) : SpG g _ _ _ _ _) (aC (by intros; first | omega | decide | (simp only [zq0] at *; first | omega | (rw [hmd] at *; omega)) : inR (r - (dI lo m))) (aB (by intros; first | omega | decide | (simp only [zq0] at *; first | omega | (rw [hmd] at *; omega)) : inR (m + 1))))) ?_ ?_
 (try dsimp only); omega
 exact ⟨by omega, by omega, by omega, by omega⟩
 skip
 refine zE hG [] (.exit 2) (⟨[zI 2 0, zI 3 0, zI 4 0, zB 5 false, zI 6 lo, zI 9 r, zI 10 m], []⟩) aA rfl ?_
 refine zR hG [] [] (y0 lo m (r + 1)) [] (aB (by intros; first | omega | decide | (simp only [zq0] at *; first | omega | (rw [hmd] at *; omega)) : inR (r + 1))) ?_ ?_
 have hv : vld lo m (r + 1) := ⟨hy1, by omega, hm1, hm2, by omega, by omega⟩
 rw [vB hv (by unfold eO; omega)]
 rfl
theorem lC (n : Int) (h0 : 0 ≤ n) (h1 : n ≤ 99) :
  SpG g 53 [.c (cI n)] [] (.c (cS (S (dec2 n)))) [] := by
 have hd := Int.tdiv_eq_ediv_of_nonneg (b := 10) h0
 have hm := Int.tmod_eq_emod_of_nonneg (b := 10) h0
 refine aG 20 Tryz.func53 (by kernel_rfl) fun fr hG => ?_
 refine zP hG [] [1, 0, 1] ((n : Int) < 10) (⟨[zI 0 n, zS 2 (S [])], []⟩) aA (fun hc1 => ?_) (fun hc1 => ?_)
 skip
 refine zR hG [(2, 4, kS (S [u8 (48 + n)]))] [] (.c (cS (S [u8 (48 + n)]))) [] (aC (by intros; first | omega | decide | (simp only [zq0] at *; omega) : inR (48 + n)) (aB (show ([[.y (IntKind.wrap .u8 (48 + n))]] : List (List D)) = bytesD (S [u8 (48 + n)]).data.toList from (dS [] _)))) ?_ ?_
 rw [dec2, if_pos hc1]
 rfl
 skip
 refine zR hG [(3, 9, kS (S [u8 (48 + n.tdiv 10), u8 (48 + n.tmod 10)]))] [] (.c (cS (S [u8 (48 + n.tdiv 10), u8 (48 + n.tmod 10)]))) [] (aC (by intros; first | omega | decide | (simp only [zq0] at *; omega) : 10 ≠ (0 : Int) ∧ inR (Int.tdiv n 10)) (aC (by intros; first | omega | decide | (simp only [zq0] at *; omega) : inR (48 + (Int.tdiv n 10))) (aC (by intros; first | omega | decide | (simp only [zq0] at *; omega) : 10 ≠ (0 : Int)) (aC (by intros; first | omega | decide | (simp only [zq0] at *; omega) : inR (48 + (Int.tmod n 10))) (aB (show ([[.y (IntKind.wrap .u8 (48 + (Int.tdiv n 10)))], [.y (IntKind.wrap .u8 (48 + (Int.tmod n 10)))]] : List (List D)) = bytesD (S [u8 (48 + n.tdiv 10), u8 (48 + n.tmod 10)]).data.toList from (aFW _ _))))))) ?_ ?_
 rw [dec2, if_neg hc1]
 rfl
def zq1 := And.intro @List.length_cons.{0} (And.intro @List.length_nil.{0} (@maxLen.eq_1))
theorem oK (n l : Int) (h0 : 0 ≤ n) (h1 : n ≤ 9999) (h2 : 0 ≤ l) (h3 : l ≤ 4) :
  SpG g 93 [.c (cI n), .c (cI l)] [] (.c (cS (S (cY 5 n l [])))) [] := by
 refine aG 25 Tryz.func93 (by kernel_rfl) fun fr hG => ?_
 refine zL hG [] [0, 0, 1, 1] (fun (zz : Int × Int × Nat × ByteArray × List UInt8) => match zz with | (x, k, f, sv, acc) => (f, ⟨[zI 0 x, zI 1 k, zS 4 (S []), zS 5 sv], []⟩, 0 ≤ x ∧ x ≤ 9999 ∧ 0 ≤ k + acc.length ∧ k ≤ 4 ∧ x < 10 ^ f ∧ k ≤ f ∧ acc.length + f = 5 ∧ cY f x k acc = cY 5 n l [] ∧ sv = S acc)) (n, l, 5, (S []), []) aA ?_ ?_
 exact ⟨by omega, by omega, by simp; omega, by omega, by show n < 100000; omega, by omega, rfl, rfl, rfl⟩
 rintro ⟨x, k, f, sv, acc⟩ ⟨hx0, hx1, hk0, hk1, hx2, hk2, hl, hd, hs⟩
 have hdv := Int.tdiv_eq_ediv_of_nonneg (b := 10) hx0
 have hmd := Int.tmod_eq_emod_of_nonneg (b := 10) hx0
 refine zc hG [] [1, 0] ((decide ((x : Int) > 0)) || (decide ((k : Int) > 0))) aA (fun hc2 => ?_) (fun hc2 => ?_)
 (try simp only [blS] at hc2)
 refine zD hG [(3, 5, kS (S [u8 (48 + Int.tmod x 10)]))] (Int.tdiv x 10, k - 1, f - 1, S [u8 (48 + Int.tmod x 10)] ++ sv, [u8 (48 + Int.tmod x 10)] ++ acc) (aC (by intros; first | omega | decide | (simp only [zq0] at *; omega) | (rw [hs, aF, aF]; simp only [zq1]; omega) : 10 ≠ (0 : Int)) (aC (by intros; first | omega | decide | (simp only [zq0] at *; omega) | (rw [hs, aF, aF]; simp only [zq1]; omega) : inR (48 + (Int.tmod x 10))) (aC (show ([[.y (IntKind.wrap .u8 (48 + (Int.tmod x 10)))]] : List (List D)) = bytesD (S [u8 (48 + Int.tmod x 10)]).data.toList from (dS [] _)) (aC (by intros; first | omega | decide | (simp only [zq0] at *; omega) | (rw [hs, aF, aF]; simp only [zq1]; omega) : (S [u8 (48 + Int.tmod x 10)]).size + (sv).size ≤ maxLen) (aC (by intros; first | omega | decide | (simp only [zq0] at *; omega) | (rw [hs, aF, aF]; simp only [zq1]; omega) : 10 ≠ (0 : Int) ∧ inR (Int.tdiv x 10)) (aB (by intros; first | omega | decide | (simp only [zq0] at *; omega) | (rw [hs, aF, aF]; simp only [zq1]; omega) : inR (k - 1)))))))) ?_ ?_
 obtain ⟨f', rfl, _⟩ := xQ (acc := acc) hc2 hx2 hk2 hx0; dsimp only; omega
 obtain ⟨f', rfl, g1, g2, g3⟩ := xQ (acc := acc) hc2 hx2 hk2 hx0
 rw [hdv, hmd]
 exact ⟨by omega, by omega, by simp; omega, by omega, g1, g2, by simp; omega, by rw [← hd, g3]; rfl, by rw [hs, bI]⟩
 (try simp only [blS] at hc2)
 refine zE hG [] (.exit 0) (⟨[zS 4 (S []), zS 5 sv], []⟩) aA rfl ?_
 refine zR hG [] [] (.c (cS sv)) [] aA ?_ ?_
 rw [← hd, aNB (by omega), hs]
 rfl
def zq2 := And.intro @List.length_cons.{0} (And.intro @List.length_nil.{0} (@aF))
theorem tP (n : Int) (h0 : 0 ≤ n) (h1 : n ≤ 3652058) :
  SpG g 56 [.c (cI n)] [] (.c (cS (S (aR n)))) [] := by
 obtain ⟨hy0, hy1, hm0, hm1, hd0, hd1⟩ := oQ h0 h1
 have l1 := iX 5 (civ n).1 4 []
 have l2 := iX 5 (civ n).2.1 2 []
 have l3 := iX 5 (civ n).2.2 2 []
 refine aG 26 Tryz.func56 (by kernel_rfl) fun fr hG => ?_
 refine zC hG [(1, 1, kC (y0 ((civ n).1) ((civ n).2.1) ((civ n).2.2)))] [1, 0, 1, 1] (false) (⟨[zS 2 (S []), zI 3 ((civ n).1), zI 4 ((civ n).2.1), zI 5 ((civ n).2.2)], []⟩) (aB (yS n (by omega) (by omega) : SpG g _ _ _ _ _)) (fun hc1 => absurd hc1 (by decide)) (fun _ => ?_)
 refine zR hG [(4, 1, kS (S (cY 5 ((civ n).1) 4 []))), (4, 4, kS (S (cY 5 ((civ n).2.1) 2 []))), (4, 8, kS (S (cY 5 ((civ n).2.2) 2 [])))] [] (.c (cS (((((S (cY 5 ((civ n).1) 4 [])) ++ (S [45])) ++ (S (cY 5 ((civ n).2.1) 2 []))) ++ (S [45])) ++ (S (cY 5 ((civ n).2.2) 2 []))))) [] (aC (oK ((civ n).1) 4 (by omega) (by omega) (by omega) (by omega) : SpG g _ _ _ _ _) (aC (by intros; first | omega | decide | (simp only [zq2, ByteArray.size_append] at *; unfold maxLen; omega) : (S (cY 5 ((civ n).1) 4 [])).size + (S [45]).size ≤ maxLen) (aC (oK ((civ n).2.1) 2 (by omega) (by omega) (by omega) (by omega) : SpG g _ _ _ _ _) (aC (by intros; first | omega | decide | (simp only [zq2, ByteArray.size_append] at *; unfold maxLen; omega) : ((S (cY 5 ((civ n).1) 4 [])) ++ (S [45])).size + (S (cY 5 ((civ n).2.1) 2 [])).size ≤ maxLen) (aC (by intros; first | omega | decide | (simp only [zq2, ByteArray.size_append] at *; unfold maxLen; omega) : (((S (cY 5 ((civ n).1) 4 [])) ++ (S [45])) ++ (S (cY 5 ((civ n).2.1) 2 []))).size + (S [45]).size ≤ maxLen) (aC (oK ((civ n).2.2) 2 (by omega) (by omega) (by omega) (by omega) : SpG g _ _ _ _ _) (aB (by intros; first | omega | decide | (simp only [zq2, ByteArray.size_append] at *; unfold maxLen; omega) : ((((S (cY 5 ((civ n).1) 4 [])) ++ (S [45])) ++ (S (cY 5 ((civ n).2.1) 2 []))) ++ (S [45])).size + (S (cY 5 ((civ n).2.2) 2 [])).size ≤ maxLen)))))))) ?_ ?_
 rw [bI, bI, bI, bI]; rfl
 rfl
end Go.Proofs.YtmpgfchkkemngaaGreatDoor
namespace Go.Proofs.YtmpgfchkkemngaaGreatDoor
open Go.RowKit Go.V
open Go.Eng (inR byteAt u8 bH)
variable {g : Gv}
def bZ (v : Vl) : Bool := decide (v.s = []) && (v.dn == 0 && v.ds == 0) && decide (v.n = 0) && decide (v.cols = []) && decide (v.rows = [])
def bW (l : List UInt8) : Bool := dG (S l)
def eQ (l : List UInt8) : Bool := iE (S l)
theorem aI2 (l : List UInt8) : SpG g 74 [.c (cS (S l))] [] (.c (cB (bW l))) [] := aE7 (S l)
theorem aI1 (l : List UInt8) (h : l.length ≤ maxLen) : SpG g 38 [.c (cS (S l))] [] (.c (cB (eQ l))) [] := aE6 (S l) (by rw [aF]; exact h)
theorem aET (l : List UInt8) (h : l.length ≤ maxLen) : SpG g 116 [.c (cS (S l))] [] (.c (cB (bW l))) [] := aBY (S l) (by rw [aF]; exact h)
theorem aBV (l : List UInt8) (h : l.length ≤ maxLen) : SpG g 41 [.c (cS (S l))] [] (.c (cB (eQ l))) [] := aIJ (S l) (by rw [aF]; exact h)
def zZ (l : List (List UInt8)) (x : List UInt8) : Int := match l.findIdx? (fun y => decide (x = y)) with
 | some k => (k : Int)
 | none => -1
theorem idxI_at {l : List (List UInt8)} {k : Nat} {x : List UInt8} (hk : k < l.length) (hn : ∀ j, j < k → x ≠ l.getD j []) (hx : x = l.getD k []) : zZ l x = (k : Int) := by
 have : l.findIdx? (fun y => decide (x = y)) = some k := by
  rw [List.findIdx?_eq_some_iff_getElem]
  refine ⟨hk, by simpa [hk] using hx, fun j hj => ?_⟩
  have := hn j hj
  simpa [show j < l.length by omega] using this
 rw [zZ, this]
theorem aI6 {l : List (List UInt8)} {x : List UInt8} (hn : ∀ j, j < l.length → x ≠ l.getD j []) : zZ l x = -1 := by
 have : l.findIdx? (fun y => decide (x = y)) = none := by
  rw [List.findIdx?_eq_none_iff]
  intro y hy
  obtain ⟨j, hj, rfl⟩ := List.mem_iff_getElem.1 hy
  have := hn j hj
  simpa [hj] using this
 rw [zZ, this]
theorem aCV {l : List (List UInt8)} {x : List UInt8} : decide (zZ l x ≥ 0) = decide (x ∈ l) := by
 unfold zZ
 cases h : l.findIdx? (fun y => decide (x = y)) with
 | none =>
  rw [List.findIdx?_eq_none_iff] at h
  have : x ∉ l := fun hm => by have := h x hm; simp at this
  simp [this]
 | some k =>
  obtain ⟨hk, h1, _⟩ := List.findIdx?_eq_some_iff_getElem.1 h
  simp only [decide_eq_true_eq] at h1
  have : x ∈ l := by rw [h1]; exact List.getElem_mem hk
  simp [this]
def mO (n : Nat) (p : Nat → Bool) : Bool := (List.range n).all p
theorem gO {n : Nat} {p : Nat → Bool} (h : ∀ i, i < n → p i = true) : mO n p = true := by
 simp only [mO, List.all_eq_true, List.mem_range]; exact h
theorem jE {n : Nat} {p : Nat → Bool} {i : Nat} (hi : i < n) (h : p i = false) : mO n p = false := by
 cases hh : mO n p with
 | false => rfl
 | true => simp only [mO, List.all_eq_true, List.mem_range] at hh; rw [hh i hi] at h; cases h
theorem gE {n : Nat} {p : Nat → Bool} (h : mO n p = true) {i : Nat} (hi : i < n) : p i = true := by
 simp only [mO, List.all_eq_true, List.mem_range] at h; exact h i hi
theorem cU {k : Nat} {q : Nat → Prop} (h : ∀ j, j < k → q j) (hk : q k) : ∀ j, j < k + 1 → q j := fun j hj => by
 rcases Nat.lt_succ_iff_lt_or_eq.1 hj with h' | h'
 exact h j h'
 rw [h']; exact hk
def aV (T : Bool) (v : Vl) : Bool :=
 if v.kind = 0 then decide (0 ≤ v.n) && decide (v.n ≤ 99) && bZ { v with n := 0 }
 else if v.kind = 1 then eQ v.s && bZ { v with s := [] }
 else if v.kind = 2 then cZ v.dn v.ds && bZ { v with dn := 0, ds := 0 }
 else if v.kind = 3 then decide (0 ≤ v.n) && decide (v.n ≤ 3652058) && bZ { v with n := 0 }
 else if v.kind = 4 then (decide (v.n = 0) || decide (v.n = 1)) && bZ { v with n := 0 }
 else if v.kind = 5 then T && bZ { v with cols := [], rows := [] }
 else false
def nameAt (cols : List (List UInt8)) (i : Nat) : Bool := bW (cols.getD i []) && !decide (cols.getD i [] ∈ cols.take i)
def cellAt (r : List Cl) (j : Nat) : Bool := !decide ((r.getD j Cl.z).kind = 5) && aV false (r.getD j Cl.z).toV
def rowAt (cols : List (List UInt8)) (rows : List (List Cl)) (i : Nat) : Bool := decide ((rows.getD i []).length = cols.length) && mO (rows.getD i []).length (cellAt (rows.getD i []))
def cK (cols : List (List UInt8)) (rows : List (List Cl)) : Bool := decide (cols.length ≤ 8) && decide (rows.length ≤ 100) && mO cols.length (nameAt cols) && mO rows.length (rowAt cols rows)
def aU (v : Vl) : Bool := aV (cK v.cols v.rows) v
structure Vl.fit (v : Vl) : Prop where
 s : v.s.length ≤ maxLen
 cols : ∀ t, t ∈ v.cols → t.length ≤ maxLen
 cells : ∀ r, r ∈ v.rows → ∀ c, c ∈ r → c.s.length ≤ maxLen
def lJ (c : Cl) : SV := .agg (zW c)
theorem bO {α : Type} {l : List α} {k : Nat} {z : α} (h : k < l.length) : l.getD k z ∈ l := by simp [h]
theorem lT {cols : List (List UInt8)} {rows : List (List Cl)} (h : (cols.length : Int) > 8 ∨ (rows.length : Int) > 100) : cK cols rows = false := by
 have : (decide (cols.length ≤ 8) && decide (rows.length ≤ 100)) = false := by
  rcases h with h | h
  simp; omega
  simp; omega
 simp only [cK, this, Bool.false_and]
theorem aA9 {cols : List (List UInt8)} {rows : List (List Cl)} {k : Nat} (hk : k < cols.length) (h : nameAt cols k = false) : cK cols rows = false := by
 rw [cK, jE hk h]; simp
theorem iP {cols : List (List UInt8)} {rows : List (List Cl)} {k : Nat} (hk : k < rows.length) (h : rowAt cols rows k = false) : cK cols rows = false := by
 rw [cK, jE (p := rowAt cols rows) hk h]; simp
theorem qE {cols : List (List UInt8)} {rows : List (List Cl)} (h : ¬ (cols.length : Int) > 8 ∧ ¬ (rows.length : Int) > 100) (hn : ∀ j, j < cols.length → nameAt cols j = true) (hr : ∀ j, j < rows.length → rowAt cols rows j = true) : cK cols rows = true := by
 rw [cK, gO hn, gO hr]; simp; omega
theorem wQ {cols : List (List UInt8)} {rows : List (List Cl)} {i : Nat} (h : ¬ ((rows.getD i []).length : Int) = (cols.length : Int)) : rowAt cols rows i = false := by
 have : ¬ (rows.getD i []).length = cols.length := by omega
 simp only [rowAt, this, decide_false, Bool.false_and]
theorem n6 {cols : List (List UInt8)} {rows : List (List Cl)} {i m : Nat} (hm : m < (rows.getD i []).length) (h : cellAt (rows.getD i []) m = false) : rowAt cols rows i = false := by
 rw [rowAt, jE hm h]; simp
theorem fail_ok (e : Int) :
  SpG g 25 [.c (cI e)] [] (.agg [cI 0, cS (S []), cI 0, cI 0, cI e, cN, cN]) [] := by
 refine aG 5 Tryz.func25 (by kernel_rfl) fun fr hG => ?_
 exact zr hG [] [] aA
theorem nN (v : Vl) :
  SpG g 37 [.agg (zV v)] [] (.c (cB (bZ v))) [] := by
 refine aG 29 Tryz.func37 (by kernel_rfl) fun fr hG => ?_
 refine zR hG [] [] (.c (cB ((((((S v.s).toList == (S []).toList) && (((v.dn : Int) == 0) && ((v.ds : Int) == 0))) && (decide ((v.n : Int) = 0))) && (decide ((((strs v.cols).length : Int) : Int) = 0))) && (decide ((((rowsD v.rows).length : Int) : Int) = 0))))) [] aA ?_ ?_
 rw [aD4]; simp [bZ, strs, rowsD]
 rfl
def zq3 := And.intro @List.length_map.{0, 0} (And.intro @dY (And.intro @aD3 (And.intro @blS (And.intro @rowD.eq_1 (And.intro @rowsD.eq_1 (And.intro @strs.eq_1 (@valsD.eq_1)))))))
def zq4 := And.intro @List.length_map.{0, 0} (@strs.eq_1)
theorem aMG (l : List (List UInt8)) (x : List UInt8) :
  SpG g 115 [.c (cM 1 (strs l)), .c (cS (S x))] [] (.c (cI (zZ l x))) [] := by
 refine aG 19 Tryz.func115 (by kernel_rfl) fun fr hG => ?_
 refine bN 0 rfl fun hl => ?_
 refine zL hG [] [0, 1, 0, 1] (fun (zz : Nat) => match zz with | k => (l.length - k, ⟨[zM 0 1 (strs l), zS 1 (S x), zI 4 0, zI 7 ((strs l).length : Int), zI 8 (k : Int)], []⟩, k ≤ l.length ∧ ∀ j, j < k → x ≠ l.getD j [])) 0 aA ?_ ?_
 ·exact ⟨Nat.zero_le _, fun j hj => by omega⟩
 rintro k ⟨hk, hn⟩
 refine zc hG [] [0, 1] (decide (((k : Int) : Int) < ((strs l).length : Int))) aA (fun hc2 => ?_) (fun hc2 => ?_)
 ·(try simp only [zq3] at hc2)
  refine zC hG [(4, 3, .elem (cH ((l).getD k [])))] [1, 1, 0, 0, 1, 1] ((S x).toList == (S ((l).getD k [])).toList) (⟨[zM 0 1 (strs l), zS 1 (S x), zI 4 0, zI 5 (k : Int), zI 7 ((strs l).length : Int), zI 8 (k : Int)], []⟩) (aB (by intros; exact aY [] (by omega) (by (try simp only [zq4] at *); omega) : (0 : Int) ≤ (k : Int) ∧ (strs l)[k]? = some (cH ((l).getD k [])))) (fun hc3 => ?_) (fun hc3 => ?_)
  ·(try simp only [zq3] at hc3)
   refine zE hG [] .ret (⟨[zI 4 (k : Int)], []⟩) aA rfl ?_
   refine zR hG [] [] (.c (cI (k : Int))) [] aA ?_ ?_
   ·rw [idxI_at (by omega) hn (by simpa using hc3)]
   ·rfl
  ·(try simp only [zq3] at hc3)
   refine zD hG [] (k + 1) (aB (by (try simp only [strs, List.length_map, inR, maxLen] at *); omega : inR ((k : Int) + 1))) ?_ ?_
   ·(try simp only [zq4] at *); (try dsimp only); omega
   ·exact ⟨by omega, fun j hj => by rcases Nat.lt_succ_iff_lt_or_eq.1 hj with h | h; (· exact hn j h); rw [h]; simpa using hc3⟩
 ·(try simp only [zq3] at hc2)
  refine zE hG [] (.exit 0) (⟨[zI 4 0], []⟩) aA rfl ?_
  refine zR hG [] [] (.c (cI (-1))) [] aA ?_ ?_
  ·rw [aI6 (fun j hj => hn j (by omega))]
  ·rfl
theorem aDI (l : List (List UInt8)) (x : List UInt8) :
  SpG g 75 [.c (cM 1 (strs l)), .c (cS (S x))] [] (.c (cB (decide (x ∈ l)))) [] := by
 refine aG 9 Tryz.func75 (by kernel_rfl) fun fr hG => ?_
 refine zR hG [(1, 2, kI (zZ (l) (x)))] [] (.c (cB (decide ((zZ (l) (x) : Int) ≥ 0)))) [] (aB (aMG (l) (x) : SpG g _ _ _ _ _)) ?_ ?_
 rw [aCV]
 rfl
theorem aDJ {es : List (List D)} {l : List (List UInt8)} (h : es = strs l) (x : List UInt8) : SpG g 75 [.c (cM 1 es), .c (cS (S x))] [] (.c (cB (decide (x ∈ l)))) [] := by subst h; exact aDI l x
theorem aBL (v : Vl) (T : Bool) (hs : v.s.length ≤ maxLen) (hT : SpG g 40 [.c (cM 1 (strs v.cols)), .c (cM 1 (rowsD v.rows))] [] (.c (cB T)) []) :
  SpG g 13 [.agg (zV v)] [] (.c (cB (aV T v))) [] := by
 refine aG 86 Tryz.func13 (by kernel_rfl) fun fr hG => ?_
 refine zP hG [] [1, 0, 1, 0, 1, 1] ((v.kind : Int) = 0) (⟨[zX 1 100 0, zB 2 false, zX 3 201 0, zI 6 v.kind], [(100, .box 30 (zV v)), (201, .box 30 (zV v))]⟩) aA (fun hc1 => ?_) (fun hc1 => ?_)
 skip
 refine zR hG [(5, 10, kB (bZ (⟨v.kind, v.s, v.dn, v.ds, 0, v.cols, v.rows⟩ : Vl)))] [] (.c (cB (((decide ((v.n : Int) ≥ 0)) && (decide ((v.n : Int) ≤ 99))) && (bZ (⟨v.kind, v.s, v.dn, v.ds, 0, v.cols, v.rows⟩ : Vl))))) [] (aB (fun (hg1 : ((decide ((v.n : Int) ≥ 0)) && (decide ((v.n : Int) ≤ 99))) = true) => (nN (⟨v.kind, v.s, v.dn, v.ds, 0, v.cols, v.rows⟩ : Vl) : SpG g _ _ _ _ _))) ?_ ?_
 simp [aV, *]
 rfl
 skip
 refine zp hG [] [1, 1, 1, 0, 1, 0, 1, 1] ((v.kind : Int) = 1) aA (fun hc2 => ?_) (fun hc2 => ?_)
 skip
 refine zR hG [(8, 2, kB (eQ (v.s))), (8, 5, kB (bZ (⟨v.kind, [], v.dn, v.ds, v.n, v.cols, v.rows⟩ : Vl)))] [] (.c (cB ((eQ (v.s)) && (bZ (⟨v.kind, [], v.dn, v.ds, v.n, v.cols, v.rows⟩ : Vl))))) [] (aC (aI1 (v.s) (by assumption) : SpG g _ _ _ _ _) (aB (fun (hg1 : (eQ (v.s)) = true) => (nN (⟨v.kind, [], v.dn, v.ds, v.n, v.cols, v.rows⟩ : Vl) : SpG g _ _ _ _ _)))) ?_ ?_
 simp [aV, *]
 rfl
 skip
 refine zp hG [] [1, 1, 1, 1, 1, 0, 1, 0, 1, 1] ((v.kind : Int) = 2) aA (fun hc3 => ?_) (fun hc3 => ?_)
 skip
 refine zR hG [(11, 2, kB (cZ v.dn v.ds)), (11, 5, kB (bZ (⟨v.kind, v.s, 0, 0, v.n, v.cols, v.rows⟩ : Vl)))] [] (.c (cB ((cZ v.dn v.ds) && (bZ (⟨v.kind, v.s, 0, 0, v.n, v.cols, v.rows⟩ : Vl))))) [] (aC (rX v.dn v.ds : SpG g _ _ _ _ _) (aB (fun (hg1 : (cZ v.dn v.ds) = true) => (nN (⟨v.kind, v.s, 0, 0, v.n, v.cols, v.rows⟩ : Vl) : SpG g _ _ _ _ _)))) ?_ ?_
 simp [aV, *]
 rfl
 skip
 refine zp hG [] [1, 1, 1, 1, 1, 1, 1, 0, 1, 0, 1, 1] ((v.kind : Int) = 3) aA (fun hc4 => ?_) (fun hc4 => ?_)
 skip
 refine zR hG [(14, 10, kB (bZ (⟨v.kind, v.s, v.dn, v.ds, 0, v.cols, v.rows⟩ : Vl)))] [] (.c (cB (((decide ((v.n : Int) ≥ 0)) && (decide ((v.n : Int) ≤ 3652058))) && (bZ (⟨v.kind, v.s, v.dn, v.ds, 0, v.cols, v.rows⟩ : Vl))))) [] (aB (fun (hg1 : ((decide ((v.n : Int) ≥ 0)) && (decide ((v.n : Int) ≤ 3652058))) = true) => (nN (⟨v.kind, v.s, v.dn, v.ds, 0, v.cols, v.rows⟩ : Vl) : SpG g _ _ _ _ _))) ?_ ?_
 simp [aV, *]
 rfl
 skip
 refine zp hG [] [1, 1, 1, 1, 1, 1, 1, 1, 1, 0, 1, 0, 1, 1] ((v.kind : Int) = 4) aA (fun hc5 => ?_) (fun hc5 => ?_)
 skip
 refine zR hG [(17, 10, kB (bZ (⟨v.kind, v.s, v.dn, v.ds, 0, v.cols, v.rows⟩ : Vl)))] [] (.c (cB (((decide ((v.n : Int) = 0)) || (decide ((v.n : Int) = 1))) && (bZ (⟨v.kind, v.s, v.dn, v.ds, 0, v.cols, v.rows⟩ : Vl))))) [] (aB (fun (hg1 : ((decide ((v.n : Int) = 0)) || (decide ((v.n : Int) = 1))) = true) => (nN (⟨v.kind, v.s, v.dn, v.ds, 0, v.cols, v.rows⟩ : Vl) : SpG g _ _ _ _ _))) ?_ ?_
 simp [aV, *]
 rfl
 skip
 refine zP hG [] [1, 1, 1, 1, 1, 1, 1, 1, 1, 1, 1, 0, 1, 0, 1, 1] ((v.kind : Int) = 5) (⟨[zX 1 100 0, zB 2 false, zX 3 201 0], [(100, .box 30 (zV v)), (201, .box 30 (zV v))]⟩) aA (fun hc6 => ?_) (fun hc6 => ?_)
 skip
 refine zR hG [(20, 4, kB T), (20, 7, kB (bZ (⟨v.kind, v.s, v.dn, v.ds, v.n, [], []⟩ : Vl)))] [] (.c (cB (T && (bZ (⟨v.kind, v.s, v.dn, v.ds, v.n, [], []⟩ : Vl))))) [] (aC (hT : SpG g _ _ _ _ _) (aB (fun (hg1 : T = true) => (dM (ins := [.agg [cI v.kind, cS (S v.s), cI v.dn, cI v.ds, cI v.n, cN, cN]]) [[none, none, none, none, none, some 1, some 1]] (nN (⟨v.kind, v.s, v.dn, v.ds, v.n, [], []⟩ : Vl)) : SpG g _ _ _ _ _)))) ?_ ?_
 simp [aV, *]
 rfl
 skip
 refine zR hG [] [] (.c (cB false)) [] aA ?_ ?_
 simp [aV, *]
 rfl
def zq5 := And.intro @List.length_map.{0, 0} (And.intro @Go.Eng.inR.eq_1 (And.intro @maxLen.eq_1 (And.intro @rowD.eq_1 (And.intro @rowsD.eq_1 (@strs.eq_1)))))
def zq6 := And.intro @List.length_map.{0, 0} (And.intro @rowD.eq_1 (And.intro @rowsD.eq_1 (And.intro @strs.eq_1 (@valsD.eq_1))))
theorem nU (cols : List (List UInt8)) (rows : List (List Cl)) (hR : ∀ c : Cl, (∃ r ∈ rows, c ∈ r) → ¬ c.kind = 5 → SpG g 13 [lJ c] [] (.c (cB (aV false c.toV))) []) :
  SpG g 40 [.c (cM 1 (strs cols)), .c (cM 1 (rowsD rows))] [] (.c (cB (cK cols rows))) [] := by
 refine aG 64 Tryz.func40 (by kernel_rfl) fun fr hG => ?_
 refine bN 0 rfl fun hl0 => ?_
 refine bN 1 rfl fun hl1 => ?_
 refine zC hG [] [1, 0, 1] ((decide ((((strs cols).length : Int) : Int) > 8)) || (decide ((((rowsD rows).length : Int) : Int) > 100))) (⟨[zM 0 1 (strs cols), zM 1 1 (rowsD rows), zB 4 false], []⟩) aA (fun hc1 => ?_) (fun hc1 => ?_)
 (try simp only [zq3] at hc1)
 refine zR hG [] [] (.c (cB false)) [] aA ?_ ?_
 rw [lT hc1]
 rfl
 (try simp only [zq3] at hc1)
 refine zL hG [] [0, 1, 0, 1, 1] (fun (zz : Nat) => match zz with | k => (cols.length - k, ⟨[zM 0 1 (strs cols), zM 1 1 (rowsD rows), zB 4 false, zM 19 1 (strs cols), zI 20 ((strs cols).length : Int), zI 21 (k : Int)], []⟩, k ≤ cols.length ∧ ∀ j, j < k → nameAt cols j = true)) 0 aA ?_ ?_
 exact ⟨Nat.zero_le _, fun j hj => by omega⟩
 rintro k ⟨hk, hn⟩
 refine zc hG [] [0, 1] (decide (((k : Int) : Int) < ((strs cols).length : Int))) aA (fun hc3 => ?_) (fun hc3 => ?_)
 (try simp only [zq3] at hc3)
 refine zc hG [(5, 1, .elem (cH ((cols).getD k []))), (6, 1, kB (bW ((cols).getD k []))), (6, 8, kB (decide (((cols).getD k []) ∈ (((cols).take k).drop 0))))] [1, 1, 0, 0, 1, 1] ((!(bW ((cols).getD k []))) || (decide (((cols).getD k []) ∈ (((cols).take k).drop 0)))) (aC (by intros; exact aY [] (by omega) (by (try simp only [zq4] at *); omega) : (0 : Int) ≤ (k : Int) ∧ (strs cols)[k]? = some (cH ((cols).getD k []))) (aC (aI2 ((cols).getD k []) : SpG g _ _ _ _ _) (aC (by (try simp only [zq5] at *); omega : (!(bW ((cols).getD k []))) = false → (0 : Int) ≤ 0 ∧ (0 : Int) ≤ (k : Int) ∧ (k : Int) ≤ ((strs cols).length : Int)) (aB (fun (hg1 : (!(bW ((cols).getD k []))) = false) => (aDJ (es := ((strs cols).take k).drop 0) (l := ((cols).take k).drop 0) (by simp only [strs, List.map_take, List.map_drop]) ((cols).getD k []) : SpG g _ _ _ _ _)))))) (fun hc4 => ?_) (fun hc4 => ?_)
 (try simp only [zq3] at hc4)
 refine zE hG [] .ret (⟨[zM 0 1 (strs cols), zM 1 1 (rowsD rows), zB 4 false], []⟩) aA rfl ?_
 refine zR hG [] [] (.c (cB false)) [] aA ?_ ?_
 rw [aA9 (k := k) (by omega) ?_]
 simp only [nameAt, Bool.and_eq_false_iff, Bool.not_eq_false', decide_eq_true_eq]
 exact hc4
 rfl
 (try simp only [zq3] at hc4)
 refine zD hG [] (k + 1) (aB (by (try simp only [zq5] at *); omega : inR ((k : Int) + 1))) ?_ ?_
 (try dsimp only); omega
 refine ⟨by omega, cU hn ?_⟩
 simp only [nameAt, Bool.and_eq_true, Bool.not_eq_true', decide_eq_false_iff_not]
 exact hc4
 (try simp only [zq3] at hc3)
 refine zE hG [] (.exit 0) (⟨[zM 0 1 (strs cols), zM 1 1 (rowsD rows), zB 4 false], []⟩) aA rfl ?_
 refine zL hG [] [0, 1, 0, 1, 1, 1] (fun (zz : Nat) => match zz with | i => (rows.length - i, ⟨[zM 0 1 (strs cols), zB 4 false, zM 37 1 (rowsD rows), zI 38 ((rowsD rows).length : Int), zI 39 (i : Int)], []⟩, i ≤ rows.length ∧ ∀ j, j < i → rowAt cols rows j = true)) 0 aA ?_ ?_
 exact ⟨Nat.zero_le _, fun j hj => by omega⟩
 rintro i ⟨hi, hr⟩
 refine zc hG [] [0, 1] (decide (((i : Int) : Int) < ((rowsD rows).length : Int))) aA (fun hc6 => ?_) (fun hc6 => ?_)
 (try simp only [zq3] at hc6)
 refine zC hG [(11, 0, .elem (fK ((rows).getD i [])))] [1, 0, 1, 0, 0, 1, 1] (!decide ((((rowD ((rows).getD i [])).length : Int) : Int) = ((strs cols).length : Int))) (⟨[zM 0 1 (strs cols), zB 4 false, zM 8 7 (rowD ((rows).getD i [])), zM 37 1 (rowsD rows), zI 38 ((rowsD rows).length : Int), zI 39 (i : Int)], []⟩) (aB (by intros; exact aY _ (by omega) (by (try simp only [zq6] at *); omega) : (0 : Int) ≤ (i : Int) ∧ (rowsD rows)[i]? = some (fK ((rows).getD i [])))) (fun hc7 => ?_) (fun hc7 => ?_)
 (try simp only [zq3] at hc7)
 refine zE hG [] .ret (⟨[zB 4 false], []⟩) aA rfl ?_
 refine zR hG [] [] (.c (cB false)) [] aA ?_ ?_
 rw [iP (k := i) (by omega) (wQ hc7)]
 rfl
 (try simp only [zq3] at hc7)
 refine zL hG [] [0, 1, 1, 1, 0, 0, 1, 1] (fun (zz : Nat) => match zz with | m => ((rows.getD i []).length - m, ⟨[zM 0 1 (strs cols), zB 4 false, zM 37 1 (rowsD rows), zI 38 ((rowsD rows).length : Int), zI 39 (i : Int), zM 48 7 (rowD ((rows).getD i [])), zI 49 ((rowD ((rows).getD i [])).length : Int), zI 50 (m : Int)], []⟩, m ≤ (rows.getD i []).length ∧ ∀ j, j < m → cellAt (rows.getD i []) j = true)) 0 aA ?_ ?_
 exact ⟨Nat.zero_le _, fun j hj => by omega⟩
 rintro m ⟨hm, hcl⟩
 refine zc hG [] [0, 1] (decide (((m : Int) : Int) < ((rowD ((rows).getD i [])).length : Int))) aA (fun hc9 => ?_) (fun hc9 => ?_)
 (try simp only [zq3] at hc9)
 refine zc hG [(16, 0, .elem (ClD (((rows).getD i []).getD m Cl.z))), (17, 5, kB (aV false (((rows).getD i []).getD m Cl.z).toV))] [1, 1, 0, 0, 1, 1] ((decide (((((rows).getD i []).getD m Cl.z).kind : Int) = 5)) || (!(aV false (((rows).getD i []).getD m Cl.z).toV))) (aC (by intros; exact aY _ (by omega) (by (try simp only [zq6] at *); omega) : (0 : Int) ≤ (m : Int) ∧ (rowD ((rows).getD i []))[m]? = some (ClD (((rows).getD i []).getD m Cl.z))) (aB (fun (hg1 : (decide (((((rows).getD i []).getD m Cl.z).kind : Int) = 5)) = false) => (hR (((rows).getD i []).getD m Cl.z) ⟨rows.getD i [], bO (by omega), bO (by (try simp only [rowD, List.length_map] at *); omega)⟩ (by simpa using hg1) : SpG g _ _ _ _ _)))) (fun hc10 => ?_) (fun hc10 => ?_)
 (try simp only [zq3] at hc10)
 refine zE hG [] .ret (⟨[zM 0 1 (strs cols), zB 4 false, zM 37 1 (rowsD rows), zI 38 ((rowsD rows).length : Int), zI 39 (i : Int)], []⟩) aA rfl ?_
 refine zE hG [] .ret (⟨[zB 4 false], []⟩) aA rfl ?_
 refine zR hG [] [] (.c (cB false)) [] aA ?_ ?_
 rw [iP (k := i) (by omega) (n6 (m := m) (by omega) ?_)]
 simp only [cellAt, Bool.and_eq_false_iff, Bool.not_eq_false', decide_eq_true_eq]
 exact hc10
 rfl
 (try simp only [zq3] at hc10)
 refine zD hG [] (m + 1) (aB (by (try simp only [zq5] at *); omega : inR ((m : Int) + 1))) ?_ ?_
 (try dsimp only); omega
 refine ⟨by omega, cU hcl ?_⟩
 simp only [cellAt, Bool.and_eq_true, Bool.not_eq_true', decide_eq_false_iff_not]
 exact hc10
 (try simp only [zq3] at hc9)
 refine zE hG [] (.exit 4) (⟨[zM 0 1 (strs cols), zB 4 false, zM 37 1 (rowsD rows), zI 38 ((rowsD rows).length : Int), zI 39 (i : Int)], []⟩) aA rfl ?_
 refine zD hG [] (i + 1) (aB (by (try simp only [zq5] at *); omega : inR ((i : Int) + 1))) ?_ ?_
 (try dsimp only); omega
 refine ⟨by omega, cU hr ?_⟩
 have : m = (rows.getD i []).length := by omega
 subst this
 simp only [rowAt, Bool.and_eq_true, decide_eq_true_eq]
 exact ⟨by omega, gO hcl⟩
 (try simp only [zq3] at hc6)
 refine zE hG [] (.exit 2) (⟨[zB 4 false], []⟩) aA rfl ?_
 refine zR hG [] [] (.c (cB true)) [] aA ?_ ?_
 rw [qE hc1 (fun j hj => hn j (by omega)) (fun j hj => hr j (by omega))]
 rfl
theorem aFT (c : Cl) (hs : c.s.length ≤ maxLen) (hk : ¬ c.kind = 5) : SpG g 13 [lJ c] [] (.c (cB (aV false c.toV))) [] := by
 have h := aBL (g := g) c.toV _ hs (nU [] [] (fun c ⟨r, hr, _⟩ => by cases hr))
 have e : aV (cK [] []) c.toV = aV false c.toV := by
  have : c.toV.kind = c.kind := rfl
  simp [aV, this, hk]
 rw [e] at h
 exact h
theorem o7 (v : Vl) (h : v.fit) : SpG g 13 [qB v] [] (.c (cB (aU v))) [] :=
 aBL v _ h.s (nU v.cols v.rows fun c ⟨r, hr, hc⟩ hk => aFT c (h.cells r hr c hc) hk)
end Go.Proofs.YtmpgfchkkemngaaGreatDoor
namespace Go.Proofs.YtmpgfchkkemngaaGreatDoor
open Go.RowKit Go.V
open Go.Eng (inR byteAt u8 bH)
variable {g : Gv}
theorem nB {α : Type} {a b : List α} (z : α) (hl : a.length = b.length) (h : ∀ j, j < a.length → a.getD j z = b.getD j z) : a = b := by
 apply List.ext_getElem hl
 intro j h1 h2
 have := h j h1
 simpa [h1, h2] using this
theorem pH {α : Type} {a b : List α} (z : α) {j : Nat} (h : ¬ a.getD j z = b.getD j z) : ¬ a = b := fun e => h (by rw [e])
def eqK (T : Bool) (a b : Vl) : Bool := decide (a.kind = b.kind) && decide (a.s = b.s) && (a.dn == b.dn && a.ds == b.ds) && decide (a.n = b.n) && decide (a.cols = b.cols) && T
theorem aM8 {a b : Vl} : eqK (decide (a.rows = b.rows)) a b = decide (a = b) := by
 obtain ⟨k, s, dn, ds, n, c, r⟩ := a
 obtain ⟨k', s', dn', ds', n', c', r'⟩ := b
 simp only [eqK, Vl.mk.injEq]
 by_cases h1 : k = k' <;> by_cases h2 : s = s' <;> by_cases h3 : dn = dn' <;> by_cases h4 : ds = ds' <;> by_cases h5 : n = n' <;> by_cases h6 : c = c' <;> by_cases h7 : r = r' <;> simp [h1, h2, h3, h4, h5, h6, h7]
theorem toV_inj {a b : Cl} : a.toV = b.toV ↔ a = b := by
 obtain ⟨k, s, dn, ds, n⟩ := a
 obtain ⟨k', s', dn', ds', n'⟩ := b
 simp [Cl.toV]
theorem aLU {l : List (List UInt8)} {k m : Nat} {b : Bool} (hb : b = (bW (l.getD k []) && decide (l.getD k [] ∉ l.take m))) (hm : m < l.length) :
  (b && !((S (l.getD m [])).toList == (S (l.getD k [])).toList)) = (bW (l.getD k []) && decide (l.getD k [] ∉ l.take (m + 1))) := by
 rw [hb, aD4]
 have : l.getD k [] ∈ l.take (m + 1) ↔ l.getD k [] ∈ l.take m ∨ l.getD k [] = l.getD m [] := by
  rw [List.take_add_one, List.mem_append]; simp [hm]
 rw [Bool.and_assoc]
 congr 1
 by_cases h1 : l.getD k [] ∈ l.take m <;> by_cases h2 : l.getD k [] = l.getD m [] <;> simp_all [eq_comm]
theorem aIW {l : List (List UInt8)} {k m : Nat} {b : Bool} (hb : b = (bW (l.getD k []) && decide (l.getD k [] ∉ l.take m))) (hm : m = k) (h : b = true) : nameAt l k = true := by
 subst hm; rw [hb] at h; simpa [nameAt] using h
theorem aE5 {l : List (List UInt8)} {k m : Nat} {b : Bool} (hb : b = (bW (l.getD k []) && decide (l.getD k [] ∉ l.take m))) (hm : m = k) (h : b = false) : nameAt l k = false := by
 subst hm; rw [hb] at h; simpa [nameAt] using h
theorem oD {v : Vl} : decide (v = ⟨v.kind, [], 0, 0, v.n, [], []⟩) = bZ { v with n := 0 } := by
 obtain ⟨k, s, dn, ds, n, c, r⟩ := v
 by_cases h2 : s = [] <;> by_cases h3 : dn = 0 <;> by_cases h4 : ds = 0 <;> by_cases h6 : c = [] <;> by_cases h7 : r = [] <;> simp [bZ, h2, h3, h4, h6, h7]
theorem oC {v : Vl} : decide (v = ⟨v.kind, v.s, 0, 0, 0, [], []⟩) = bZ { v with s := [] } := by
 obtain ⟨k, s, dn, ds, n, c, r⟩ := v
 by_cases h2 : n = 0 <;> by_cases h3 : dn = 0 <;> by_cases h4 : ds = 0 <;> by_cases h6 : c = [] <;> by_cases h7 : r = [] <;> simp [bZ, h2, h3, h4, h6, h7]
theorem oE {v : Vl} : decide (v = ⟨v.kind, [], v.dn, v.ds, 0, [], []⟩) = bZ { v with dn := 0, ds := 0 } := by
 obtain ⟨k, s, dn, ds, n, c, r⟩ := v
 by_cases h2 : n = 0 <;> by_cases h3 : s = [] <;> by_cases h6 : c = [] <;> by_cases h7 : r = [] <;> simp [bZ, h2, h3, h6, h7]
theorem oB {v : Vl} : decide (v = ⟨v.kind, [], 0, 0, 0, v.cols, v.rows⟩) = bZ { v with cols := [], rows := [] } := by
 obtain ⟨k, s, dn, ds, n, c, r⟩ := v
 by_cases h2 : n = 0 <;> by_cases h3 : dn = 0 <;> by_cases h4 : ds = 0 <;> by_cases h6 : s = [] <;> simp [bZ, h2, h3, h4, h6]
theorem aEH {cols : List (List UInt8)} {rows : List (List Cl)} (h : (mO cols.length (nameAt cols) = false ∨ (cols.length : Int) > 8) ∨ (rows.length : Int) > 100) : cK cols rows = false := by
 rcases h with (h | h) | h
 rw [cK, h]; simp
 exact lT (.inl h)
 exact lT (.inr h)
def zq7 := And.intro @List.length_map.{0, 0} (And.intro @Go.Eng.inR.eq_1 (And.intro @maxLen.eq_1 (And.intro @rowD.eq_1 (And.intro @rowsD.eq_1 (And.intro @strs.eq_1 (@valsD.eq_1))))))
theorem vT (a b : List (List UInt8)) :
  SpG g 59 [.c (cM 1 (strs a)), .c (cM 1 (strs b))] [] (.c (cB (decide (a = b)))) [] := by
 refine aG 26 Tryz.func59 (by kernel_rfl) fun fr hG => ?_
 refine bN 0 rfl fun hl0 => ?_
 refine bN 1 rfl fun hl1 => ?_
 refine zC hG [] [1, 0, 1] (!decide ((((strs a).length : Int) : Int) = ((strs b).length : Int))) (⟨[zM 0 1 (strs a), zM 1 1 (strs b), zB 4 false], []⟩) aA (fun hc1 => ?_) (fun hc1 => ?_)
 (try simp only [zq3] at hc1)
 refine zR hG [] [] (.c (cB false)) [] aA ?_ ?_
 have : ¬ a = b := fun e => hc1 (by rw [e])
 simp [this]
 rfl
 (try simp only [zq3] at hc1)
 refine zL hG [] [0, 1, 0, 1, 1] (fun (zz : Nat) => match zz with | k => (a.length - k, ⟨[zM 0 1 (strs a), zM 1 1 (strs b), zB 4 false, zI 5 (k : Int)], []⟩, k ≤ a.length ∧ ∀ j, j < k → a.getD j [] = b.getD j [])) 0 aA ?_ ?_
 exact ⟨Nat.zero_le _, fun j hj => by omega⟩
 rintro k ⟨hk, hn⟩
 refine zc hG [] [1, 0] (decide (((k : Int) : Int) < ((strs a).length : Int))) aA (fun hc3 => ?_) (fun hc3 => ?_)
 (try simp only [zq3] at hc3)
 refine zc hG [(6, 2, .elem (cH ((a).getD k []))), (6, 6, .elem (cH ((b).getD k [])))] [1, 0, 0, 1] (!((S ((a).getD k [])).toList == (S ((b).getD k [])).toList)) (aC (by intros; exact aY [] (by omega) (by (try simp only [zq4] at *); omega) : (0 : Int) ≤ (k : Int) ∧ (strs a)[k]? = some (cH ((a).getD k []))) (aB (by intros; exact aY [] (by omega) (by (try simp only [zq4] at *); omega) : (0 : Int) ≤ (k : Int) ∧ (strs b)[k]? = some (cH ((b).getD k []))))) (fun hc4 => ?_) (fun hc4 => ?_)
 (try simp only [zq3] at hc4)
 refine zE hG [] .ret (⟨[zB 4 false], []⟩) aA rfl ?_
 refine zR hG [] [] (.c (cB false)) [] aA ?_ ?_
 have : ¬ a = b := pH [] (j := k) (by simpa using hc4)
 simp [this]
 rfl
 (try simp only [zq3] at hc4)
 refine zD hG [] (k + 1) (aB (by intros; (try simp only [zq7] at *); omega : inR ((k : Int) + 1))) ?_ ?_
 (try dsimp only); omega
 exact ⟨by omega, cU hn (by simpa using hc4)⟩
 (try simp only [zq3] at hc3)
 refine zE hG [] (.exit 0) (⟨[zB 4 false], []⟩) aA rfl ?_
 refine zR hG [] [] (.c (cB true)) [] aA ?_ ?_
 have : a = b := nB [] (by omega) (fun j hj => hn j (by omega))
 simp [this]
 rfl
theorem qJ (a b : List (List Cl)) (ha : a = []) (hb : b = []) :
  SpG g 60 [.c (cM 1 (rowsD a)), .c (cM 1 (rowsD b))] [] (.c (cB true)) [] := by
 refine aG 29 Tryz.func60 (by kernel_rfl) fun fr hG => ?_
 refine zC hG [] [1, 0, 1] (!decide ((((rowsD a).length : Int) : Int) = ((rowsD b).length : Int))) (⟨[zM 0 1 (rowsD a), zM 1 1 (rowsD b), zB 4 false], []⟩) aA (fun hc1 => ?_) (fun hc1 => ?_)
 (try simp only [zq3] at hc1)
 exfalso; simp [ha, hb] at hc1; try omega
 (try simp only [zq3] at hc1)
 refine zL hG [] [0, 1, 0, 1, 1] (fun (zz : Nat) => match zz with | k => (0, ⟨[zM 0 1 (rowsD a), zM 1 1 (rowsD b), zB 4 false, zI 5 (k : Int)], []⟩, k = 0)) 0 aA ?_ ?_
 rfl
 rintro k hk
 refine zc hG [] [1, 0] (decide (((k : Int) : Int) < ((rowsD a).length : Int))) aA (fun hc3 => ?_) (fun hc3 => ?_)
 (try simp only [zq3] at hc3)
 exfalso; simp [ha, hb] at hc3; try omega
 (try simp only [zq3] at hc3)
 refine zE hG [] (.exit 0) (⟨[zB 4 false], []⟩) aA rfl ?_
 exact zr hG [] [] aA
theorem aBS (a b : List Cl) (hE : ∀ x y : Cl, SpG g 18 [lJ x, lJ y] [] (.c (cB (decide (x = y)))) []) :
  SpG g 23 [.c (cM 7 (rowD a)), .c (cM 7 (rowD b))] [] (.c (cB (decide (a = b)))) [] := by
 refine aG 29 Tryz.func23 (by kernel_rfl) fun fr hG => ?_
 refine bN 0 rfl fun hl0 => ?_
 refine bN 1 rfl fun hl1 => ?_
 refine zC hG [] [1, 0, 1] (!decide ((((rowD a).length : Int) : Int) = ((rowD b).length : Int))) (⟨[zM 0 7 (rowD a), zM 1 7 (rowD b), zB 4 false], []⟩) aA (fun hc1 => ?_) (fun hc1 => ?_)
 (try simp only [zq3] at hc1)
 refine zR hG [] [] (.c (cB false)) [] aA ?_ ?_
 have : ¬ a = b := fun e => hc1 (by rw [e])
 simp [this]
 rfl
 (try simp only [zq3] at hc1)
 refine zL hG [] [0, 1, 0, 1, 1] (fun (zz : Nat) => match zz with | k => (a.length - k, ⟨[zM 0 7 (rowD a), zM 1 7 (rowD b), zB 4 false, zI 5 (k : Int)], []⟩, k ≤ a.length ∧ ∀ j, j < k → a.getD j Cl.z = b.getD j Cl.z)) 0 aA ?_ ?_
 exact ⟨Nat.zero_le _, fun j hj => by omega⟩
 rintro k ⟨hk, hn⟩
 refine zc hG [] [1, 0] (decide (((k : Int) : Int) < ((rowD a).length : Int))) aA (fun hc3 => ?_) (fun hc3 => ?_)
 (try simp only [zq3] at hc3)
 refine zc hG [(6, 2, .elem (ClD ((a).getD k Cl.z))), (6, 6, .elem (ClD ((b).getD k Cl.z))), (6, 8, kB (decide (((a).getD k Cl.z) = ((b).getD k Cl.z))))] [1, 1, 0, 0, 1] (!(decide (((a).getD k Cl.z) = ((b).getD k Cl.z)))) (aC (by intros; exact aY _ (by omega) (by (try simp only [zq6] at *); omega) : (0 : Int) ≤ (k : Int) ∧ (rowD a)[k]? = some (ClD ((a).getD k Cl.z))) (aC (by intros; exact aY _ (by omega) (by (try simp only [zq6] at *); omega) : (0 : Int) ≤ (k : Int) ∧ (rowD b)[k]? = some (ClD ((b).getD k Cl.z))) (aB (hE ((a).getD k Cl.z) ((b).getD k Cl.z) : SpG g _ _ _ _ _)))) (fun hc4 => ?_) (fun hc4 => ?_)
 (try simp only [zq3] at hc4)
 refine zE hG [] .ret (⟨[zB 4 false], []⟩) aA rfl ?_
 refine zR hG [] [] (.c (cB false)) [] aA ?_ ?_
 have : ¬ a = b := pH Cl.z (j := k) (by simpa using hc4)
 simp [this]
 rfl
 (try simp only [zq3] at hc4)
 refine zD hG [] (k + 1) (aB (by intros; (try simp only [zq7] at *); omega : inR ((k : Int) + 1))) ?_ ?_
 (try dsimp only); omega
 exact ⟨by omega, cU hn (by simpa using hc4)⟩
 (try simp only [zq3] at hc3)
 refine zE hG [] (.exit 0) (⟨[zB 4 false], []⟩) aA rfl ?_
 refine zR hG [] [] (.c (cB true)) [] aA ?_ ?_
 have : a = b := nB Cl.z (by omega) (fun j hj => hn j (by omega))
 simp [this]
 rfl
theorem tL (a b : List (List Cl)) (hS : ∀ x y : List Cl, SpG g 23 [.c (cM 7 (rowD x)), .c (cM 7 (rowD y))] [] (.c (cB (decide (x = y)))) []) :
  SpG g 60 [.c (cM 1 (rowsD a)), .c (cM 1 (rowsD b))] [] (.c (cB (decide (a = b)))) [] := by
 refine aG 29 Tryz.func60 (by kernel_rfl) fun fr hG => ?_
 refine bN 0 rfl fun hl0 => ?_
 refine bN 1 rfl fun hl1 => ?_
 refine zC hG [] [1, 0, 1] (!decide ((((rowsD a).length : Int) : Int) = ((rowsD b).length : Int))) (⟨[zM 0 1 (rowsD a), zM 1 1 (rowsD b), zB 4 false], []⟩) aA (fun hc1 => ?_) (fun hc1 => ?_)
 (try simp only [zq3] at hc1)
 refine zR hG [] [] (.c (cB false)) [] aA ?_ ?_
 have : ¬ a = b := fun e => hc1 (by rw [e])
 simp [this]
 rfl
 (try simp only [zq3] at hc1)
 refine zL hG [] [0, 1, 0, 1, 1] (fun (zz : Nat) => match zz with | k => (a.length - k, ⟨[zM 0 1 (rowsD a), zM 1 1 (rowsD b), zB 4 false, zI 5 (k : Int)], []⟩, k ≤ a.length ∧ ∀ j, j < k → a.getD j [] = b.getD j [])) 0 aA ?_ ?_
 exact ⟨Nat.zero_le _, fun j hj => by omega⟩
 rintro k ⟨hk, hn⟩
 refine zc hG [] [1, 0] (decide (((k : Int) : Int) < ((rowsD a).length : Int))) aA (fun hc3 => ?_) (fun hc3 => ?_)
 (try simp only [zq3] at hc3)
 refine zc hG [(6, 2, .elem (fK ((a).getD k []))), (6, 6, .elem (fK ((b).getD k []))), (6, 8, kB (decide (((a).getD k []) = ((b).getD k []))))] [1, 1, 0, 0, 1] (!(decide (((a).getD k []) = ((b).getD k [])))) (aC (by intros; exact aY _ (by omega) (by (try simp only [zq6] at *); omega) : (0 : Int) ≤ (k : Int) ∧ (rowsD a)[k]? = some (fK ((a).getD k []))) (aC (by intros; exact aY _ (by omega) (by (try simp only [zq6] at *); omega) : (0 : Int) ≤ (k : Int) ∧ (rowsD b)[k]? = some (fK ((b).getD k []))) (aB (hS ((a).getD k []) ((b).getD k []) : SpG g _ _ _ _ _)))) (fun hc4 => ?_) (fun hc4 => ?_)
 (try simp only [zq3] at hc4)
 refine zE hG [] .ret (⟨[zB 4 false], []⟩) aA rfl ?_
 refine zR hG [] [] (.c (cB false)) [] aA ?_ ?_
 have : ¬ a = b := pH [] (j := k) (by simpa using hc4)
 simp [this]
 rfl
 (try simp only [zq3] at hc4)
 refine zD hG [] (k + 1) (aB (by intros; (try simp only [zq7] at *); omega : inR ((k : Int) + 1))) ?_ ?_
 (try dsimp only); omega
 exact ⟨by omega, cU hn (by simpa using hc4)⟩
 (try simp only [zq3] at hc3)
 refine zE hG [] (.exit 0) (⟨[zB 4 false], []⟩) aA rfl ?_
 refine zR hG [] [] (.c (cB true)) [] aA ?_ ?_
 have : a = b := nB [] (by omega) (fun j hj => hn j (by omega))
 simp [this]
 rfl
theorem rP (a b : Vl) (T : Bool) (hT : SpG g 60 [.c (cM 1 (rowsD a.rows)), .c (cM 1 (rowsD b.rows))] [] (.c (cB T)) []) :
  SpG g 18 [.agg (zV a), .agg (zV b)] [] (.c (cB (eqK T a b))) [] := by
 refine aG 45 Tryz.func18 (by kernel_rfl) fun fr hG => ?_
 refine zR hG [(1, 31, kB (decide ((a.cols) = (b.cols)))), (1, 38, kB T)] [] (.c (cB ((((((decide ((a.kind : Int) = b.kind)) && ((S a.s).toList == (S b.s).toList)) && (((a.dn : Int) == b.dn) && ((a.ds : Int) == b.ds))) && (decide ((a.n : Int) = b.n))) && (decide ((a.cols) = (b.cols)))) && T))) [] (aC (fun (hg1 : ((((decide ((a.kind : Int) = b.kind)) && ((S a.s).toList == (S b.s).toList)) && (((a.dn : Int) == b.dn) && ((a.ds : Int) == b.ds))) && (decide ((a.n : Int) = b.n))) = true) => (vT (a.cols) (b.cols) : SpG g _ _ _ _ _)) (aB (fun (hg1 : (((((decide ((a.kind : Int) = b.kind)) && ((S a.s).toList == (S b.s).toList)) && (((a.dn : Int) == b.dn) && ((a.ds : Int) == b.ds))) && (decide ((a.n : Int) = b.n))) && (decide ((a.cols) = (b.cols)))) = true) => (hT : SpG g _ _ _ _ _)))) ?_ ?_
 simp only [aD4]; rfl
 rfl
theorem r9 : SpG g 60 [.c (cM 1 []), .c (cM 1 [])] [] (.c (cB true)) [] := by
 have h := qJ (g := g) [] [] rfl rfl
 exact h
theorem aID (x y : Cl) : SpG g 18 [lJ x, lJ y] [] (.c (cB (decide (x = y)))) [] := by
 have h := rP (g := g) x.toV y.toV _ r9
 have e : eqK true x.toV y.toV = decide (x = y) := by
  have := aM8 (a := x.toV) (b := y.toV)
  rw [show decide (x.toV.rows = y.toV.rows) = true from rfl] at this
  rw [this]; simp [toV_inj]
 rw [e] at h
 exact h
theorem aBR (a b : List Cl) : SpG g 23 [.c (cM 7 (rowD a)), .c (cM 7 (rowD b))] [] (.c (cB (decide (a = b)))) [] := aBS a b aID
theorem tK (a b : List (List Cl)) : SpG g 60 [.c (cM 1 (rowsD a)), .c (cM 1 (rowsD b))] [] (.c (cB (decide (a = b)))) [] := tL a b aBR
theorem eV (a b : Vl) : SpG g 18 [qB a, qB b] [] (.c (cB (decide (a = b)))) [] := by
 have h := rP (g := g) a b _ (tK a.rows b.rows)
 rw [aM8] at h
 exact h
theorem tJ (a b : List Vl) :
  SpG g 23 [.c (cM 7 (valsD a)), .c (cM 7 (valsD b))] [] (.c (cB (decide (a = b)))) [] := by
 refine aG 29 Tryz.func23 (by kernel_rfl) fun fr hG => ?_
 refine bN 0 rfl fun hl0 => ?_
 refine bN 1 rfl fun hl1 => ?_
 refine zC hG [] [1, 0, 1] (!decide ((((valsD a).length : Int) : Int) = ((valsD b).length : Int))) (⟨[zM 0 7 (valsD a), zM 1 7 (valsD b), zB 4 false], []⟩) aA (fun hc1 => ?_) (fun hc1 => ?_)
 (try simp only [zq3] at hc1)
 refine zR hG [] [] (.c (cB false)) [] aA ?_ ?_
 have : ¬ a = b := fun e => hc1 (by rw [e])
 simp [this]
 rfl
 (try simp only [zq3] at hc1)
 refine zL hG [] [0, 1, 0, 1, 1] (fun (zz : Nat) => match zz with | k => (a.length - k, ⟨[zM 0 7 (valsD a), zM 1 7 (valsD b), zB 4 false, zI 5 (k : Int)], []⟩, k ≤ a.length ∧ ∀ j, j < k → a.getD j Vl.z = b.getD j Vl.z)) 0 aA ?_ ?_
 exact ⟨Nat.zero_le _, fun j hj => by omega⟩
 rintro k ⟨hk, hn⟩
 refine zc hG [] [1, 0] (decide (((k : Int) : Int) < ((valsD a).length : Int))) aA (fun hc3 => ?_) (fun hc3 => ?_)
 (try simp only [zq3] at hc3)
 refine zc hG [(6, 2, .elem (VlD ((a).getD k Vl.z))), (6, 6, .elem (VlD ((b).getD k Vl.z))), (6, 8, kB (decide (((a).getD k Vl.z) = ((b).getD k Vl.z))))] [1, 1, 0, 0, 1] (!(decide (((a).getD k Vl.z) = ((b).getD k Vl.z)))) (aC (by intros; exact aY _ (by omega) (by (try simp only [zq6] at *); omega) : (0 : Int) ≤ (k : Int) ∧ (valsD a)[k]? = some (VlD ((a).getD k Vl.z))) (aC (by intros; exact aY _ (by omega) (by (try simp only [zq6] at *); omega) : (0 : Int) ≤ (k : Int) ∧ (valsD b)[k]? = some (VlD ((b).getD k Vl.z))) (aB (eV ((a).getD k Vl.z) ((b).getD k Vl.z) : SpG g _ _ _ _ _)))) (fun hc4 => ?_) (fun hc4 => ?_)
 (try simp only [zq3] at hc4)
 refine zE hG [] .ret (⟨[zB 4 false], []⟩) aA rfl ?_
 refine zR hG [] [] (.c (cB false)) [] aA ?_ ?_
 have : ¬ a = b := pH Vl.z (j := k) (by simpa using hc4)
 simp [this]
 rfl
 (try simp only [zq3] at hc4)
 refine zD hG [] (k + 1) (aB (by intros; (try simp only [zq7] at *); omega : inR ((k : Int) + 1))) ?_ ?_
 (try dsimp only); omega
 exact ⟨by omega, cU hn (by simpa using hc4)⟩
 (try simp only [zq3] at hc3)
 refine zE hG [] (.exit 0) (⟨[zB 4 false], []⟩) aA rfl ?_
 refine zR hG [] [] (.c (cB true)) [] aA ?_ ?_
 have : a = b := nB Vl.z (by omega) (fun j hj => hn j (by omega))
 simp [this]
 rfl
theorem aBX (l : List (List UInt8)) (hf : ∀ t, t ∈ l → t.length ≤ maxLen) :
  SpG g 76 [.c (cM 1 (strs l))] [] (.c (cB (mO l.length (nameAt l)))) [] := by
 refine aG 36 Tryz.func76 (by kernel_rfl) fun fr hG => ?_
 refine bN 0 rfl fun hl0 => ?_
 refine zL hG [] [0, 1, 0, 1] (fun (zz : Nat) => match zz with | k => (l.length - k, ⟨[zM 0 1 (strs l), zB 2 false, zI 3 (k : Int)], []⟩, k ≤ l.length ∧ ∀ j, j < k → nameAt l j = true)) 0 aA ?_ ?_
 exact ⟨Nat.zero_le _, fun j hj => by omega⟩
 rintro k ⟨hk, hn⟩
 refine zc hG [] [1, 0] (decide (((k : Int) : Int) < ((strs l).length : Int))) aA (fun hc2 => ?_) (fun hc2 => ?_)
 (try simp only [zq3] at hc2)
 refine zL hG [(4, 2, .elem (cH ((l).getD k []))), (4, 4, kB (bW ((l).getD k [])))] [0, 1, 0, 1, 0, 0, 1] (fun (zz : Bool × Nat) => match zz with | (b, m) => (k - m, ⟨[zM 0 1 (strs l), zB 2 false, zI 3 (k : Int), zB 4 b, zI 5 (m : Int)], []⟩, m ≤ k ∧ b = (bW (l.getD k []) && decide (l.getD k [] ∉ l.take m)))) (bW (l.getD k []), 0) (aC (by intros; exact aY [] (by omega) (by (try simp only [zq4] at *); omega) : (0 : Int) ≤ (k : Int) ∧ (strs l)[k]? = some (cH ((l).getD k []))) (aB (aET ((l).getD k []) (hf _ (bO (by omega))) : SpG g _ _ _ _ _))) ?_ ?_
 exact ⟨Nat.zero_le _, by simp⟩
 rintro ⟨b, m⟩ ⟨hm, hb⟩
 refine zc hG [] [1, 0] (decide (((m : Int) : Int) < (k : Int))) aA (fun hc4 => ?_) (fun hc4 => ?_)
 (try simp only [zq3] at hc4)
 refine zD hG [(8, 4, .elem (cH ((l).getD m []))), (8, 8, .elem (cH ((l).getD k [])))] (b && !((S (l.getD m [])).toList == (S (l.getD k [])).toList), m + 1) (aC (by intros; exact aY [] (by omega) (by (try simp only [zq4] at *); omega) : b = true → (0 : Int) ≤ (m : Int) ∧ (strs l)[m]? = some (cH ((l).getD m []))) (aC (by intros; exact aY [] (by omega) (by (try simp only [zq4] at *); omega) : b = true → (0 : Int) ≤ (k : Int) ∧ (strs l)[k]? = some (cH ((l).getD k []))) (aB (by intros; (try simp only [zq7] at *); omega : inR ((m : Int) + 1))))) ?_ ?_
 (try dsimp only); omega
 exact ⟨by omega, aLU hb (by omega)⟩
 (try simp only [zq3] at hc4)
 refine zE hG [] (.exit 2) (⟨[zM 0 1 (strs l), zB 2 false, zI 3 (k : Int), zB 4 b], []⟩) aA rfl ?_
 refine zC hG [] [1, 1, 1, 0, 0, 1] (!b) (⟨[zM 0 1 (strs l), zB 2 false, zI 3 (k : Int)], []⟩) aA (fun hc5 => ?_) (fun hc5 => ?_)
 (try simp only [zq3] at hc5)
 refine zE hG [] .ret (⟨[zB 2 false], []⟩) aA rfl ?_
 refine zR hG [] [] (.c (cB false)) [] aA ?_ ?_
 rw [jE (i := k) (by omega) (aE5 hb (by omega) (by simpa using hc5))]
 rfl
 (try simp only [zq3] at hc5)
 refine zD hG [] (k + 1) (aB (by intros; (try simp only [zq7] at *); omega : inR ((k : Int) + 1))) ?_ ?_
 (try dsimp only); omega
 exact ⟨by omega, cU hn (aIW hb (by omega) (by simpa using hc5))⟩
 (try simp only [zq3] at hc2)
 refine zE hG [] (.exit 0) (⟨[zB 2 false], []⟩) aA rfl ?_
 refine zR hG [] [] (.c (cB true)) [] aA ?_ ?_
 rw [gO (fun j hj => hn j (by omega))]
 rfl
theorem tM (cols : List (List UInt8)) (rows : List (List Cl)) (hf : ∀ t, t ∈ cols → t.length ≤ maxLen) (hR : ∀ c : Cl, (∃ r ∈ rows, c ∈ r) → ¬ c.kind = 5 → SpG g 14 [lJ c] [] (.c (cB (aV false c.toV))) []) :
  SpG g 43 [.c (cM 1 (strs cols)), .c (cM 1 (rowsD rows))] [] (.c (cB (cK cols rows))) [] := by
 refine aG 65 Tryz.func43 (by kernel_rfl) fun fr hG => ?_
 refine bN 0 rfl fun hl0 => ?_
 refine bN 1 rfl fun hl1 => ?_
 refine zC hG [(1, 1, kB (mO cols.length (nameAt cols)))] [1, 0, 1, 1] (((!(mO cols.length (nameAt cols))) || (decide ((((strs cols).length : Int) : Int) > 8))) || (decide ((((rowsD rows).length : Int) : Int) > 100))) (⟨[zM 0 1 (strs cols), zM 1 1 (rowsD rows), zB 4 false], []⟩) (aB (aBX cols hf : SpG g _ _ _ _ _)) (fun hc1 => ?_) (fun hc1 => ?_)
 (try simp only [zq3] at hc1)
 refine zR hG [] [] (.c (cB false)) [] aA ?_ ?_
 rw [aEH hc1]
 rfl
 (try simp only [zq3] at hc1)
 refine zL hG [] [0, 1, 0, 1, 1, 1] (fun (zz : Nat) => match zz with | i => (rows.length - i, ⟨[zM 0 1 (strs cols), zM 1 1 (rowsD rows), zB 4 false, zI 6 (i : Int)], []⟩, i ≤ rows.length ∧ ∀ j, j < i → rowAt cols rows j = true)) 0 aA ?_ ?_
 exact ⟨Nat.zero_le _, fun j hj => by omega⟩
 rintro i ⟨hi, hr⟩
 refine zc hG [] [1, 0] (decide (((i : Int) : Int) < ((rowsD rows).length : Int))) aA (fun hc3 => ?_) (fun hc3 => ?_)
 (try simp only [zq3] at hc3)
 refine zc hG [(7, 2, .elem (fK ((rows).getD i [])))] [1, 0, 0, 0, 1] (!decide ((((rowD ((rows).getD i [])).length : Int) : Int) = ((strs cols).length : Int))) (aB (by intros; exact aY _ (by omega) (by (try simp only [zq6] at *); omega) : (0 : Int) ≤ (i : Int) ∧ (rowsD rows)[i]? = some (fK ((rows).getD i [])))) (fun hc4 => ?_) (fun hc4 => ?_)
 (try simp only [zq3] at hc4)
 refine zE hG [] .ret (⟨[zB 4 false], []⟩) aA rfl ?_
 refine zR hG [] [] (.c (cB false)) [] aA ?_ ?_
 rw [iP (k := i) (by omega) (wQ hc4)]
 rfl
 (try simp only [zq3] at hc4)
 refine zL hG [] [0, 1, 1, 0, 0, 1] (fun (zz : Nat) => match zz with | m => ((rows.getD i []).length - m, ⟨[zM 0 1 (strs cols), zM 1 1 (rowsD rows), zB 4 false, zI 6 (i : Int), zI 7 (m : Int)], []⟩, m ≤ (rows.getD i []).length ∧ ∀ j, j < m → cellAt (rows.getD i []) j = true)) 0 aA ?_ ?_
 exact ⟨Nat.zero_le _, fun j hj => by omega⟩
 rintro m ⟨hm, hcl⟩
 refine zc hG [(10, 3, .elem (fK ((rows).getD i [])))] [1, 0] (decide (((m : Int) : Int) < ((rowD ((rows).getD i [])).length : Int))) (aB (by intros; exact aY _ (by omega) (by (try simp only [zq6] at *); omega) : (0 : Int) ≤ (i : Int) ∧ (rowsD rows)[i]? = some (fK ((rows).getD i [])))) (fun hc6 => ?_) (fun hc6 => ?_)
 (try simp only [zq3] at hc6)
 refine zc hG [(12, 2, .elem (fK ((rows).getD i []))), (12, 5, .elem (ClD (((rows).getD i []).getD m Cl.z)))] [1, 0, 0, 0, 1] (decide (((((rows).getD i []).getD m Cl.z).kind : Int) = 5)) (aC (by intros; exact aY _ (by omega) (by (try simp only [zq6] at *); omega) : (0 : Int) ≤ (i : Int) ∧ (rowsD rows)[i]? = some (fK ((rows).getD i []))) (aB (by intros; exact aY _ (by omega) (by (try simp only [zq6] at *); omega) : (0 : Int) ≤ (m : Int) ∧ (rowD ((rows).getD i []))[m]? = some (ClD (((rows).getD i []).getD m Cl.z))))) (fun hc7 => ?_) (fun hc7 => ?_)
 (try simp only [zq3] at hc7)
 refine zE hG [] .ret (⟨[zM 0 1 (strs cols), zM 1 1 (rowsD rows), zB 4 false, zI 6 (i : Int)], []⟩) aA rfl ?_
 refine zE hG [] .ret (⟨[zB 4 false], []⟩) aA rfl ?_
 refine zR hG [] [] (.c (cB false)) [] aA ?_ ?_
 rw [iP (k := i) (by omega) (n6 (m := m) (by omega) ?_)]
 simp only [cellAt, Bool.and_eq_false_iff, Bool.not_eq_false', decide_eq_true_eq]
 exact .inl hc7
 rfl
 (try simp only [zq3] at hc7)
 refine zc hG [(14, 2, .elem (fK ((rows).getD i []))), (14, 5, .elem (ClD (((rows).getD i []).getD m Cl.z))), (14, 7, kB (aV false (((rows).getD i []).getD m Cl.z).toV))] [1, 1, 1, 0, 0, 1] (!(aV false (((rows).getD i []).getD m Cl.z).toV)) (aC (by intros; exact aY _ (by omega) (by (try simp only [zq6] at *); omega) : (0 : Int) ≤ (i : Int) ∧ (rowsD rows)[i]? = some (fK ((rows).getD i []))) (aC (by intros; exact aY _ (by omega) (by (try simp only [zq6] at *); omega) : (0 : Int) ≤ (m : Int) ∧ (rowD ((rows).getD i []))[m]? = some (ClD (((rows).getD i []).getD m Cl.z))) (aB (hR (((rows).getD i []).getD m Cl.z) ⟨rows.getD i [], bO (by omega), bO (by omega)⟩ (by simpa using hc7) : SpG g _ _ _ _ _)))) (fun hc8 => ?_) (fun hc8 => ?_)
 (try simp only [zq3] at hc8)
 refine zE hG [] .ret (⟨[zM 0 1 (strs cols), zM 1 1 (rowsD rows), zB 4 false, zI 6 (i : Int)], []⟩) aA rfl ?_
 refine zE hG [] .ret (⟨[zB 4 false], []⟩) aA rfl ?_
 refine zR hG [] [] (.c (cB false)) [] aA ?_ ?_
 rw [iP (k := i) (by omega) (n6 (m := m) (by omega) ?_)]
 simp only [cellAt, Bool.and_eq_false_iff, Bool.not_eq_false', decide_eq_true_eq]
 exact .inr hc8
 rfl
 (try simp only [zq3] at hc8)
 refine zD hG [] (m + 1) (aB (by intros; (try simp only [zq7] at *); omega : inR ((m : Int) + 1))) ?_ ?_
 (try dsimp only); omega
 refine ⟨by omega, cU hcl ?_⟩
 simp only [cellAt, Bool.and_eq_true, Bool.not_eq_true', decide_eq_false_iff_not]
 exact ⟨hc7, hc8⟩
 (try simp only [zq3] at hc6)
 refine zE hG [] (.exit 2) (⟨[zM 0 1 (strs cols), zM 1 1 (rowsD rows), zB 4 false, zI 6 (i : Int)], []⟩) aA rfl ?_
 refine zD hG [] (i + 1) (aB (by intros; (try simp only [zq7] at *); omega : inR ((i : Int) + 1))) ?_ ?_
 (try dsimp only); omega
 refine ⟨by omega, cU hr ?_⟩
 have : m = (rows.getD i []).length := by omega
 subst this
 simp only [rowAt, Bool.and_eq_true, decide_eq_true_eq]
 exact ⟨by omega, gO hcl⟩
 (try simp only [zq3] at hc3)
 refine zE hG [] (.exit 0) (⟨[zB 4 false], []⟩) aA rfl ?_
 refine zR hG [] [] (.c (cB true)) [] aA ?_ ?_
 rw [qE ⟨hc1.1.2, hc1.2⟩ (fun j hj => gE hc1.1.1 hj) (fun j hj => hr j (by omega))]
 rfl
abbrev y1 (a0 : Int) (a1 : Int) : SV := .agg [cI a0, cS (S []), cI 0, cI 0, cI a1, cN, cN]
theorem rO (v : Vl) (T : Bool) (hs : v.s.length ≤ maxLen) (hT : SpG g 43 [.c (cM 1 (strs v.cols)), .c (cM 1 (rowsD v.rows))] [] (.c (cB T)) []) :
  SpG g 14 [.agg (zV v)] [] (.c (cB (aV T v))) [] := by
 refine aG 84 Tryz.func14 (by kernel_rfl) fun fr hG => ?_
 refine zC hG [] [1, 0, 1, 0, 1, 1, 1] (decide ((v.kind : Int) = 0)) (⟨[zX 1 100 0, zB 2 false, zX 3 203 0, zB 4 false, zI 9 v.kind], [(100, .box 30 (zV v)), (203, .box 30 [cI v.kind, cS (S []), cI 0, cI 0, cI 0, cN, cN])]⟩) aA (fun hc1 => ?_) (fun hc1 => ?_)
 (try simp only [zq3] at hc1)
 refine zR hG [(23, 4, kB (decide ((⟨v.kind, v.s, v.dn, v.ds, v.n, v.cols, v.rows⟩ : Vl) = (⟨v.kind, [], 0, 0, v.n, [], []⟩ : Vl))))] [] (.c (cB (((decide ((v.n : Int) ≥ 0)) && (decide ((v.n : Int) ≤ 99))) && (decide ((⟨v.kind, v.s, v.dn, v.ds, v.n, v.cols, v.rows⟩ : Vl) = (⟨v.kind, [], 0, 0, v.n, [], []⟩ : Vl)))))) [] (aB (fun (hg1 : ((decide ((v.n : Int) ≥ 0)) && (decide ((v.n : Int) ≤ 99))) = true) => (dM (ins := [.agg (zV v), y1 v.kind v.n]) [[none, none, none, none, none, none, none], [none, none, none, none, none, some 1, some 1]] (eV (⟨v.kind, v.s, v.dn, v.ds, v.n, v.cols, v.rows⟩ : Vl) (⟨v.kind, [], 0, 0, v.n, [], []⟩ : Vl)) : SpG g _ _ _ _ _))) ?_ ?_
 have e : (⟨v.kind, v.s, v.dn, v.ds, v.n, v.cols, v.rows⟩ : Vl) = v := rfl
 (try simp only [e, oD, oC, oE, oB])
 simp [aV, *]
 rfl
 (try simp only [zq3] at hc1)
 refine zc hG [] [1, 1, 1, 0, 1, 0, 1, 1, 1] (decide ((v.kind : Int) = 1)) aA (fun hc2 => ?_) (fun hc2 => ?_)
 (try simp only [zq3] at hc2)
 refine zR hG [(9, 2, kB (eQ (v.s))), (23, 4, kB (decide ((⟨v.kind, v.s, v.dn, v.ds, v.n, v.cols, v.rows⟩ : Vl) = (⟨v.kind, v.s, 0, 0, 0, [], []⟩ : Vl))))] [] (.c (cB ((eQ (v.s)) && (decide ((⟨v.kind, v.s, v.dn, v.ds, v.n, v.cols, v.rows⟩ : Vl) = (⟨v.kind, v.s, 0, 0, 0, [], []⟩ : Vl)))))) [] (aC (aBV (v.s) hs : SpG g _ _ _ _ _) (aB (fun (hg1 : (eQ (v.s)) = true) => (dM (ins := [.agg (zV v), .agg [cI v.kind, cS (S v.s), cI 0, cI 0, cI 0, cN, cN]]) [[none, none, none, none, none, none, none], [none, none, none, none, none, some 1, some 1]] (eV (⟨v.kind, v.s, v.dn, v.ds, v.n, v.cols, v.rows⟩ : Vl) (⟨v.kind, v.s, 0, 0, 0, [], []⟩ : Vl)) : SpG g _ _ _ _ _)))) ?_ ?_
 have e : (⟨v.kind, v.s, v.dn, v.ds, v.n, v.cols, v.rows⟩ : Vl) = v := rfl
 (try simp only [e, oD, oC, oE, oB])
 simp [aV, *]
 rfl
 (try simp only [zq3] at hc2)
 refine zc hG [] [1, 1, 1, 1, 1, 0, 1, 0, 1, 1, 1] (decide ((v.kind : Int) = 2)) aA (fun hc3 => ?_) (fun hc3 => ?_)
 (try simp only [zq3] at hc3)
 refine zR hG [(12, 2, kB (cZ v.dn v.ds)), (23, 4, kB (decide ((⟨v.kind, v.s, v.dn, v.ds, v.n, v.cols, v.rows⟩ : Vl) = (⟨v.kind, [], v.dn, v.ds, 0, [], []⟩ : Vl))))] [] (.c (cB ((cZ v.dn v.ds) && (decide ((⟨v.kind, v.s, v.dn, v.ds, v.n, v.cols, v.rows⟩ : Vl) = (⟨v.kind, [], v.dn, v.ds, 0, [], []⟩ : Vl)))))) [] (aC (l5 v.dn v.ds : SpG g _ _ _ _ _) (aB (fun (hg1 : (cZ v.dn v.ds) = true) => (dM (ins := [.agg (zV v), .agg [cI v.kind, cS (S []), cI v.dn, cI v.ds, cI 0, cN, cN]]) [[none, none, none, none, none, none, none], [none, none, none, none, none, some 1, some 1]] (eV (⟨v.kind, v.s, v.dn, v.ds, v.n, v.cols, v.rows⟩ : Vl) (⟨v.kind, [], v.dn, v.ds, 0, [], []⟩ : Vl)) : SpG g _ _ _ _ _)))) ?_ ?_
 have e : (⟨v.kind, v.s, v.dn, v.ds, v.n, v.cols, v.rows⟩ : Vl) = v := rfl
 (try simp only [e, oD, oC, oE, oB])
 simp [aV, *]
 rfl
 (try simp only [zq3] at hc3)
 refine zc hG [] [1, 1, 1, 1, 1, 1, 1, 0, 1, 0, 1, 1, 1] (decide ((v.kind : Int) = 3)) aA (fun hc4 => ?_) (fun hc4 => ?_)
 (try simp only [zq3] at hc4)
 refine zR hG [(23, 4, kB (decide ((⟨v.kind, v.s, v.dn, v.ds, v.n, v.cols, v.rows⟩ : Vl) = (⟨v.kind, [], 0, 0, v.n, [], []⟩ : Vl))))] [] (.c (cB (((decide ((v.n : Int) ≥ 0)) && (decide ((v.n : Int) ≤ 3652058))) && (decide ((⟨v.kind, v.s, v.dn, v.ds, v.n, v.cols, v.rows⟩ : Vl) = (⟨v.kind, [], 0, 0, v.n, [], []⟩ : Vl)))))) [] (aB (fun (hg1 : ((decide ((v.n : Int) ≥ 0)) && (decide ((v.n : Int) ≤ 3652058))) = true) => (dM (ins := [.agg (zV v), y1 v.kind v.n]) [[none, none, none, none, none, none, none], [none, none, none, none, none, some 1, some 1]] (eV (⟨v.kind, v.s, v.dn, v.ds, v.n, v.cols, v.rows⟩ : Vl) (⟨v.kind, [], 0, 0, v.n, [], []⟩ : Vl)) : SpG g _ _ _ _ _))) ?_ ?_
 have e : (⟨v.kind, v.s, v.dn, v.ds, v.n, v.cols, v.rows⟩ : Vl) = v := rfl
 (try simp only [e, oD, oC, oE, oB])
 simp [aV, *]
 rfl
 (try simp only [zq3] at hc4)
 refine zc hG [] [1, 1, 1, 1, 1, 1, 1, 1, 1, 0, 1, 0, 1, 1, 1] (decide ((v.kind : Int) = 4)) aA (fun hc5 => ?_) (fun hc5 => ?_)
 (try simp only [zq3] at hc5)
 refine zR hG [(23, 4, kB (decide ((⟨v.kind, v.s, v.dn, v.ds, v.n, v.cols, v.rows⟩ : Vl) = (⟨v.kind, [], 0, 0, v.n, [], []⟩ : Vl))))] [] (.c (cB (((decide ((v.n : Int) = 0)) || (decide ((v.n : Int) = 1))) && (decide ((⟨v.kind, v.s, v.dn, v.ds, v.n, v.cols, v.rows⟩ : Vl) = (⟨v.kind, [], 0, 0, v.n, [], []⟩ : Vl)))))) [] (aB (fun (hg1 : ((decide ((v.n : Int) = 0)) || (decide ((v.n : Int) = 1))) = true) => (dM (ins := [.agg (zV v), y1 v.kind v.n]) [[none, none, none, none, none, none, none], [none, none, none, none, none, some 1, some 1]] (eV (⟨v.kind, v.s, v.dn, v.ds, v.n, v.cols, v.rows⟩ : Vl) (⟨v.kind, [], 0, 0, v.n, [], []⟩ : Vl)) : SpG g _ _ _ _ _))) ?_ ?_
 have e : (⟨v.kind, v.s, v.dn, v.ds, v.n, v.cols, v.rows⟩ : Vl) = v := rfl
 (try simp only [e, oD, oC, oE, oB])
 simp [aV, *]
 rfl
 (try simp only [zq3] at hc5)
 refine zC hG [] [1, 1, 1, 1, 1, 1, 1, 1, 1, 1, 1, 0, 1, 0, 1, 1, 1] (decide ((v.kind : Int) = 5)) (⟨[zX 1 100 0, zB 2 false, zX 3 203 0, zB 4 false], [(100, .box 30 (zV v)), (203, .box 30 [cI v.kind, cS (S []), cI 0, cI 0, cI 0, cN, cN])]⟩) aA (fun hc6 => ?_) (fun hc6 => ?_)
 (try simp only [zq3] at hc6)
 refine zR hG [(22, 4, kB T), (23, 4, kB (decide ((⟨v.kind, v.s, v.dn, v.ds, v.n, v.cols, v.rows⟩ : Vl) = (⟨v.kind, [], 0, 0, 0, v.cols, v.rows⟩ : Vl))))] [] (.c (cB (T && (decide ((⟨v.kind, v.s, v.dn, v.ds, v.n, v.cols, v.rows⟩ : Vl) = (⟨v.kind, [], 0, 0, 0, v.cols, v.rows⟩ : Vl)))))) [] (aC (hT : SpG g _ _ _ _ _) (aB (fun (hg1 : T = true) => (eV (⟨v.kind, v.s, v.dn, v.ds, v.n, v.cols, v.rows⟩ : Vl) (⟨v.kind, [], 0, 0, 0, v.cols, v.rows⟩ : Vl) : SpG g _ _ _ _ _)))) ?_ ?_
 have e : (⟨v.kind, v.s, v.dn, v.ds, v.n, v.cols, v.rows⟩ : Vl) = v := rfl
 (try simp only [e, oD, oC, oE, oB])
 simp [aV, *]
 rfl
 (try simp only [zq3] at hc6)
 refine zR hG [(23, 4, kB (decide ((⟨v.kind, v.s, v.dn, v.ds, v.n, v.cols, v.rows⟩ : Vl) = (⟨v.kind, [], 0, 0, 0, [], []⟩ : Vl))))] [] (.c (cB false)) [] (aB (show false = true → SpG g 18 [.agg (zV v), .agg [cI v.kind, cS (S []), cI 0, cI 0, cI 0, cN, cN]] [] (.c (cB (decide ((⟨v.kind, v.s, v.dn, v.ds, v.n, v.cols, v.rows⟩ : Vl) = (⟨v.kind, [], 0, 0, 0, [], []⟩ : Vl))))) [] from fun hg1 => absurd hg1 (by decide))) ?_ ?_
 have e : (⟨v.kind, v.s, v.dn, v.ds, v.n, v.cols, v.rows⟩ : Vl) = v := rfl
 (try simp only [e, oD, oC, oE, oB])
 simp [aV, *]
 rfl
end Go.Proofs.YtmpgfchkkemngaaGreatDoor
namespace Go.Proofs.YtmpgfchkkemngaaGreatDoor
open Go.RowKit Go.V
open Go.Eng (inR byteAt u8 bH)
def vd : List Int → Int
 | [] => 0
 | d :: r => d + 16777216 * vd r
def Dg (l : List Int) : Prop := ∀ d, d ∈ l → 0 ≤ d ∧ d < 16777216
def dg (n : Nat) : List Int := if h : n = 0 then [] else ((n % 16777216 : Nat) : Int) :: dg (n / 16777216)
 termination_by n
 decreasing_by omega
theorem dg_zero : dg 0 = [] := by rw [dg]; simp
theorem oL {n : Nat} (h : n ≠ 0) : dg n = ((n % 16777216 : Nat) : Int) :: dg (n / 16777216) := by rw [dg]; simp [h]
theorem yF : ∀ a b : List Int, vd (a ++ b) = vd a + 16777216 ^ a.length * vd b
 | [], b => by simp [vd]
 | x :: a, b => by
  rw [List.cons_append, vd, yF a b, vd, List.length_cons, Int.pow_succ]
  grind
theorem mR (a : List Int) (x : Int) : vd (a ++ [x]) = vd a + 16777216 ^ a.length * x := by rw [yF]; simp [vd]
theorem Dg.nil : Dg [] := fun d h => by cases h
theorem Dg.cons {x : Int} {l : List Int} (h0 : 0 ≤ x) (h1 : x < 16777216) (h : Dg l) : Dg (x :: l) := fun d hd => by
 rcases List.mem_cons.1 hd with rfl | hd
 exact ⟨h0, h1⟩
 exact h d hd
theorem Dg.tail {x : Int} {l : List Int} (h : Dg (x :: l)) : Dg l := fun d hd => h d (List.mem_cons_of_mem _ hd)
theorem Dg.head {x : Int} {l : List Int} (h : Dg (x :: l)) : 0 ≤ x ∧ x < 16777216 := h x (by simp)
theorem Dg.app {a b : List Int} (ha : Dg a) (hb : Dg b) : Dg (a ++ b) := fun d hd => (List.mem_append.1 hd).elim (ha d) (hb d)
theorem Dg.snoc {a : List Int} {x : Int} (ha : Dg a) (h0 : 0 ≤ x) (h1 : x < 16777216) : Dg (a ++ [x]) := ha.app (Dg.cons h0 h1 Dg.nil)
theorem Dg.take {l : List Int} (h : Dg l) (k : Nat) : Dg (l.take k) := fun d hd => h d (List.mem_of_mem_take hd)
theorem Dg.drop {l : List Int} (h : Dg l) (k : Nat) : Dg (l.drop k) := fun d hd => h d (List.mem_of_mem_drop hd)
theorem Dg.at {l : List Int} (h : Dg l) {k : Nat} (hk : k < l.length) : 0 ≤ l.getD k 0 ∧ l.getD k 0 < 16777216 := h _ (by simp [hk])
theorem jT : ∀ {l : List Int}, Dg l → 0 ≤ vd l
 | [], _ => by simp [vd]
 | d :: r, h => by
  have := jT h.tail; have := h.head
  rw [vd]; omega
theorem pw (k : Nat) : ((16777216 ^ k : Nat) : Int) = (16777216 : Int) ^ k := by rw [Int.natCast_pow]; rfl
theorem aB4 (k : Nat) : (0 : Int) < 16777216 ^ k := Int.pow_pos (by decide)
theorem aF4 : ∀ {l : List Int}, Dg l → vd l < 16777216 ^ l.length
 | [], _ => by simp [vd]
 | d :: r, h => by
  have := aF4 h.tail; have := h.head
  rw [vd, List.length_cons, Int.pow_succ]; omega
theorem bY : ∀ n : Nat, vd (dg n) = (n : Int) ∧ Dg (dg n) := by
 intro n
 induction n using Nat.strongRecOn with
 | ind n ih =>
  by_cases h : n = 0
  subst h; rw [dg_zero]; exact ⟨rfl, Dg.nil⟩
  obtain ⟨h1, h2⟩ := ih (n / 16777216) (by omega)
  rw [oL h, vd, h1]
  exact ⟨by omega, Dg.cons (by omega) (by omega) h2⟩
def aOB (l : List Int) : Prop := l = [] ∨ ¬ l.getD (l.length - 1) 0 = 0
theorem aNG : ∀ {l : List Int}, Dg l → aOB l → l = dg (vd l).toNat
 | [], _, _ => by rw [show vd [] = 0 from rfl]; exact dg_zero.symm
 | d :: r, h, ht => by
  have hd := h.head
  have hr := jT h.tail
  have hne : ¬ d + 16777216 * vd r = 0 := by
   intro h0
   have d0 : d = 0 := by omega
   have r0 : vd r = 0 := by omega
   rcases ht with ht | ht
   cases ht
   cases r with
   | nil => simp at ht; exact ht d0
   | cons x r =>
    have ht' : aOB (x :: r) := .inr (by simpa using ht)
    have := aNG h.tail ht'
    rw [r0, show (0 : Int).toNat = 0 from rfl, dg_zero] at this
    cases this
  have hp : (d + 16777216 * vd r).toNat ≠ 0 := by omega
  rw [vd, oL hp]
  have e1 : ((d + 16777216 * vd r).toNat % 16777216 : Nat) = d.toNat := by omega
  have e2 : (d + 16777216 * vd r).toNat / 16777216 = (vd r).toNat := by omega
  have ht' : aOB r := by
   cases r with
   | nil => exact .inl rfl
   | cons x r =>
    rcases ht with ht | ht
    cases ht
    exact .inr (by simpa using ht)
  rw [e1, e2, ← aNG h.tail ht']
  congr 1; omega
theorem dg_trim (n : Nat) : aOB (dg n) := by
 induction n using Nat.strongRecOn with
 | ind n ih =>
  by_cases h : n = 0
  subst h; exact .inl dg_zero
  have := ih (n / 16777216) (by omega)
  rw [oL h]
  by_cases h2 : n / 16777216 = 0
  rw [h2, dg_zero]; right; simp; omega
  rw [oL h2] at this ⊢
  rcases this with hh | hh
  cases hh
  right; simpa using hh
theorem xB {l : List Int} (h : 0 < l.length) : l.take (l.length - 1) ++ [l.getD (l.length - 1) 0] = l := by
 have hk : l.length - 1 < l.length := by omega
 have : l.take (l.length - 1 + 1) = l.take (l.length - 1) ++ [l.getD (l.length - 1) 0] := by
  rw [List.take_add_one, List.getD_eq_getElem?_getD, List.getElem?_eq_getElem hk]; rfl
 rw [← this, show l.length - 1 + 1 = l.length by omega, List.take_length]
theorem aHW {l : List Int} (h : 0 < l.length) (hz : l.getD (l.length - 1) 0 = 0) : vd (l.take (l.length - 1)) = vd l := by
 have e := xB h
 rw [hz] at e
 conv => rhs; rw [← e]
 rw [mR]; simp
theorem drop_at {l : List Int} {k : Nat} (h : k < l.length) : vd (l.drop k) = l.getD k 0 + 16777216 * vd (l.drop (k + 1)) := by
 rw [List.drop_eq_getElem_cons h, vd]; simp [h]
theorem gB {l : List Int} {k : Nat} (h : l.length ≤ k) : vd (l.drop k) = 0 := by rw [List.drop_eq_nil_of_le h]; rfl
theorem q7 {n k : Nat} (h : (nb n).length ≤ 3 * k) : (dg n).length ≤ k := by
 induction k generalizing n with
 | zero =>
  have := (gX n).1 (by omega)
  subst this; rw [dg_zero]; simp
 | succ k ih =>
  by_cases h0 : n = 0
  subst h0; rw [dg_zero]; simp
  rw [oL h0, List.length_cons]
  have : (nb (n / 16777216)).length ≤ 3 * k := by
   by_cases h1 : n / 256 = 0
   rw [show n / 16777216 = 0 by omega, fM]; simp
   by_cases h2 : n / 65536 = 0
   rw [show n / 16777216 = 0 by omega, fM]; simp
   by_cases h3 : n / 16777216 = 0
   rw [h3, fM]; simp
   have e1 := congrArg List.length (l7 h0)
   have e2 := congrArg List.length (l7 (n := n / 256) h1)
   have e3 := congrArg List.length (l7 (n := n / 256 / 256) (by omega))
   rw [List.length_append] at e1 e2 e3
   have e4 : n / 256 / 256 / 256 = n / 16777216 := by omega
   rw [e4] at e3
   simp only [List.length_cons, List.length_nil] at e1 e2 e3
   omega
  have := ih this
  omega
theorem aLR {n : Nat} {x : UInt8} {t : List UInt8} (h : nb n = x :: t) : ¬ x = 0 := by
 intro h0
 have e : cL (nb n) = nb n := by rw [aDL, f0]
 rw [h, h0] at e
 have h1 : cL (0 :: t) = cL t := by simp [cL]
 rw [h1] at e
 have : (cL t).length ≤ t.length := by unfold cL; exact (List.dropWhile_sublist _).length_le
 rw [e, List.length_cons] at this; omega
theorem aCF {n e : Nat} (he : 0 < e) (hl : e ≤ (nb n).length) : bR ((nb n).take e) ≠ 0 := by
 cases h : nb n with
 | nil => rw [h] at hl; simp at hl; omega
 | cons x t =>
  have hx := aLR h
  obtain ⟨k, rfl⟩ : ∃ k, e = k + 1 := ⟨e - 1, by omega⟩
  rw [List.take_succ_cons, mU]
  have : 0 < x.toNat := by
   rcases Nat.eq_zero_or_pos x.toNat with h0 | h0
   exact absurd (UInt8.toNat_inj.1 (by simpa using h0)) hx
   exact h0
  have h2 : 0 < x.toNat * 256 ^ (t.take k).length := Nat.mul_pos this (Nat.pow_pos (by decide))
  omega
theorem aEB {a : List UInt8} {s e : Nat} (h : s ≤ e) (he : e ≤ a.length) : bR (a.take e) = bR (a.take s) * 256 ^ (e - s) + bR ((a.take e).drop s) := by
 have e1 : a.take e = a.take s ++ (a.take e).drop s := by
  have := List.take_append_drop s (a.take e)
  rw [List.take_take, Nat.min_eq_left h] at this
  exact this.symm
 conv => lhs; rw [e1]
 rw [aA4, List.length_drop, List.length_take, Nat.min_eq_left he]
theorem of_step {n e : Nat} (he : 0 < e) (hl : e ≤ (nb n).length) : dg (bR ((nb n).take e)) = (bR (((nb n).take e).drop (e - 3)) : Int) :: dg (bR ((nb n).take (e - 3))) := by
 rw [oL (aCF he hl)]
 have hs := aEB (a := nb n) (s := e - 3) (e := e) (by omega) hl
 have hlt := mT (((nb n).take e).drop (e - 3))
 rw [List.length_drop, List.length_take, Nat.min_eq_left hl] at hlt
 by_cases h3 : 3 ≤ e
 rw [show e - (e - 3) = 3 by omega] at hs hlt
 rw [hs]
 have h1 : (bR ((nb n).take (e - 3)) * 256 ^ 3 + bR (((nb n).take e).drop (e - 3))) % 16777216 = bR (((nb n).take e).drop (e - 3)) := by omega
 have h2 : (bR ((nb n).take (e - 3)) * 256 ^ 3 + bR (((nb n).take e).drop (e - 3))) / 16777216 = bR ((nb n).take (e - 3)) := by omega
 rw [h1, h2]
 have h0 : e - 3 = 0 := by omega
 have hz : bR ((nb n).take (e - 3)) = 0 := by rw [h0]; rfl
 have hlt' : bR (((nb n).take e).drop (e - 3)) < 16777216 := by
  have : 256 ^ (e - (e - 3)) ≤ 256 ^ 3 := Nat.pow_le_pow_right (by decide) (by omega)
  omega
 rw [hz] at hs ⊢
 rw [Nat.zero_mul, Nat.zero_add] at hs
 rw [hs, Nat.mod_eq_of_lt hlt', Nat.div_eq_of_lt hlt']
theorem aCB {acc : List UInt8} {d : Int} (h0 : 0 ≤ d) (h1 : d < 16777216) : (bR (acc ++ [u8 (Int.fdiv d 65536)] ++ [u8 (Int.fdiv d 256)] ++ [u8 d]) : Int) = bR acc * 16777216 + d := by
 rw [fA, fA, fA]
 have f1 : Int.fdiv d 65536 = d / 65536 := Int.fdiv_eq_ediv_of_nonneg _ (by decide)
 have f2 : Int.fdiv d 256 = d / 256 := Int.fdiv_eq_ediv_of_nonneg _ (by decide)
 rw [f1, f2]
 have h2 := lR (d / 65536)
 have h3 := lR (d / 256)
 have h4 := lR d
 omega
theorem aLT {acc : List UInt8} {n j : Nat} (hj : j < 8) (hv : bR acc = n / 2 ^ (64 - 8 * j)) : bR (acc ++ [u8 (Int.fdiv (n : Int) (2 ^ (56 - 8 * j)))]) = n / 2 ^ (64 - 8 * (j + 1)) := by
 rw [fA, hv]
 have e : ((u8 (Int.fdiv (n : Int) (2 ^ (56 - 8 * j)))).toNat : Int) = ((n / 2 ^ (56 - 8 * j) % 256 : Nat) : Int) := by
  rw [lR, Int.fdiv_eq_ediv_of_nonneg _ (Int.le_of_lt (Int.pow_pos (by decide)))]
  rw [Int.natCast_emod, Int.natCast_ediv, Int.natCast_pow]; rfl
 have e' : (u8 (Int.fdiv (n : Int) (2 ^ (56 - 8 * j)))).toNat = n / 2 ^ (56 - 8 * j) % 256 := Int.ofNat.inj e
 rw [e', show 64 - 8 * (j + 1) = 56 - 8 * j by omega, show 64 - 8 * j = (56 - 8 * j) + 8 by omega, Nat.pow_add, ← Nat.div_div_eq_div_mul]
 generalize n / 2 ^ (56 - 8 * j) = q
 omega
def td : List Int → List Int → Int
 | a :: u, b :: v => if td u v = 0 then a - b else td u v
 | _, _ => 0
def cmpL (u v : List Int) : Int := if u.length = v.length then td u v else (u.length : Int) - v.length
theorem aGA : ∀ (k : Nat) {u v : List Int}, ¬ td (u.drop k) (v.drop k) = 0 → td u v = td (u.drop k) (v.drop k)
 | 0, u, v, _ => by simp
 | k + 1, [], v, h => by simp [td] at h
 | k + 1, a :: u, [], h => by simp [td] at h
 | k + 1, a :: u, b :: v, h => by
  simp only [List.drop_succ_cons] at h ⊢
  have := aGA k h
  rw [td, this, if_neg h]
theorem td_at {u v : List Int} {k : Nat} (hu : k < u.length) (hv : k < v.length) (h : td (u.drop (k + 1)) (v.drop (k + 1)) = 0) : td (u.drop k) (v.drop k) = u.getD k 0 - v.getD k 0 := by
 rw [List.drop_eq_getElem_cons hu, List.drop_eq_getElem_cons hv, td, if_pos h]; simp [hu, hv]
theorem aF9 : ∀ {u v : List Int}, u.length = v.length → Dg u → Dg v → (td u v < 0 ↔ vd u < vd v) ∧ (td u v = 0 ↔ vd u = vd v)
 | [], [], _, _, _ => by simp [td, vd]
 | [], _ :: _, h, _, _ => by simp at h
 | _ :: _, [], h, _, _ => by simp at h
 | a :: u, b :: v, h, hu, hv => by
  obtain ⟨h1, h2⟩ := aF9 (by simpa using h) hu.tail hv.tail
  have ha := hu.head; have hb := hv.head
  rw [td, vd, vd]
  by_cases h0 : td u v = 0
  rw [if_pos h0]
  have := h2.1 h0
  constructor <;> constructor <;> intro <;> omega
  rw [if_neg h0]
  constructor <;> constructor <;> intro <;> omega
theorem q6 {x y : Nat} (h : (dg x).length < (dg y).length) : x < y := by
 have hx := aF4 (bY x).2
 rw [(bY x).1] at hx
 have hy : (16777216 : Int) ^ ((dg y).length - 1) ≤ (y : Int) := by
  have e := xB (l := dg y) (by omega)
  have ht : ¬ (dg y).getD ((dg y).length - 1) 0 = 0 := by
   rcases dg_trim y with h0 | h0
   rw [h0] at h; simp at h
   exact h0
  have hd := (bY y).2.at (k := (dg y).length - 1) (by omega)
  have hv := congrArg vd e
  rw [mR, (bY y).1, List.length_take, Nat.min_eq_left (by omega)] at hv
  have h0 := jT ((bY y).2.take ((dg y).length - 1))
  have h1 : (16777216 : Int) ^ ((dg y).length - 1) * 1 ≤ 16777216 ^ ((dg y).length - 1) * (dg y).getD ((dg y).length - 1) 0 := Int.mul_le_mul_of_nonneg_left (by omega) (Int.le_of_lt (aB4 _))
  omega
 have hp : (16777216 : Int) ^ (dg x).length ≤ 16777216 ^ ((dg y).length - 1) := by
  have := Nat.pow_le_pow_right (n := 16777216) (by decide) (show (dg x).length ≤ (dg y).length - 1 by omega)
  have h := Int.ofNat_le.2 this
  rw [pw, pw] at h; exact h
 omega
theorem xW (x y : Nat) : (cmpL (dg x) (dg y) < 0 ↔ x < y) ∧ (cmpL (dg x) (dg y) = 0 ↔ x = y) := by
 unfold cmpL
 by_cases h : (dg x).length = (dg y).length
 rw [if_pos h]
 obtain ⟨h1, h2⟩ := aF9 h (bY x).2 (bY y).2
 rw [(bY x).1, (bY y).1] at h1 h2
 exact ⟨by rw [h1]; omega, by rw [h2]; omega⟩
 rw [if_neg h]
 rcases Nat.lt_or_gt_of_ne h with h' | h'
 have := q6 h'; omega
 have := q6 h'; omega
theorem vd_set {l : List Int} {k : Nat} (h : k < l.length) (x : Int) : vd ((l.set k x).drop k) = x + 16777216 * vd (l.drop (k + 1)) := by
 rw [drop_at (by simpa using h)]
 simp [h, List.drop_set_of_lt]
theorem Dg.set {l : List Int} (h : Dg l) {k : Nat} {x : Int} (h0 : 0 ≤ x) (h1 : x < 16777216) : Dg (l.set k x) := fun d hd => by
 rcases List.mem_or_eq_of_mem_set hd with h' | rfl
 exact h d h'
 exact ⟨h0, h1⟩
theorem wD {l : List Int} {k : Nat} (h : k < l.length) (x : Int) : vd (l.set k x) = vd l + 16777216 ^ k * (x - l.getD k 0) := by
 have e1 : l.set k x = l.take k ++ x :: l.drop (k + 1) := List.set_eq_take_append_cons_drop.trans (if_pos h)
 have e2 : l = l.take k ++ l.getD k 0 :: l.drop (k + 1) := by
  have := List.take_append_drop k l
  rw [List.drop_eq_getElem_cons h] at this
  simpa [h] using this.symm
 have e3 := congrArg vd e2
 rw [yF] at e3
 rw [e1, yF, e3, vd, vd]
 grind
theorem aAZ : ∀ n : Nat, vd (List.replicate n 0) = 0
 | 0 => rfl
 | n + 1 => by rw [List.replicate_succ, vd, aAZ n]; rfl
theorem Dg.zeros (n : Nat) : Dg (List.replicate n 0) := fun d hd => by rw [(List.mem_replicate.1 hd).2]; decide
end Go.Proofs.YtmpgfchkkemngaaGreatDoor
namespace Go.Proofs.YtmpgfchkkemngaaGreatDoor
open Go.RowKit Go.V
open Go.Eng (inR byteAt u8 bH)
variable {g : Gv}
theorem d7 (acc : List Int) (x : Int) : intsD acc ++ [[D.i x]] = intsD (acc ++ [x]) := by simp [intsD, intD]
theorem aI3 (l : List Int) (k : Nat) : ((intsD l).take k).drop 0 = intsD (l.take k) := by simp [intsD]
theorem aP (l : List Int) : (intsD l).length = l.length := by simp [intsD]
theorem aDO (acc : List UInt8) (x y z : Int) : bytesD acc ++ [[D.y (IntKind.wrap .u8 x)], [D.y (IntKind.wrap .u8 y)], [D.y (IntKind.wrap .u8 z)]] = bytesD (acc ++ [u8 x] ++ [u8 y] ++ [u8 z]) := by
 rw [← dS, ← dS, ← dS]; simp
theorem mid_step {a : List UInt8} {s k : Nat} (hs : s ≤ k) (hk : k < a.length) : bR ((a.take (k + 1)).drop s) = 256 * bR ((a.take k).drop s) + (a.getD k 0).toNat := by
 have e : a.take (k + 1) = a.take k ++ [a.getD k 0] := by
  rw [List.take_add_one, List.getD_eq_getElem?_getD, List.getElem?_eq_getElem hk]; rfl
 rw [e, List.drop_append_of_le_length (by rw [List.length_take]; omega), fA]
theorem mid_bd {a : List UInt8} {s k : Nat} (hs : s ≤ k) (hk : k ≤ a.length) (h3 : k ≤ s + 3) : bR ((a.take k).drop s) < 16777216 ∧ (k ≤ s + 2 → bR ((a.take k).drop s) < 65536) := by
 have h := mT ((a.take k).drop s)
 rw [List.length_drop, List.length_take, Nat.min_eq_left hk] at h
 have h1 : 256 ^ (k - s) ≤ 256 ^ 3 := Nat.pow_le_pow_right (by decide) (by omega)
 refine ⟨by omega, fun h2 => ?_⟩
 have h1 : 256 ^ (k - s) ≤ 256 ^ 2 := Nat.pow_le_pow_right (by decide) (by omega)
 omega
theorem aHM (l : List UInt8) (i : Int) : 0 ≤ byteAt (S l) i ∧ byteAt (S l) i < 256 := by
 rw [cO]; have := (l.getD i.toNat 0).toNat_lt; omega
theorem x5 (l : List UInt8) (i : Int) : IntKind.wrap .i64 (byteAt (S l) i) = byteAt (S l) i := by rw [cO, aAX]
theorem nb_ge {n k : Nat} : k < (nb n).length ↔ 256 ^ k ≤ n := by
 refine ⟨fun h => ?_, qR⟩
 rcases Nat.lt_or_ge n (256 ^ k) with h1 | h1
 have := gJ h1; omega
 exact h1
theorem int_big {n : Nat} (h : (nb n).length > 8 ∨ ((nb n).length = 8 ∧ ((nb n).getD 0 0).toNat > 127)) : ¬ n < 2 ^ 63 := by
 intro hn
 rcases h with h | ⟨h, h'⟩
 have := gJ (n := n) (k := 8) (by omega); omega
 have := nb_head hn h; omega
theorem aMF {n : Nat} (h1 : ¬ (nb n).length > 8) (h2 : (nb n).length = 8 → ¬ ((nb n).getD 0 0).toNat > 127) : n < 2 ^ 63 := by
 rcases Nat.lt_or_ge n (2 ^ 63) with h | h
 exact h
 exfalso
 have hl : (nb n).length = 8 := by
  have := qR (n := n) (k := 7) (by omega); omega
 have h3 := h2 hl
 have e : n = bR (nb n) := (f0 n).symm
 cases hb : nb n with
 | nil => rw [hb] at hl; simp at hl
 | cons x t =>
  rw [hb] at hl h3 e
  rw [mU] at e
  have ht : t.length = 7 := by simpa using hl
  have h4 := mT t
  rw [ht] at e h4
  have : x.toNat ≤ 127 := by simpa using h3
  have h5 : x.toNat * 256 ^ 7 ≤ 127 * 256 ^ 7 := Nat.mul_le_mul_right _ this
  omega
def eU (n : Nat) : Int := if n < 2 ^ 63 then (n : Int) else 0
def lN (n : Nat) : Bool := decide (n < 2 ^ 63)
def smV (n k : Nat) : Int := if n < 256 ^ k then (n : Int) else 0
def smK (n k : Nat) : Bool := decide (n < 256 ^ k)
theorem aKG {n k : Nat} (hk : k ≤ 7) (h : n < 256 ^ k) : eU n = smV n k ∧ lN n = smK n k := by
 have h1 : 256 ^ k ≤ 256 ^ 7 := Nat.pow_le_pow_right (by decide) hk
 have h2 : n < 2 ^ 63 := by omega
 simp [eU, lN, smV, smK, h, h2]
def zq8 := And.intro @List.length_append.{0} (And.intro @List.length_cons.{0} (And.intro @List.length_map.{0, 0} (And.intro @List.length_nil.{0} (And.intro @aF (And.intro @decide_eq_true_eq (And.intro @Go.Eng.inR.eq_1 (And.intro @intsD.eq_1 (@maxLen.eq_1))))))))
def zq9 := And.intro @List.length_map.{0, 0} (And.intro @aF (And.intro @blS (And.intro @cO (@intsD.eq_1))))
theorem vE (l : List UInt8) (hl : l.length ≤ maxLen) :
  SpG g 138 [.c (cS (S l))] [] (.c (cS (S (nb (bR l))))) [] := by
 refine aG 19 Tryz.func138 (by kernel_rfl) fun fr hG => ?_
 refine zL hG [] [0, 0, 1, 1] (fun (zz : Nat) => match zz with | k => (l.length - k, ⟨[zS 0 (S l), zS 2 (S []), zI 3 (k : Int)], []⟩, k ≤ l.length ∧ cL (l.drop k) = cL l)) 0 aA ?_ ?_
 exact ⟨Nat.zero_le _, rfl⟩
 rintro k ⟨hk, hn⟩
 refine zc hG [] [1, 0] ((decide (((k : Int) : Int) < ((S l).size : Int))) && (decide ((byteAt (S l) (k : Int) : Int) = 0))) (aB (by intros; (try simp only [zq8] at *); omega : (decide (((k : Int) : Int) < ((S l).size : Int))) = true → (0 : Int) ≤ (k : Int) ∧ (k : Int) < ((S l).size : Int))) (fun hc2 => ?_) (fun hc2 => ?_)
 (try simp only [zq9] at hc2)
 refine zD hG [] (k + 1) (aB (by intros; (try simp only [zq8] at *); omega : inR ((k : Int) + 1))) ?_ ?_
 (try dsimp only); omega
 refine ⟨by omega, ?_⟩
 rw [← hn, aFU (k := k) (by omega) (by have := hc2.2; simp only [Int.toNat_natCast] at this; omega)]
 (try simp only [zq9] at hc2)
 refine zE hG [] (.exit 0) (⟨[zS 0 (S l), zS 2 (S []), zI 3 (k : Int)], []⟩) aA rfl ?_
 refine zR hG [] [] (.c (cS ((S l).extract k (S l).size))) [] (aB (by intros; (try simp only [zq8] at *); omega : (0 : Int) ≤ (k : Int) ∧ ((k : Int) : Int) ≤ ((S l).size : Int) ∧ ((S l).size : Int) ≤ ((S l).size : Int))) ?_ ?_
 have h0 : ¬ (k < l.length ∧ (l.getD k 0).toNat = 0) := by
  rintro ⟨h1, h2⟩
  rcases hc2 with h | h
  omega
  simp only [Int.toNat_natCast] at h; omega
 rw [eI, ← aDL, ← hn, aFV h0]
 rfl
theorem jA (n : Nat) (hl : (nb n).length ≤ maxLen) : SpG g 138 [.c (cS (S (nb n)))] [] (.c (cS (S (nb n)))) [] := by
 have h := vE (g := g) (nb n) hl
 rw [f0] at h
 exact h
theorem lH (n : Int) (h : 0 ≤ n ∧ n ≤ 9223372036854775807) :
  SpG g 136 [.c (cI n)] [] (.c (cS (S (nb n.toNat)))) [] := by
 refine aG 23 Tryz.func136 (by kernel_rfl) fun fr hG => ?_
 refine zA hG [] [0, 1, 0, 1, 1] (⟨[zI 0 n, zS 2 (S []), zN 3, zI 4 56], []⟩) [(3, 9001, 5, 1)] [] (fun (zz : Nat × Int × List (List D) × List UInt8) => match zz with | (j, kk, es, acc) => (8 - j, ⟨[zI 0 n, zS 2 (S []), zY 3 9001 0, zI 4 kk], [(9001, .arr 0 5 1 (es))]⟩, j ≤ 8 ∧ kk = 56 - 8 * (j : Int) ∧ es = bytesD acc ∧ acc.length = j ∧ bR acc = n.toNat / 2 ^ (64 - 8 * j))) (0, 56, [], []) aA ?_ ?_
 refine ⟨Nat.zero_le _, rfl, rfl, rfl, ?_⟩
 rw [aA3, Nat.div_eq_of_lt (by omega)]
 rintro ⟨j, kk, es, acc⟩ ⟨hj, hkk, hes, ha, hv⟩
 have hlen : es.length = j := by rw [hes, aI, ha]
 have e0 : ((n.toNat : Nat) : Int) = n := by omega
 refine zc hG [] [1, 0] ((decide ((kk : Int) ≥ 0)) && (decide ((n : Int) > 0))) aA (fun hc2 => ?_) (fun hc2 => ?_)
 (try simp only [zq9] at hc2)
 refine zD hG [] (j + 1, kk - 8, es ++ [[D.y (IntKind.wrap .u8 (Int.fdiv n (2 ^ min (kk : Int).toNat 64)))]], acc ++ [u8 (Int.fdiv n (2 ^ min (kk : Int).toNat 64))]) (aC (by intros; (try simp only [zq8] at *); omega : (0 : Int) ≤ kk) (aC (by intros; (try simp only [zq8] at *); omega : ((es).length + (([[.y (IntKind.wrap .u8 (Int.fdiv n (2 ^ min (kk : Int).toNat 64)))]] : List (List D))).length) * (1 + 1) ≤ 140737488355328) (aB (by intros; (try simp only [zq8] at *); omega : inR (kk - 8))))) ?_ ?_
 (try dsimp only); omega
 have e1 : min (kk : Int).toNat 64 = 56 - 8 * j := by omega
 refine ⟨by omega, by omega, by rw [hes, dS], by simp [ha], ?_⟩
 rw [e1]
 have h := aLT (acc := acc) (n := n.toNat) (j := j) (by omega) hv
 rw [e0] at h; exact h
 (try simp only [zq9] at hc2)
 refine zE hG [] (.exit 0) (⟨[zS 2 (S []), zY 3 9001 0], [(9001, .arr 0 5 1 (es))]⟩) aA rfl ?_
 refine zR hG [(6, 1, kS (S acc)), (6, 2, kS (S (nb (bR (acc)))))] [] (.c (cS (S (nb (bR (acc)))))) [] (aC (by rw [hes, jC] : es = bytesD (S acc).data.toList) (aB (vE (acc) (by simp only [maxLen]; omega) : SpG g _ _ _ _ _))) ?_ ?_
 have e : bR acc = n.toNat := by
  rw [hv]
  rcases hc2 with h | h
  rw [show 64 - 8 * j = 0 by omega]; simp
  rw [show n.toNat = 0 by omega]; simp
 rw [e]
 rfl
def lL := And.intro @List.length_append.{0} (And.intro @List.length_cons.{0} (And.intro @List.length_nil.{0} (And.intro @aF (And.intro @Go.Eng.inR.eq_1 (@maxLen.eq_1)))))
theorem qP (n : Nat) (h : (nb n).length ≤ 1000000000) :
  SpG g 140 [.c (cS (S (nb n)))] [] (.c (cM 1 (intsD (dg n)))) [] := by
 refine aG 35 Tryz.func140 (by kernel_rfl) fun fr hG => ?_
 refine zA hG [(1, 1, kS (S (nb n)))] [0, 1, 0, 1, 1, 1] (⟨[zS 0 (S (nb n)), zN 2, zN 3, zI 4 ((S (nb n)).size : Int)], []⟩) [(3, 9001, 3, 1)] [] (fun (zz : Int × List (List D) × List Int) => match zz with | (e, es, acc) => ((e + 3).toNat, ⟨[zS 0 (S (nb n)), zN 2, zY 3 9001 0, zI 4 e], [(9001, .arr 0 3 1 (es))]⟩, e ≤ (nb n).length ∧ -3 < e ∧ es = intsD acc ∧ acc.length ≤ (nb n).length ∧ (acc.length : Int) + e ≤ (nb n).length ∧ acc ++ dg (bR ((nb n).take e.toNat)) = dg n)) (((S (nb n)).size : Int), [], []) (aB (jA n (by simp only [maxLen]; omega) : SpG g _ _ _ _ _)) ?_ ?_
 rw [aF]
 refine ⟨by omega, by omega, rfl, by simp, by simp, ?_⟩
 rw [Int.toNat_natCast, List.take_length, f0]; rfl
 rintro ⟨e, es, acc⟩ ⟨he, hm, hes, ha, hae, hv⟩
 have hlen : es.length = acc.length := by rw [hes, aP]
 refine zc hG [] [1, 0] (decide ((e : Int) > 0)) aA (fun hc2 => ?_) (fun hc2 => ?_)
 (try simp only [zq9] at hc2)
 refine zL hG [] [0, 1, 0, 1, 0, 0, 1] (fun (zz : Int × Int) => match zz with | (d, k) => ((e - k).toNat, ⟨[zS 0 (S (nb n)), zN 2, zY 3 9001 0, zI 4 e, zI 5 d, zI 6 k], [(9001, .arr 0 3 1 (es))]⟩, ((e.toNat - 3 : Nat) : Int) ≤ k ∧ k ≤ e ∧ d = bR (((nb n).take k.toNat).drop (e.toNat - 3)))) (0, (if (0 : Int) > (e - 3) then 0 else (e - 3))) (aB (by intros; (try rw [hw]); (try have hm4 := hm3.2 (by omega)); (try simp only [lL] at *); omega : inR (e - 3))) ?_ ?_
 refine ⟨by split <;> omega, by split <;> omega, ?_⟩
 rw [List.drop_eq_nil_of_le]
 rfl
 rw [List.length_take]; split <;> omega
 rintro ⟨d, k⟩ ⟨hk1, hk2, hd⟩
 have hb := aHM (nb n) k
 have hw := x5 (nb n) k
 have hm3 := mid_bd (a := nb n) (s := e.toNat - 3) (k := k.toNat) (by omega) (by omega) (by omega)
 refine zc hG [] [1, 0] (decide ((k : Int) < e)) aA (fun hc4 => ?_) (fun hc4 => ?_)
 (try simp only [zq9] at hc4)
 refine zD hG [] (d * 256 + IntKind.wrap .i64 (byteAt (S (nb n)) k), k + 1) (aC (by intros; (try rw [hw]); (try have hm4 := hm3.2 (by omega)); (try simp only [lL] at *); omega : inR (d * 256)) (aC (by intros; (try rw [hw]); (try have hm4 := hm3.2 (by omega)); (try simp only [lL] at *); omega : (0 : Int) ≤ k ∧ k < ((S (nb n)).size : Int)) (aC (by intros; (try rw [hw]); (try have hm4 := hm3.2 (by omega)); (try simp only [lL] at *); omega : inR ((d * 256) + (IntKind.wrap .i64 (byteAt (S (nb n)) k)))) (aB (by intros; (try rw [hw]); (try have hm4 := hm3.2 (by omega)); (try simp only [lL] at *); omega : inR (k + 1)))))) ?_ ?_
 (try dsimp only); omega
 refine ⟨by omega, by omega, ?_⟩
 have h1 : (k + 1).toNat = k.toNat + 1 := by omega
 rw [h1, mid_step (by omega) (by omega), hw, cO, hd]
 omega
 (try simp only [zq9] at hc4)
 refine zE hG [] (.exit 2) (⟨[zS 0 (S (nb n)), zN 2, zY 3 9001 0, zI 4 e, zI 5 d], [(9001, .arr 0 3 1 (es))]⟩) aA rfl ?_
 refine zD hG [] (e - 3, es ++ [[D.i d]], acc ++ [d]) (aC (by intros; (try rw [hw]); (try have hm4 := hm3.2 (by omega)); (try simp only [lL] at *); omega : ((es).length + (([[.i d]] : List (List D))).length) * (8 + 1) ≤ 140737488355328) (aB (by intros; (try rw [hw]); (try have hm4 := hm3.2 (by omega)); (try simp only [lL] at *); omega : inR (e - 3)))) ?_ ?_
 (try dsimp only); omega
 have hk0 : k = e := by omega
 subst hk0
 have hst := of_step (n := n) (e := k.toNat) (by omega) (by omega)
 refine ⟨by omega, by omega, by rw [hes, d7], by simp; omega, by simp; omega, ?_⟩
 have e3 : (k - 3).toNat = k.toNat - 3 := by omega
 rw [e3, ← hv, hst, hd]; simp
 (try simp only [zq9] at hc2)
 refine zE hG [] (.exit 0) (⟨[zN 2, zY 3 9001 0], [(9001, .arr 0 3 1 (es))]⟩) aA rfl ?_
 refine zR hG [] [] (.c (cM 1 (es))) [] aA ?_ ?_
 have hz : (nb n).take e.toNat = [] := by rw [show e.toNat = 0 by omega]; rfl
 rw [hz, aA3, dg_zero, List.append_nil] at hv
 rw [hes, hv]
 rfl
def lQ := And.intro @List.length_map.{0, 0} (@intsD.eq_1)
theorem wW (l : List Int) (hD : Dg l) (hl : l.length ≤ 400000000) :
  SpG g 146 [.c (cM 1 (intsD l))] [] (.c (cS (S (nb (vd l).toNat)))) [] := by
 refine aG 35 Tryz.func146 (by kernel_rfl) fun fr hG => ?_
 refine bN 0 rfl fun hl0 => ?_
 refine zA hG [] [0, 1, 0, 1, 1] (⟨[zM 0 1 (intsD l), zS 2 (S []), zN 3, zI 4 (((intsD l).length : Int) - 1)], []⟩) [(3, 9001, 5, 1)] [] (fun (zz : Int × List (List D) × List UInt8) => match zz with | (k, es, acc) => ((k + 1).toNat, ⟨[zM 0 1 (intsD l), zS 2 (S []), zY 3 9001 0, zI 4 k], [(9001, .arr 0 5 1 (es))]⟩, -1 ≤ k ∧ k < l.length ∧ es = bytesD acc ∧ (acc.length : Int) + 3 * k + 3 = 3 * l.length ∧ (bR acc : Int) = vd (l.drop (k + 1).toNat))) (((intsD l).length : Int) - 1, [], []) (aB (by intros; (try simp only [zq8] at *); omega : inR (((intsD l).length : Int) - 1))) ?_ ?_
 rw [aP]
 refine ⟨by omega, by omega, rfl, by rw [List.length_nil]; omega, ?_⟩
 rw [gB (by omega)]; rfl
 rintro ⟨k, es, acc⟩ ⟨hk1, hk2, hes, ha, hv⟩
 have hlen : es.length = acc.length := by rw [hes, aI]
 refine zc hG [] [1, 0] (decide ((k : Int) ≥ 0)) aA (fun hc2 => ?_) (fun hc2 => ?_)
 (try simp only [zq9] at hc2)
 refine zD hG [(5, 3, .elem (intD ((l).getD (k : Int).toNat 0))), (5, 9, .elem (intD ((l).getD (k : Int).toNat 0))), (5, 15, .elem (intD ((l).getD (k : Int).toNat 0)))] (k - 1, es ++ [[D.y (IntKind.wrap .u8 (Int.fdiv (l.getD k.toNat 0) (2 ^ min (16 : Int).toNat 64)))], [D.y (IntKind.wrap .u8 (Int.fdiv (l.getD k.toNat 0) (2 ^ min (8 : Int).toNat 64)))], [D.y (IntKind.wrap .u8 (l.getD k.toNat 0))]], acc ++ [u8 (Int.fdiv (l.getD k.toNat 0) (2 ^ min (16 : Int).toNat 64))] ++ [u8 (Int.fdiv (l.getD k.toNat 0) (2 ^ min (8 : Int).toNat 64))] ++ [u8 (l.getD k.toNat 0)]) (aC (by intros; exact aY _ (by omega) (by (try simp only [lQ] at *); omega) : (0 : Int) ≤ k ∧ (intsD l)[(k : Int).toNat]? = some (intD ((l).getD (k : Int).toNat 0))) (aC (by intros; (try simp only [zq8] at *); omega : (0 : Int) ≤ 16) (aC (by intros; exact aY _ (by omega) (by (try simp only [lQ] at *); omega) : (0 : Int) ≤ k ∧ (intsD l)[(k : Int).toNat]? = some (intD ((l).getD (k : Int).toNat 0))) (aC (by intros; (try simp only [zq8] at *); omega : (0 : Int) ≤ 8) (aC (by intros; exact aY _ (by omega) (by (try simp only [lQ] at *); omega) : (0 : Int) ≤ k ∧ (intsD l)[(k : Int).toNat]? = some (intD ((l).getD (k : Int).toNat 0))) (aC (by intros; (try simp only [zq8] at *); omega : ((es).length + (([[.y (IntKind.wrap .u8 (Int.fdiv ((l).getD (k : Int).toNat 0) (2 ^ min (16 : Int).toNat 64)))], [.y (IntKind.wrap .u8 (Int.fdiv ((l).getD (k : Int).toNat 0) (2 ^ min (8 : Int).toNat 64)))], [.y (IntKind.wrap .u8 ((l).getD (k : Int).toNat 0))]] : List (List D))).length) * (1 + 1) ≤ 140737488355328) (aB (by intros; (try simp only [zq8] at *); omega : inR (k - 1))))))))) ?_ ?_
 (try dsimp only); omega
 have hd := hD.at (k := k.toNat) (by omega)
 refine ⟨by omega, by omega, by rw [hes, aDO], by simp; omega, ?_⟩
 have h := aCB (acc := acc) hd.1 hd.2
 have e1 : (k - 1 + 1).toNat = k.toNat := by omega
 have e2 : (k + 1).toNat = k.toNat + 1 := by omega
 rw [e1, drop_at (by omega), ← e2, ← hv]
 have e3 : (2 : Int) ^ min (16 : Int).toNat 64 = 65536 := rfl
 have e4 : (2 : Int) ^ min (8 : Int).toNat 64 = 256 := rfl
 rw [e3, e4, h]; omega
 (try simp only [zq9] at hc2)
 refine zE hG [] (.exit 0) (⟨[zS 2 (S []), zY 3 9001 0], [(9001, .arr 0 5 1 (es))]⟩) aA rfl ?_
 refine zR hG [(6, 1, kS (S acc)), (6, 2, kS (S (nb (bR (acc)))))] [] (.c (cS (S (nb (bR (acc)))))) [] (aC (by rw [hes, jC] : es = bytesD (S acc).data.toList) (aB (vE (acc) (by simp only [maxLen]; omega) : SpG g _ _ _ _ _))) ?_ ?_
 have e : bR acc = (vd l).toNat := by
  rw [show (k + 1).toNat = 0 by omega, List.drop_zero] at hv; omega
 rw [e]
 rfl
theorem trim_ok (l : List Int) (hD : Dg l) :
  SpG g 141 [.c (cM 1 (intsD l))] [] (.c (cM 1 (intsD (dg (vd l).toNat)))) [] := by
 refine aG 21 Tryz.func141 (by kernel_rfl) fun fr hG => ?_
 refine bN 0 rfl fun hl0 => ?_
 refine zL hG [] [0, 0, 1] (fun (zz : List (List D) × List Int) => match zz with | (es, cur) => (cur.length, ⟨[zM 0 1 (es), zN 2], []⟩, es = intsD cur ∧ Dg cur ∧ vd cur = vd l ∧ cur.length ≤ l.length)) (intsD l, l) aA ?_ ?_
 exact ⟨rfl, hD, rfl, Nat.le_refl _⟩
 rintro ⟨es, cur⟩ ⟨hes, hd, hv, hc⟩
 have hlen : es.length = cur.length := by rw [hes, aP]
 refine zc hG [(1, 8, .elem ([.i ((cur).getD (((es).length : Int) - 1 : Int).toNat 0)]))] [1, 0] ((decide ((((es).length : Int) : Int) > 0)) && (decide (((cur).getD (((es).length : Int) - 1 : Int).toNat 0 : Int) = 0))) (aC (by intros; (try simp only [aP, inR, maxLen, decide_eq_true_eq] at *); omega : (decide ((((es).length : Int) : Int) > 0)) = true → inR (((es).length : Int) - 1)) (aB (by intros; (try simp only [decide_eq_true_eq] at *); rw [hes]; exact aY 0 (by (try simp only [aP] at *); omega) (by (try simp only [aP] at *); omega) : (decide ((((es).length : Int) : Int) > 0)) = true → (0 : Int) ≤ (((es).length : Int) - 1) ∧ (es)[(((es).length : Int) - 1 : Int).toNat]? = some ([.i ((cur).getD (((es).length : Int) - 1 : Int).toNat 0)])))) (fun hc2 => ?_) (fun hc2 => ?_)
 (try simp only [zq9] at hc2)
 refine zD hG [] ((es.take (((es).length : Int) - 1).toNat).drop 0, cur.take (cur.length - 1)) (aC (by intros; (try simp only [aP, inR, maxLen, decide_eq_true_eq] at *); omega : inR (((es).length : Int) - 1)) (aB (by intros; (try simp only [aP, inR, maxLen, decide_eq_true_eq] at *); omega : (0 : Int) ≤ 0 ∧ (0 : Int) ≤ (((es).length : Int) - 1) ∧ (((es).length : Int) - 1) ≤ ((es).length : Int)))) ?_ ?_
 (try dsimp only)
 rw [List.length_take]; omega
 have hz := hc2.2
 rw [show (((es).length : Int) - 1).toNat = cur.length - 1 by omega] at hz ⊢
 refine ⟨by rw [hes, aI3], hd.take _, by rw [aHW (by omega) hz, hv], by rw [List.length_take]; omega⟩
 (try simp only [zq9] at hc2)
 refine zE hG [] (.exit 0) (⟨[zM 0 1 (es), zN 2], []⟩) aA rfl ?_
 refine zR hG [] [] (.c (cM 1 (es))) [] aA ?_ ?_
 have ht : aOB cur := by
  rcases hc2 with h | h
  left; exact List.eq_nil_of_length_eq_zero (by omega)
  right; rw [show (((es).length : Int) - 1).toNat = cur.length - 1 by omega] at h; exact h
 rw [hes, ← hv, ← aNG hd ht]
 rfl
end Go.Proofs.YtmpgfchkkemngaaGreatDoor
namespace Go.Proofs.YtmpgfchkkemngaaGreatDoor
open Go.RowKit Go.V
open Go.Eng (inR byteAt u8 bH)
variable {g : Gv}
theorem aE4 {x y : Nat} (h : (nb x).length < (nb y).length) : x < y := by
 have := nb_ge.1 h
 have h2 := mT (nb x)
 rw [f0] at h2; omega
theorem qQ {es : List (List D)} {l : List Int} (h : es = intsD l) (hD : Dg l) (hl : l.length ≤ 400000000) : SpG g 146 [.c (cM 1 es)] [] (.c (cS (S (nb (vd l).toNat)))) [] := by
 subst h; exact wW l hD hl
theorem yI {es : List (List D)} {l : List Int} {n : Nat} (h : es = intsD l) (hD : Dg l) (hn : vd l = (n : Int)) : SpG g 141 [.c (cM 1 es)] [] (.c (cM 1 (intsD (dg n)))) [] := by
 subst h
 have := trim_ok (g := g) l hD
 rw [hn, Int.toNat_natCast] at this; exact this
theorem kO {s : Int} (h : 0 ≤ s) : Int.tmod s 16777216 = s % 16777216 ∧ Int.tdiv s 16777216 = s / 16777216 := ⟨Int.tmod_eq_emod_of_nonneg h, Int.tdiv_eq_ediv_of_nonneg h⟩
theorem i8 {acc : List Int} {k : Nat} {s X X' T : Int} (ha : acc.length = k) (h0 : 0 ≤ s) (hX : X = s + 16777216 * X') (hI : vd acc + 16777216 ^ k * X = T) : vd (acc ++ [Int.tmod s 16777216]) + 16777216 ^ (k + 1) * (Int.tdiv s 16777216 + X') = T := by
 obtain ⟨e1, e2⟩ := kO h0
 rw [mR, ha, e1, e2, Int.pow_succ, ← hI, hX]
 have := Int.emod_add_mul_ediv s 16777216
 generalize s % 16777216 = r at *
 generalize s / 16777216 = q at *
 subst this
 grind
theorem bF {s : Int} (h : 0 ≤ s) : Int.tdiv s 16777216 = s / 16777216 := Int.tdiv_eq_ediv_of_nonneg h
theorem qT {s : Int} (h : 0 ≤ s) : 0 ≤ Int.tmod s 16777216 ∧ Int.tmod s 16777216 < 16777216 := by rw [(kO h).1]; omega
theorem aHN {l : List Int} (h : Dg l) (k : Nat) : vd (l.drop k) = (if k < l.length then l.getD k 0 else 0) + 16777216 * vd (l.drop (k + 1)) ∧ 0 ≤ (if k < l.length then l.getD k 0 else 0) ∧ (if k < l.length then l.getD k 0 else 0) < 16777216 := by
 by_cases hk : k < l.length
 rw [if_pos hk]; exact ⟨drop_at hk, (h.at hk).1, (h.at hk).2⟩
 rw [if_neg hk, gB (by omega), gB (by omega)]; exact ⟨by omega, by omega, by omega⟩
theorem gU {d c x : Int} (hd : 0 ≤ d ∧ d < 16777216) (hx : 0 ≤ x ∧ x < 16777216) (hc : 0 ≤ c ∧ c < 16777216) : 0 ≤ x * d ∧ x * d ≤ 281474943156225 ∧ 0 ≤ x * d + c ∧ Int.tdiv (x * d + c) 16777216 < 16777216 ∧ 0 ≤ Int.tdiv (x * d + c) 16777216 := by
 have h1 : 0 ≤ x * d := Int.mul_nonneg hx.1 hd.1
 have h2 : x * d ≤ 16777215 * 16777215 := Int.mul_le_mul (by omega) (by omega) hd.1 (by decide)
 have h3 : (16777215 * 16777215 : Int) = 281474943156225 := by decide
 rw [h3] at h2
 refine ⟨h1, h2, by omega, ?_, ?_⟩ <;> rw [Int.tdiv_eq_ediv_of_nonneg (by omega)] <;> omega
theorem eX {a x d c : Int} (ha : 0 ≤ a ∧ a < 16777216) (hd : 0 ≤ d ∧ d < 16777216) (hx : 0 ≤ x ∧ x < 16777216) (hc : 0 ≤ c ∧ c < 16777216) : 0 ≤ x * d ∧ x * d ≤ 281474943156225 ∧ 0 ≤ a + x * d + c ∧ Int.tdiv (a + x * d + c) 16777216 < 16777216 ∧ 0 ≤ Int.tdiv (a + x * d + c) 16777216 := by
 have h1 : 0 ≤ x * d := Int.mul_nonneg hx.1 hd.1
 have h2 : x * d ≤ 16777215 * 16777215 := Int.mul_le_mul (by omega) (by omega) hd.1 (by decide)
 have h3 : (16777215 * 16777215 : Int) = 281474943156225 := by decide
 rw [h3] at h2
 refine ⟨h1, h2, by omega, ?_, ?_⟩ <;> rw [Int.tdiv_eq_ediv_of_nonneg (by omega)] <;> omega
theorem aIX {acc : List Int} {k : Nat} {V b : Int} {x y : Nat} (ha : acc.length = k) (hD : Dg acc) (hV : 0 ≤ V) (hb : 0 ≤ b) (h : y ≤ x) (hI : vd acc + 16777216 ^ k * (0 - V - b) = (x : Int) - y) : vd acc = ((x - y : Nat) : Int) := by
 have h1 := aF4 hD
 rw [ha] at h1
 by_cases hz : V + b = 0
 rw [show 0 - V - b = 0 by omega, Int.mul_zero] at hI; omega
 exfalso
 have h2 : 16777216 ^ k * (0 - V - b) ≤ 16777216 ^ k * (-1) := Int.mul_le_mul_of_nonneg_left (by omega) (Int.le_of_lt (aB4 k))
 omega
theorem kW {acc : List Int} {k : Nat} {e b b' U U' V V' u v T : Int} (ha : acc.length = k) (hU : U = u + 16777216 * U') (hV : V = v + 16777216 * V') (he : e = u - b - v + 16777216 * b') (hI : vd acc + 16777216 ^ k * (U - V - b) = T) : vd (acc ++ [e]) + 16777216 ^ (k + 1) * (U' - V' - b') = T := by
 rw [mR, ha, Int.pow_succ, ← hI, hU, hV, he]
 grind
theorem aGB {l : List Int} {k : Nat} (h : k < l.length) : vd (l.take (k + 1)) = vd (l.take k) + 16777216 ^ k * l.getD k 0 := by
 have e : l.take (k + 1) = l.take k ++ [l.getD k 0] := by
  rw [List.take_add_one, List.getD_eq_getElem?_getD, List.getElem?_eq_getElem h]; rfl
 rw [e, mR, List.length_take, Nat.min_eq_left (by omega)]
theorem ints_set (l : List Int) (k : Nat) (x : Int) : (intsD l).set k [D.i x] = intsD (l.set k x) := by
 simp [intsD, intD, List.map_set]
theorem aBM (n : Nat) : List.replicate n [D.i 0] = intsD (List.replicate n 0) := by simp [intsD, intD]
theorem uL {l : List Int} {k p : Nat} {x : Int} : (l.set k x).getD p 0 = if k = p ∧ k < l.length then x else l.getD p 0 := by
 simp only [List.getD_eq_getElem?_getD, List.getElem?_set]
 by_cases h : k = p
 subst h
 by_cases hk : k < l.length
 simp [hk]
 simp [hk]
 simp [h]
theorem aLV {acc : List Int} {i j : Nat} {c s ui vj X Y : Int} (hl : i + j < acc.length) (hs : s = acc.getD (i + j) 0 + ui * vj + c) (h0 : 0 ≤ s) (hI : vd acc + 16777216 ^ (i + j) * c = X + ui * 16777216 ^ i * Y) : vd (acc.set (i + j) (Int.tmod s 16777216)) + 16777216 ^ (i + (j + 1)) * Int.tdiv s 16777216 = X + ui * 16777216 ^ i * (Y + 16777216 ^ j * vj) := by
 obtain ⟨e1, e2⟩ := kO h0
 rw [wD hl, e1, e2, show i + (j + 1) = (i + j) + 1 by omega, Int.pow_succ]
 have := Int.emod_add_mul_ediv s 16777216
 have hp : (16777216 : Int) ^ (i + j) = 16777216 ^ i * 16777216 ^ j := Int.pow_add _ _ _
 generalize s % 16777216 = r at *
 generalize s / 16777216 = q at *
 generalize acc.getD (i + j) 0 = z at *
 generalize vd acc = A at *
 generalize (16777216 : Int) ^ i = P at *
 generalize (16777216 : Int) ^ j = Q at *
 rw [hp] at hI ⊢
 grind
theorem cmp_le {x y : Nat} : cmpL (dg x) (dg y) ≤ 0 ↔ x ≤ y := by
 obtain ⟨h1, h2⟩ := xW x y
 constructor
 intro h
 by_cases h3 : cmpL (dg x) (dg y) = 0
 have := h2.1 h3; omega
 have := h1.1 (by omega); omega
 intro h
 by_cases h3 : x = y
 have := h2.2 h3; omega
 have := h1.2 (by omega); omega
theorem cmp_ge {x y : Nat} : cmpL (dg x) (dg y) ≥ 0 ↔ y ≤ x := by
 obtain ⟨h1, h2⟩ := xW x y
 constructor
 intro h
 rcases Nat.lt_or_ge x y with h3 | h3
 have := h1.2 h3; omega
 exact h3
 intro h
 by_cases h3 : cmpL (dg x) (dg y) < 0
 have := h1.1 h3; omega
 omega
theorem dg_le {n k : Nat} (h : n < 16777216 ^ k) : (dg n).length ≤ k := by
 induction k generalizing n with
 | zero =>
  have : n = 0 := by omega
  subst this; rw [dg_zero]; simp
 | succ k ih =>
  by_cases h0 : n = 0
  subst h0; rw [dg_zero]; simp
  rw [oL h0, List.length_cons]
  have := ih (n := n / 16777216) (by rw [Nat.pow_succ] at h; exact Nat.div_lt_of_lt_mul (by rw [Nat.mul_comm]; exact h))
  omega
theorem dg_lt (n : Nat) : n < 16777216 ^ (dg n).length := by
 have h := aF4 (bY n).2
 rw [(bY n).1, ← pw] at h
 exact Int.ofNat_lt.1 h
theorem aNH {y d : Nat} (hd : d < 16777216) : (dg (y * d)).length ≤ (dg y).length + 1 := by
 apply dg_le
 rw [Nat.pow_succ]
 exact Nat.mul_lt_mul'' (dg_lt y) hd
theorem aIP (r : Nat) (hl : (dg r).length ≤ 400000000) : SpG g 146 [.c (cM 1 (intsD (dg r)))] [] (.c (cS (S (nb r)))) [] := by
 have h := wW (g := g) (dg r) (bY r).2 hl
 rw [(bY r).1, Int.toNat_natCast] at h; exact h
theorem aIG {r : Nat} {c : Int} (h0 : 0 ≤ c) : vd (c :: dg r) = ((r * 16777216 + c.toNat : Nat) : Int) := by
 rw [vd, (bY r).1]; omega
theorem quo_dg {r : Nat} {c : Int} (h0 : 0 ≤ c) (h1 : c < 16777216) : Dg (c :: dg r) := Dg.cons h0 h1 (bY r).2
theorem aHF {a b : Nat} (h : a ≤ b) : (dg a).length ≤ (dg b).length := by
 rcases Nat.lt_or_ge (dg b).length (dg a).length with h1 | h1
 have := q6 h1; omega
 exact h1
theorem dg_rem {r y c : Nat} (h : r * 16777216 + c < y * 16777216) : (dg (r * 16777216 + c)).length ≤ (dg y).length + 1 := by
 apply dg_le
 rw [Nat.pow_succ]
 exact Nat.lt_of_lt_of_le h (Nat.mul_le_mul_right _ (Nat.le_of_lt (dg_lt y)))
def zq12 := And.intro @aF (And.intro @decide_eq_false_iff_not (And.intro @decide_eq_true_eq (And.intro @Go.Eng.inR.eq_1 (@maxLen.eq_1))))
def cV := And.intro @aF (And.intro @blS (And.intro @cO (@aP)))
abbrev y2 (a0 : Int) (a1 : Bool) : SV := .tup [(false, [cI a0]), (false, [cB a1])]
abbrev y3 : SV := .tup [(false, [cI 0]), (false, [cB false])]
abbrev y4 (a0 : Int) : SV := .tup [(false, [cI a0]), (false, [cB true])]
theorem zQ (n : Nat) (hl : (nb n).length ≤ 1000000000) :
  SpG g 147 [.c (cS (S (nb n)))] [] (y2 (eU n) (lN n)) [] := by
 refine aG 35 Tryz.func147 (by kernel_rfl) fun fr hG => ?_
 refine zC hG [(1, 1, kS (S (nb n)))] [1, 0, 1, 1] ((decide ((((S (nb n)).size : Int) : Int) > 8)) || ((decide ((((S (nb n)).size : Int) : Int) = 8)) && (decide ((byteAt (S (nb n)) 0 : Int) > 127)))) (⟨[zS 0 (S (nb n)), zI 2 0, zB 3 false], []⟩) (aC (jA n (by first | omega | (simp only [maxLen]; omega)) : SpG g _ _ _ _ _) (aB (by intros; first | (rw [hw, (hst (by omega)).1]; exact (hst (by omega)).2.2) | ((try simp only [zq12] at *); omega) : (decide ((((S (nb n)).size : Int) : Int) = 8)) = true → (decide ((((S (nb n)).size : Int) : Int) > 8)) = false → (0 : Int) ≤ 0 ∧ 0 < ((S (nb n)).size : Int)))) (fun hc1 => ?_) (fun hc1 => ?_)
 (try simp only [cV] at hc1)
 have hbd : ¬ n < 2 ^ 63 := int_big (by rw [show Int.toNat 0 = 0 from rfl] at hc1; omega)
 refine zR hG [] [] (y3) [] aA ?_ ?_
 rw [eU, lN, if_neg hbd]; (try simp [hbd])
 rfl
 (try simp only [cV] at hc1)
 have hbd : n < 2 ^ 63 := aMF (by have := hc1.1; omega) (by intro h8; have h2 := hc1.2; rw [show Int.toNat 0 = 0 from rfl] at h2; omega)
 refine zL hG [] [0, 1, 0, 1, 1, 1, 1] (fun (zz : Nat × Int) => match zz with | (k, v) => ((nb n).length - k, ⟨[zS 0 (S (nb n)), zI 2 0, zB 3 false, zI 4 v, zI 5 (k : Int)], []⟩, k ≤ (nb n).length ∧ v = (bR ((nb n).take k) : Int))) (0, 0) aA ?_ ?_
 exact ⟨Nat.zero_le _, rfl⟩
 rintro ⟨k, v⟩ ⟨hk, hv⟩
 have hw := x5 (nb n) (k : Int)
 have hx := aHM (nb n) (k : Int)
 have hst : k < (nb n).length → IntKind.wrap .i64 (v * 2 ^ 8) = v * 256 ∧ (bR ((nb n).take (k + 1)) : Int) = v * 256 + ((nb n).getD k 0).toNat ∧ inR (v * 256 + byteAt (S (nb n)) (k : Int)) := by
  intro hk2
  have h1 := sW hk2
  have h3 := yG (nb n) (k + 1)
  rw [f0] at h3
  have h4 := cO (nb n) (k : Int)
  rw [Int.toNat_natCast] at h4
  refine ⟨?_, by omega, by rw [h4]; unfold inR; omega⟩
  rw [wrap64]
  rfl
  unfold inR; omega
 refine zc hG [] [1, 0] (decide (((k : Int) : Int) < ((S (nb n)).size : Int))) aA (fun hc3 => ?_) (fun hc3 => ?_)
 (try simp only [cV] at hc3)
 refine zD hG [] (k + 1, IntKind.wrap .i64 (v * 2 ^ 8) + IntKind.wrap .i64 (byteAt (S (nb n)) (k : Int))) (aC (by intros; first | (rw [hw, (hst (by omega)).1]; exact (hst (by omega)).2.2) | ((try simp only [zq12] at *); omega) : (0 : Int) ≤ (k : Int) ∧ (k : Int) < ((S (nb n)).size : Int)) (aC (by intros; first | (rw [hw, (hst (by omega)).1]; exact (hst (by omega)).2.2) | ((try simp only [zq12] at *); omega) : inR ((IntKind.wrap .i64 (v * 2 ^ 8)) + (IntKind.wrap .i64 (byteAt (S (nb n)) (k : Int))))) (aB (by intros; first | (rw [hw, (hst (by omega)).1]; exact (hst (by omega)).2.2) | ((try simp only [zq12] at *); omega) : inR ((k : Int) + 1))))) ?_ ?_
 (try dsimp only); omega
 have h2 := hst (by omega)
 refine ⟨by omega, ?_⟩
 rw [hw, h2.1, h2.2.1, cO, Int.toNat_natCast]
 (try simp only [cV] at hc3)
 refine zE hG [] (.exit 0) (⟨[zI 2 0, zB 3 false, zI 4 v], []⟩) aA rfl ?_
 refine zR hG [] [] (y4 v) [] aA ?_ ?_
 rw [eU, lN, if_pos hbd, hv, show k = (nb n).length by omega, List.take_length, f0]; (try simp [hbd])
 rfl
theorem jU (n k : Nat) (hk : k ≤ 7) (hl : (nb n).length ≤ 1000000000) :
  SpG g 139 [.c (cS (S (nb n))), .c (cI (k : Int))] [] (y2 (smV n k) (smK n k)) [] := by
 refine aG 15 Tryz.func139 (by kernel_rfl) fun fr hG => ?_
 refine zC hG [(1, 1, kS (S (nb n)))] [1, 0, 1] (decide ((((S (nb n)).size : Int) : Int) > (k : Int))) (⟨[zS 0 (S (nb n)), zI 4 0, zB 5 false], []⟩) (aB (jA n (by first | omega | (simp only [maxLen]; omega)) : SpG g _ _ _ _ _)) (fun hc1 => ?_) (fun hc1 => ?_)
 (try simp only [cV] at hc1)
 refine zR hG [] [] (y3) [] aA ?_ ?_
 have h1 : ¬ n < 256 ^ k := by have := nb_ge (n := n) (k := k); have h2 := this.1 (by omega); omega
 rw [smV, smK, if_neg h1]; simp [h1]
 rfl
 (try simp only [cV] at hc1)
 refine zR hG [(3, 1, kC (y2 (eU n) (lN n)))] [] (y2 (eU n) (lN n)) [] (aB (zQ n (by first | omega | (simp only [maxLen]; omega)) : SpG g _ _ _ _ _)) ?_ ?_
 have h1 : n < 256 ^ k := by
  rcases Nat.lt_or_ge n (256 ^ k) with h | h
  exact h
  have := (nb_ge (n := n) (k := k)).2 h; omega
 rw [(aKG hk h1).1, (aKG hk h1).2]
 rfl
def zq14 := And.intro @decide_eq_true_eq (And.intro @Go.Eng.inR.eq_1 (@aP))
theorem aHJ (u v : List Int) (hu : Dg u) (hv : Dg v) (hul : u.length ≤ 1000000000) (hvl : v.length ≤ 1000000000) :
  SpG g 142 [.c (cM 1 (intsD u)), .c (cM 1 (intsD v))] [] (.c (cI (cmpL u v))) [] := by
 refine aG 41 Tryz.func142 (by kernel_rfl) fun fr hG => ?_
 refine zC hG [] [1, 0, 1] (!decide ((((intsD u).length : Int) : Int) = ((intsD v).length : Int))) (⟨[zM 0 1 (intsD u), zM 1 1 (intsD v), zI 4 0], []⟩) aA (fun hc1 => ?_) (fun hc1 => ?_)
 (try simp only [cV] at hc1)
 refine zR hG [] [] (.c (cI (((intsD u).length : Int) - ((intsD v).length : Int)))) [] (aB (by intros; (try have h1 := hdu (by omega)); (try have h2 := hdv (by omega)); (try simp only [zq14] at *); omega : inR (((intsD u).length : Int) - ((intsD v).length : Int)))) ?_ ?_
 rw [cmpL, if_neg (by omega), aP, aP]
 rfl
 (try simp only [cV] at hc1)
 refine zL hG [] [0, 1, 0, 1, 1] (fun (zz : Int) => match zz with | k => ((k + 1).toNat, ⟨[zM 0 1 (intsD u), zM 1 1 (intsD v), zI 4 0, zI 5 k], []⟩, -1 ≤ k ∧ k < u.length ∧ td (u.drop (k + 1).toNat) (v.drop (k + 1).toNat) = 0)) (((intsD u).length : Int) - 1) (aB (by intros; (try have h1 := hdu (by omega)); (try have h2 := hdv (by omega)); (try simp only [zq14] at *); omega : inR (((intsD u).length : Int) - 1))) ?_ ?_
 rw [aP]
 refine ⟨by omega, by omega, ?_⟩
 rw [List.drop_eq_nil_of_le (by omega)]; rfl
 rintro k ⟨hk1, hk2, ht⟩
 have hat : 0 ≤ k → td (u.drop k.toNat) (v.drop k.toNat) = u.getD k.toNat 0 - v.getD k.toNat 0 := fun h0 => td_at (by omega) (by omega) (by rw [show k.toNat + 1 = (k + 1).toNat by omega]; exact ht)
 have hdu : 0 ≤ k → 0 ≤ u.getD k.toNat 0 ∧ u.getD k.toNat 0 < 16777216 := fun h0 => hu.at (by omega)
 have hdv : 0 ≤ k → 0 ≤ v.getD k.toNat 0 ∧ v.getD k.toNat 0 < 16777216 := fun h0 => hv.at (by omega)
 refine zc hG [] [1, 0] (decide ((k : Int) ≥ 0)) aA (fun hc3 => ?_) (fun hc3 => ?_)
 (try simp only [cV] at hc3)
 refine zc hG [(6, 2, .elem (intD ((u).getD (k : Int).toNat 0))), (6, 6, .elem (intD ((v).getD (k : Int).toNat 0)))] [1, 0, 0, 1] (!decide (((u).getD (k : Int).toNat 0 : Int) = ((v).getD (k : Int).toNat 0))) (aC (by intros; exact aY _ (by omega) (by (try simp only [lQ] at *); omega) : (0 : Int) ≤ k ∧ (intsD u)[(k : Int).toNat]? = some (intD ((u).getD (k : Int).toNat 0))) (aB (by intros; exact aY _ (by omega) (by (try simp only [lQ] at *); omega) : (0 : Int) ≤ k ∧ (intsD v)[(k : Int).toNat]? = some (intD ((v).getD (k : Int).toNat 0))))) (fun hc4 => ?_) (fun hc4 => ?_)
 (try simp only [cV] at hc4)
 refine zE hG [(7, 2, .elem (intD ((u).getD (k : Int).toNat 0))), (7, 6, .elem (intD ((v).getD (k : Int).toNat 0)))] .ret (⟨[zI 4 (((u).getD (k : Int).toNat 0) - ((v).getD (k : Int).toNat 0))], []⟩) (aC (by intros; exact aY _ (by omega) (by (try simp only [lQ] at *); omega) : (0 : Int) ≤ k ∧ (intsD u)[(k : Int).toNat]? = some (intD ((u).getD (k : Int).toNat 0))) (aC (by intros; exact aY _ (by omega) (by (try simp only [lQ] at *); omega) : (0 : Int) ≤ k ∧ (intsD v)[(k : Int).toNat]? = some (intD ((v).getD (k : Int).toNat 0))) (aB (by intros; (try have h1 := hdu (by omega)); (try have h2 := hdv (by omega)); (try simp only [zq14] at *); omega : inR (((u).getD (k : Int).toNat 0) - ((v).getD (k : Int).toNat 0)))))) rfl ?_
 refine zR hG [] [] (.c (cI (((u).getD (k : Int).toNat 0) - ((v).getD (k : Int).toNat 0)))) [] aA ?_ ?_
 rw [cmpL, if_pos (by omega), aGA k.toNat (by rw [hat (by omega)]; omega), hat (by omega)]
 rfl
 (try simp only [cV] at hc4)
 refine zD hG [] (k - 1) (aB (by intros; (try have h1 := hdu (by omega)); (try have h2 := hdv (by omega)); (try simp only [zq14] at *); omega : inR (k - 1))) ?_ ?_
 (try dsimp only); omega
 refine ⟨by omega, by omega, ?_⟩
 rw [show (k - 1 + 1).toNat = k.toNat by omega, hat (by omega)]; omega
 (try simp only [cV] at hc3)
 refine zE hG [] (.exit 0) (⟨[zI 4 0], []⟩) aA rfl ?_
 refine zR hG [] [] (.c (cI 0)) [] aA ?_ ?_
 rw [show (k + 1).toNat = 0 by omega, List.drop_zero, List.drop_zero] at ht
 rw [cmpL, if_pos (by omega), ht]
 rfl
def cF := And.intro @List.length_append.{0} (And.intro @List.length_cons.{0} (And.intro @List.length_nil.{0} (And.intro @decide_eq_true_eq (And.intro @Go.Eng.inR.eq_1 (@aP)))))
theorem aA6 (y : Nat) (d : Int) (hd : 0 ≤ d ∧ d < 16777216) (hl : (dg y).length ≤ 400000000) :
  SpG g 145 [.c (cM 1 (intsD (dg y))), .c (cI d)] [] (.c (cM 1 (intsD (dg (y * d.toNat))))) [] := by
 refine aG 35 Tryz.func145 (by kernel_rfl) fun fr hG => ?_
 refine bN 0 rfl fun hl0 => ?_
 refine zA hG [] [0, 1, 0, 1, 1, 1] (⟨[zM 0 1 (intsD (dg y)), zI 1 d, zN 4, zN 5, zI 6 0, zI 7 0], []⟩) [(5, 9001, 3, 1)] [] (fun (zz : Nat × Int × List (List D) × List Int) => match zz with | (k, c, es, acc) => ((dg y).length - k, ⟨[zM 0 1 (intsD (dg y)), zI 1 d, zN 4, zY 5 9001 0, zI 6 c, zI 7 (k : Int)], [(9001, .arr 0 3 1 (es))]⟩, k ≤ (dg y).length ∧ acc.length = k ∧ es = intsD acc ∧ Dg acc ∧ (0 ≤ c ∧ c < 16777216) ∧ vd acc + 16777216 ^ k * (c + vd ((dg y).drop k) * d) = y * d)) (0, 0, [], []) aA ?_ ?_
 refine ⟨Nat.zero_le _, rfl, rfl, Dg.nil, by omega, ?_⟩
 rw [List.drop_zero, (bY y).1, vd]; simp
 rintro ⟨k, c, es, acc⟩ ⟨hk, ha, hes, hD, hc, hI⟩
 have hlen : es.length = k := by rw [hes, aP, ha]
 have hyk : k < (dg y).length → 0 ≤ (dg y).getD k 0 ∧ (dg y).getD k 0 < 16777216 := fun h => (bY y).2.at h
 refine zc hG [] [1, 0] (decide (((k : Int) : Int) < ((intsD (dg y)).length : Int))) aA (fun hc2 => ?_) (fun hc2 => ?_)
 (try simp only [cV] at hc2)
 refine zD hG [(6, 2, .elem (intD ((dg y).getD k 0)))] (k + 1, Int.tdiv ((dg y).getD k 0 * d + c) 16777216, es ++ [[D.i (Int.tmod ((dg y).getD k 0 * d + c) 16777216)]], acc ++ [Int.tmod ((dg y).getD k 0 * d + c) 16777216]) (aC (by intros; exact aY _ (by omega) (by (try simp only [lQ] at *); omega) : (0 : Int) ≤ (k : Int) ∧ (intsD (dg y))[k]? = some (intD ((dg y).getD k 0))) (aC (by intros; (try have hb := gU hd (hyk (by omega)) hc); (try simp only [cF] at *); omega : inR (((dg y).getD k 0) * d)) (aC (by intros; (try have hb := gU hd (hyk (by omega)) hc); (try simp only [cF] at *); omega : inR ((((dg y).getD k 0) * d) + c)) (aC (by intros; (try have hb := gU hd (hyk (by omega)) hc); (try simp only [cF] at *); omega : 16777216 ≠ (0 : Int)) (aC (by intros; (try have hb := gU hd (hyk (by omega)) hc); (try simp only [cF] at *); omega : ((es).length + (([[.i (Int.tmod ((((dg y).getD k 0) * d) + c) 16777216)]] : List (List D))).length) * (8 + 1) ≤ 140737488355328) (aC (by intros; (try have hb := gU hd (hyk (by omega)) hc); (try simp only [cF] at *); omega : 16777216 ≠ (0 : Int) ∧ inR (Int.tdiv ((((dg y).getD k 0) * d) + c) 16777216)) (aB (by intros; (try have hb := gU hd (hyk (by omega)) hc); (try simp only [cF] at *); omega : inR ((k : Int) + 1))))))))) ?_ ?_
 (try dsimp only); omega
 have hb := gU hd (hyk (by omega)) hc
 have hm := qT hb.2.2.1
 refine ⟨by omega, by simp [ha], by rw [hes, d7], hD.snoc hm.1 hm.2, ⟨hb.2.2.2.2, hb.2.2.2.1⟩, ?_⟩
 have hst := i8 (s := (dg y).getD k 0 * d + c) (X' := vd ((dg y).drop (k + 1)) * d) ha hb.2.2.1 (by rw [drop_at (by omega), Int.add_mul]; grind) hI
 exact hst
 (try simp only [cV] at hc2)
 refine zE hG [] (.exit 0) (⟨[zN 4, zY 5 9001 0, zI 6 c], [(9001, .arr 0 3 1 (es))]⟩) aA rfl ?_
 exact zr hG [(9, 3, .elem []), (9, 4, kC (.c (cM 1 (intsD (dg (y * d.toNat))))))] [] (aC (by intros; (try have hb := gU hd (hyk (by omega)) hc); (try simp only [cF] at *); omega : ((es).length + ([[.i c]] : List (List D)).length) * (8 + 1) ≤ 140737488355328) (aB ((yI (es := es ++ ([[.i c]] : List (List D))) (l := acc ++ [c]) (n := y * d.toNat) (by rw [hes, d7]) (hD.snoc hc.1 hc.2) (by
 have hk9 : k = (dg y).length := by omega
 rw [hk9, gB (Nat.le_refl _), Int.zero_mul, Int.add_zero] at hI
 rw [mR, ha, hk9, hI]; push_cast; rw [show ((d.toNat : Nat) : Int) = d by omega]) : SpG g _ _ _ _ _))))
theorem aLZ (x y : Nat) (h : y ≤ x) (hl : (dg x).length ≤ 400000000) (hl2 : (dg y).length ≤ 400000000) :
  SpG g 144 [.c (cM 1 (intsD (dg x))), .c (cM 1 (intsD (dg y)))] [] (.c (cM 1 (intsD (dg (x - y))))) [] := by
 refine aG 41 Tryz.func144 (by kernel_rfl) fun fr hG => ?_
 refine bN 0 rfl fun hl0 => ?_
 refine bN 1 rfl fun hl1 => ?_
 refine zA hG [] [0, 1, 0, 1, 1, 1] (⟨[zM 0 1 (intsD (dg x)), zM 1 1 (intsD (dg y)), zN 4, zN 5, zI 6 0, zI 7 0], []⟩) [(5, 9001, 3, 1)] [] (fun (zz : Nat × Int × List (List D) × List Int) => match zz with | (k, b, es, acc) => ((dg x).length - k, ⟨[zM 0 1 (intsD (dg x)), zM 1 1 (intsD (dg y)), zN 4, zY 5 9001 0, zI 6 b, zI 7 (k : Int)], [(9001, .arr 0 3 1 (es))]⟩, k ≤ (dg x).length ∧ acc.length = k ∧ es = intsD acc ∧ Dg acc ∧ (0 ≤ b ∧ b ≤ 1) ∧ vd acc + 16777216 ^ k * (vd ((dg x).drop k) - vd ((dg y).drop k) - b) = (x : Int) - y)) (0, 0, [], []) aA ?_ ?_
 refine ⟨Nat.zero_le _, rfl, rfl, Dg.nil, by omega, ?_⟩
 rw [List.drop_zero, List.drop_zero, (bY y).1, (bY x).1, vd]; simp
 rintro ⟨k, b, es, acc⟩ ⟨hk, ha, hes, hD, hb, hI⟩
 have hlen : es.length = k := by rw [hes, aP, ha]
 obtain ⟨hu1, hu2, hu3⟩ := aHN (bY x).2 k
 obtain ⟨hv1, hv2, hv3⟩ := aHN (bY y).2 k
 have hxk : k < (dg x).length → 0 ≤ (dg x).getD k 0 ∧ (dg x).getD k 0 < 16777216 := fun h => (bY x).2.at h
 have hyk : k < (dg y).length → 0 ≤ (dg y).getD k 0 ∧ (dg y).getD k 0 < 16777216 := fun h => (bY y).2.at h
 refine zc hG [] [1, 0] (decide (((k : Int) : Int) < ((intsD (dg x)).length : Int))) aA (fun hc2 => ?_) (fun hc2 => ?_)
 (try simp only [cV] at hc2)
 refine zC hG [(6, 2, .elem (intD ((dg x).getD k 0)))] [1, 0, 1, 0, 0, 1] (decide (((k : Int) : Int) < ((intsD (dg y)).length : Int))) (⟨[zM 0 1 (intsD (dg x)), zM 1 1 (intsD (dg y)), zN 4, zY 5 9001 0, zI 6 b, zI 7 (k : Int), zI 8 (((dg x).getD k 0) - b)], [(9001, .arr 0 3 1 (es))]⟩) (aC (by intros; exact aY _ (by omega) (by (try simp only [lQ] at *); omega) : (0 : Int) ≤ (k : Int) ∧ (intsD (dg x))[k]? = some (intD ((dg x).getD k 0))) (aB (by intros; (try have hx9 := hxk (by omega)); (try have hy9 := hyk (by omega)); (try simp only [cF] at *); omega : inR (((dg x).getD k 0) - b)))) (fun hc3 => ?_) (fun hc3 => ?_)
 (try simp only [cV] at hc3)
 refine zC hG [(8, 3, .elem (intD ((dg y).getD k 0)))] [1, 0, 1, 1, 1, 0, 0, 1] (decide (((((dg x).getD k 0) - b) - ((dg y).getD k 0) : Int) < 0)) (⟨[zM 0 1 (intsD (dg x)), zM 1 1 (intsD (dg y)), zN 4, zY 5 9001 0, zI 6 0, zI 7 (k : Int), zI 8 ((((dg x).getD k 0) - b) - ((dg y).getD k 0))], [(9001, .arr 0 3 1 (es))]⟩) (aC (by intros; exact aY _ (by omega) (by (try simp only [lQ] at *); omega) : (0 : Int) ≤ (k : Int) ∧ (intsD (dg y))[k]? = some (intD ((dg y).getD k 0))) (aB (by intros; (try have hx9 := hxk (by omega)); (try have hy9 := hyk (by omega)); (try simp only [cF] at *); omega : inR ((((dg x).getD k 0) - b) - ((dg y).getD k 0))))) (fun hc4 => ?_) (fun hc4 => ?_)
 (try simp only [cV] at hc4)
 refine zD hG [] (k + 1, 1, es ++ [[D.i ((((dg x).getD k 0 - b) - (dg y).getD k 0) + 16777216)]], acc ++ [(((dg x).getD k 0 - b) - (dg y).getD k 0) + 16777216]) (aC (by intros; (try have hx9 := hxk (by omega)); (try have hy9 := hyk (by omega)); (try simp only [cF] at *); omega : inR (((((dg x).getD k 0) - b) - ((dg y).getD k 0)) + 16777216)) (aC (by intros; (try have hx9 := hxk (by omega)); (try have hy9 := hyk (by omega)); (try simp only [cF] at *); omega : ((es).length + (([[.i (((((dg x).getD k 0) - b) - ((dg y).getD k 0)) + 16777216)]] : List (List D))).length) * (8 + 1) ≤ 140737488355328) (aB (by intros; (try have hx9 := hxk (by omega)); (try have hy9 := hyk (by omega)); (try simp only [cF] at *); omega : inR ((k : Int) + 1))))) ?_ ?_
 (try dsimp only); omega
 rw [if_pos (by omega)] at hu1 hu2 hu3
 rw [if_pos (by omega)] at hv1 hv2 hv3
 refine ⟨by omega, by simp [ha], by rw [hes, d7], hD.snoc (by omega) (by omega), by omega, ?_⟩
 exact kW (e := (((dg x).getD k 0 - b) - (dg y).getD k 0) + 16777216) (b' := 1) ha hu1 hv1 (by omega) hI
 (try simp only [cV] at hc4)
 refine zD hG [] (k + 1, 0, es ++ [[D.i (((dg x).getD k 0 - b) - (dg y).getD k 0)]], acc ++ [((dg x).getD k 0 - b) - (dg y).getD k 0]) (aC (by intros; (try have hx9 := hxk (by omega)); (try have hy9 := hyk (by omega)); (try simp only [cF] at *); omega : ((es).length + (([[.i ((((dg x).getD k 0) - b) - ((dg y).getD k 0))]] : List (List D))).length) * (8 + 1) ≤ 140737488355328) (aB (by intros; (try have hx9 := hxk (by omega)); (try have hy9 := hyk (by omega)); (try simp only [cF] at *); omega : inR ((k : Int) + 1)))) ?_ ?_
 (try dsimp only); omega
 rw [if_pos (by omega)] at hu1 hu2 hu3
 rw [if_pos (by omega)] at hv1 hv2 hv3
 refine ⟨by omega, by simp [ha], by rw [hes, d7], hD.snoc (by omega) (by omega), by omega, ?_⟩
 exact kW (e := ((dg x).getD k 0 - b) - (dg y).getD k 0) (b' := 0) ha hu1 hv1 (by omega) hI
 (try simp only [cV] at hc3)
 refine zC hG [] [1, 0, 1, 1, 1, 0, 0, 1] (decide ((((dg x).getD k 0) - b : Int) < 0)) (⟨[zM 0 1 (intsD (dg x)), zM 1 1 (intsD (dg y)), zN 4, zY 5 9001 0, zI 6 0, zI 7 (k : Int), zI 8 (((dg x).getD k 0) - b)], [(9001, .arr 0 3 1 (es))]⟩) aA (fun hc5 => ?_) (fun hc5 => ?_)
 (try simp only [cV] at hc5)
 refine zD hG [] (k + 1, 1, es ++ [[D.i (((dg x).getD k 0 - b) + 16777216)]], acc ++ [((dg x).getD k 0 - b) + 16777216]) (aC (by intros; (try have hx9 := hxk (by omega)); (try have hy9 := hyk (by omega)); (try simp only [cF] at *); omega : inR ((((dg x).getD k 0) - b) + 16777216)) (aC (by intros; (try have hx9 := hxk (by omega)); (try have hy9 := hyk (by omega)); (try simp only [cF] at *); omega : ((es).length + (([[.i ((((dg x).getD k 0) - b) + 16777216)]] : List (List D))).length) * (8 + 1) ≤ 140737488355328) (aB (by intros; (try have hx9 := hxk (by omega)); (try have hy9 := hyk (by omega)); (try simp only [cF] at *); omega : inR ((k : Int) + 1))))) ?_ ?_
 (try dsimp only); omega
 rw [if_pos (by omega)] at hu1 hu2 hu3
 rw [if_neg (by omega)] at hv1 hv2 hv3
 refine ⟨by omega, by simp [ha], by rw [hes, d7], hD.snoc (by omega) (by omega), by omega, ?_⟩
 exact kW (e := ((dg x).getD k 0 - b) + 16777216) (b' := 1) ha hu1 hv1 (by omega) hI
 (try simp only [cV] at hc5)
 refine zD hG [] (k + 1, 0, es ++ [[D.i ((dg x).getD k 0 - b)]], acc ++ [(dg x).getD k 0 - b]) (aC (by intros; (try have hx9 := hxk (by omega)); (try have hy9 := hyk (by omega)); (try simp only [cF] at *); omega : ((es).length + (([[.i (((dg x).getD k 0) - b)]] : List (List D))).length) * (8 + 1) ≤ 140737488355328) (aB (by intros; (try have hx9 := hxk (by omega)); (try have hy9 := hyk (by omega)); (try simp only [cF] at *); omega : inR ((k : Int) + 1)))) ?_ ?_
 (try dsimp only); omega
 rw [if_pos (by omega)] at hu1 hu2 hu3
 rw [if_neg (by omega)] at hv1 hv2 hv3
 refine ⟨by omega, by simp [ha], by rw [hes, d7], hD.snoc (by omega) (by omega), by omega, ?_⟩
 exact kW (e := (dg x).getD k 0 - b) (b' := 0) ha hu1 hv1 (by omega) hI
 (try simp only [cV] at hc2)
 refine zE hG [] (.exit 0) (⟨[zN 4, zY 5 9001 0], [(9001, .arr 0 3 1 (es))]⟩) aA rfl ?_
 refine fU hG (⟨[zN 4, zM 5 1 (es)], []⟩) (by kernel_rfl) ?_
 exact zr hG [(14, 1, kC (.c (cM 1 (intsD (dg (x - y))))))] [] (aB ((yI (es := es) (l := acc) (n := x - y) hes hD (by
 have hk9 : k = (dg x).length := by omega
 have hz : vd ((dg x).drop k) = 0 := gB (by omega)
 rw [hz] at hI
 exact aIX ha hD (jT ((bY y).2.drop k)) hb.1 h hI) : SpG g _ _ _ _ _)))
theorem aAT (x y : Nat) (hx : (nb x).length ≤ 900000000) (hy : (nb y).length ≤ 900000000) :
  SpG g 91 [.c (cS (S (nb x))), .c (cS (S (nb y)))] [] (.c (cS (S (nb (x + y))))) [] := by
 have lx := q7 (n := x) (k := 300000000) (by omega)
 have ly := q7 (n := y) (k := 300000000) (by omega)
 have hsx : 0 ≤ smV x 7 ∧ smV x 7 < 72057594037927936 := by unfold smV; split <;> omega
 have hsy : 0 ≤ smV y 7 ∧ smV y 7 < 72057594037927936 := by unfold smV; split <;> omega
 refine aG 83 Tryz.func91 (by kernel_rfl) fun fr hG => ?_
 refine zC hG [(1, 1, kC (y2 (smV x 7) (smK x 7))), (2, 1, kC (y2 (smV y 7) (smK y 7)))] [1, 0, 1, 1, 1] ((smK x 7) && (smK y 7)) (⟨[zS 0 (S (nb x)), zS 1 (S (nb y)), zS 4 (S []), zI 5 (smV x 7), zI 7 (smV y 7)], []⟩) (aC (jU x 7 (by decide) (by omega) : SpG g _ _ _ _ _) (aB (jU y 7 (by decide) (by omega) : SpG g _ _ _ _ _))) (fun hc1 => ?_) (fun hc1 => ?_)
 (try simp only [cV] at hc1)
 refine zR hG [(4, 3, kS (S (nb ((smV x 7) + (smV y 7)).toNat)))] [] (.c (cS (S (nb ((smV x 7) + (smV y 7)).toNat)))) [] (aC (by intros; (try have hx9 := hxk (by omega)); (try have hy9 := hyk (by omega)); (try simp only [cF] at *); first | omega | (rw [bF] <;> omega) : inR ((smV x 7) + (smV y 7))) (aB (lH ((smV x 7) + (smV y 7)) (by omega) : SpG g _ _ _ _ _))) ?_ ?_
 have h1 : x < 256 ^ 7 ∧ y < 256 ^ 7 := by simpa [smK] using hc1
 have e1 : smV x 7 = x := if_pos h1.1
 have e2 : smV y 7 = y := if_pos h1.2
 rw [e1, e2, show ((x : Int) + y).toNat = x + y by omega]
 rfl
 (try simp only [cV] at hc1)
 refine zA hG [(5, 1, kC (.c (cM 1 (intsD (dg x))))), (6, 1, kC (.c (cM 1 (intsD (dg y)))))] [0, 1, 0, 1, 1, 1, 1, 1, 1, 1, 1] (⟨[zS 4 (S []), zM 9 1 (intsD (dg x)), zM 10 1 (intsD (dg y)), zN 11, zI 12 0, zI 13 0], []⟩) [(11, 9001, 3, 1)] [] (fun (zz : Nat × Int × List (List D) × List Int) => match zz with | (k, c, es, acc) => ((max (dg x).length (dg y).length) + 1 - k, ⟨[zS 4 (S []), zM 9 1 (intsD (dg x)), zM 10 1 (intsD (dg y)), zY 11 9001 0, zI 12 c, zI 13 (k : Int)], [(9001, .arr 0 3 1 (es))]⟩, k ≤ (max (dg x).length (dg y).length) + 1 ∧ (k = (max (dg x).length (dg y).length) + 1 → c = 0) ∧ acc.length = k ∧ es = intsD acc ∧ Dg acc ∧ (0 ≤ c ∧ c ≤ 1) ∧ vd acc + 16777216 ^ k * (c + vd ((dg x).drop k) + vd ((dg y).drop k)) = (x : Int) + y)) (0, 0, [], []) (aC (qP x (by omega) : SpG g _ _ _ _ _) (aB (qP y (by omega) : SpG g _ _ _ _ _))) ?_ ?_
 refine ⟨Nat.zero_le _, by omega, rfl, rfl, Dg.nil, by omega, ?_⟩
 rw [List.drop_zero, List.drop_zero, (bY y).1, (bY x).1, vd]; simp
 rintro ⟨k, c, es, acc⟩ ⟨hk, hkc, ha, hes, hD, hc, hI⟩
 have hlen : es.length = k := by rw [hes, aP, ha]
 obtain ⟨hu1, hu2, hu3⟩ := aHN (bY x).2 k
 obtain ⟨hv1, hv2, hv3⟩ := aHN (bY y).2 k
 have hxk : k < (dg x).length → 0 ≤ (dg x).getD k 0 ∧ (dg x).getD k 0 < 16777216 := fun h => (bY x).2.at h
 have hyk : k < (dg y).length → 0 ≤ (dg y).getD k 0 ∧ (dg y).getD k 0 < 16777216 := fun h => (bY y).2.at h
 refine zc hG [] [1, 0] (((decide (((k : Int) : Int) < ((intsD (dg x)).length : Int))) || (decide (((k : Int) : Int) < ((intsD (dg y)).length : Int)))) || (decide ((c : Int) > 0))) aA (fun hc3 => ?_) (fun hc3 => ?_)
 (try simp only [cV] at hc3)
 refine zC hG [] [1, 0, 1, 0, 0, 1] (decide (((k : Int) : Int) < ((intsD (dg x)).length : Int))) (⟨[zS 4 (S []), zM 9 1 (intsD (dg x)), zM 10 1 (intsD (dg y)), zY 11 9001 0, zI 12 c, zI 13 (k : Int), zI 14 c], [(9001, .arr 0 3 1 (es))]⟩) aA (fun hc4 => ?_) (fun hc4 => ?_)
 (try simp only [cV] at hc4)
 refine zC hG [(14, 3, .elem (intD ((dg x).getD k 0)))] [1, 0, 1, 1, 0, 0, 1] (decide (((k : Int) : Int) < ((intsD (dg y)).length : Int))) (⟨[zS 4 (S []), zM 9 1 (intsD (dg x)), zM 10 1 (intsD (dg y)), zY 11 9001 0, zI 12 c, zI 13 (k : Int), zI 14 (c + ((dg x).getD k 0))], [(9001, .arr 0 3 1 (es))]⟩) (aC (by intros; exact aY _ (by omega) (by (try simp only [lQ] at *); omega) : (0 : Int) ≤ (k : Int) ∧ (intsD (dg x))[k]? = some (intD ((dg x).getD k 0))) (aB (by intros; (try have hx9 := hxk (by omega)); (try have hy9 := hyk (by omega)); (try simp only [cF] at *); first | omega | (rw [bF] <;> omega) : inR (c + ((dg x).getD k 0))))) (fun hc5 => ?_) (fun hc5 => ?_)
 (try simp only [cV] at hc5)
 refine zD hG [(16, 3, .elem (intD ((dg y).getD k 0)))] (k + 1, Int.tdiv ((c + (dg x).getD k 0) + (dg y).getD k 0) 16777216, es ++ [[D.i (Int.tmod ((c + (dg x).getD k 0) + (dg y).getD k 0) 16777216)]], acc ++ [Int.tmod ((c + (dg x).getD k 0) + (dg y).getD k 0) 16777216]) (aC (by intros; exact aY _ (by omega) (by (try simp only [lQ] at *); omega) : (0 : Int) ≤ (k : Int) ∧ (intsD (dg y))[k]? = some (intD ((dg y).getD k 0))) (aC (by intros; (try have hx9 := hxk (by omega)); (try have hy9 := hyk (by omega)); (try simp only [cF] at *); first | omega | (rw [bF] <;> omega) : inR ((c + ((dg x).getD k 0)) + ((dg y).getD k 0))) (aC (by intros; (try have hx9 := hxk (by omega)); (try have hy9 := hyk (by omega)); (try simp only [cF] at *); first | omega | (rw [bF] <;> omega) : 16777216 ≠ (0 : Int)) (aC (by intros; (try have hx9 := hxk (by omega)); (try have hy9 := hyk (by omega)); (try simp only [cF] at *); first | omega | (rw [bF] <;> omega) : ((es).length + (([[.i (Int.tmod ((c + ((dg x).getD k 0)) + ((dg y).getD k 0)) 16777216)]] : List (List D))).length) * (8 + 1) ≤ 140737488355328) (aC (by intros; (try have hx9 := hxk (by omega)); (try have hy9 := hyk (by omega)); (try simp only [cF] at *); first | omega | (rw [bF] <;> omega) : 16777216 ≠ (0 : Int) ∧ inR (Int.tdiv ((c + ((dg x).getD k 0)) + ((dg y).getD k 0)) 16777216)) (aB (by intros; (try have hx9 := hxk (by omega)); (try have hy9 := hyk (by omega)); (try simp only [cF] at *); first | omega | (rw [bF] <;> omega) : inR ((k : Int) + 1)))))))) ?_ ?_
 (try dsimp only); omega
 rw [if_pos (by omega)] at hu1 hu2 hu3
 rw [if_pos (by omega)] at hv1 hv2 hv3
 have hm := qT (s := (c + (dg x).getD k 0) + (dg y).getD k 0) (by omega)
 have hq := (kO (s := (c + (dg x).getD k 0) + (dg y).getD k 0) (by omega)).2
 refine ⟨by omega, by omega, by simp [ha], by rw [hes, d7], hD.snoc hm.1 hm.2, by omega, ?_⟩
 have hst := i8 (s := (c + (dg x).getD k 0) + (dg y).getD k 0) (X' := vd ((dg x).drop (k + 1)) + vd ((dg y).drop (k + 1))) ha (by omega) (by rw [hu1, hv1]; omega) hI
 rw [← Int.add_assoc] at hst; exact hst
 (try simp only [cV] at hc5)
 refine zD hG [] (k + 1, Int.tdiv (c + (dg x).getD k 0) 16777216, es ++ [[D.i (Int.tmod (c + (dg x).getD k 0) 16777216)]], acc ++ [Int.tmod (c + (dg x).getD k 0) 16777216]) (aC (by intros; (try have hx9 := hxk (by omega)); (try have hy9 := hyk (by omega)); (try simp only [cF] at *); first | omega | (rw [bF] <;> omega) : 16777216 ≠ (0 : Int)) (aC (by intros; (try have hx9 := hxk (by omega)); (try have hy9 := hyk (by omega)); (try simp only [cF] at *); first | omega | (rw [bF] <;> omega) : ((es).length + (([[.i (Int.tmod (c + ((dg x).getD k 0)) 16777216)]] : List (List D))).length) * (8 + 1) ≤ 140737488355328) (aC (by intros; (try have hx9 := hxk (by omega)); (try have hy9 := hyk (by omega)); (try simp only [cF] at *); first | omega | (rw [bF] <;> omega) : 16777216 ≠ (0 : Int) ∧ inR (Int.tdiv (c + ((dg x).getD k 0)) 16777216)) (aB (by intros; (try have hx9 := hxk (by omega)); (try have hy9 := hyk (by omega)); (try simp only [cF] at *); first | omega | (rw [bF] <;> omega) : inR ((k : Int) + 1)))))) ?_ ?_
 (try dsimp only); omega
 rw [if_pos (by omega)] at hu1 hu2 hu3
 rw [if_neg (by omega)] at hv1 hv2 hv3
 have hm := qT (s := c + (dg x).getD k 0) (by omega)
 have hq := (kO (s := c + (dg x).getD k 0) (by omega)).2
 refine ⟨by omega, by omega, by simp [ha], by rw [hes, d7], hD.snoc hm.1 hm.2, by omega, ?_⟩
 have hst := i8 (s := c + (dg x).getD k 0) (X' := vd ((dg x).drop (k + 1)) + vd ((dg y).drop (k + 1))) ha (by omega) (by rw [hu1, hv1]; omega) hI
 rw [← Int.add_assoc] at hst; exact hst
 (try simp only [cV] at hc4)
 refine zc hG [] [1, 0, 1, 1, 0, 0, 1] (decide (((k : Int) : Int) < ((intsD (dg y)).length : Int))) aA (fun hc6 => ?_) (fun hc6 => ?_)
 (try simp only [cV] at hc6)
 refine zD hG [(16, 3, .elem (intD ((dg y).getD k 0)))] (k + 1, Int.tdiv (c + (dg y).getD k 0) 16777216, es ++ [[D.i (Int.tmod (c + (dg y).getD k 0) 16777216)]], acc ++ [Int.tmod (c + (dg y).getD k 0) 16777216]) (aC (by intros; exact aY _ (by omega) (by (try simp only [lQ] at *); omega) : (0 : Int) ≤ (k : Int) ∧ (intsD (dg y))[k]? = some (intD ((dg y).getD k 0))) (aC (by intros; (try have hx9 := hxk (by omega)); (try have hy9 := hyk (by omega)); (try simp only [cF] at *); first | omega | (rw [bF] <;> omega) : inR (c + ((dg y).getD k 0))) (aC (by intros; (try have hx9 := hxk (by omega)); (try have hy9 := hyk (by omega)); (try simp only [cF] at *); first | omega | (rw [bF] <;> omega) : 16777216 ≠ (0 : Int)) (aC (by intros; (try have hx9 := hxk (by omega)); (try have hy9 := hyk (by omega)); (try simp only [cF] at *); first | omega | (rw [bF] <;> omega) : ((es).length + (([[.i (Int.tmod (c + ((dg y).getD k 0)) 16777216)]] : List (List D))).length) * (8 + 1) ≤ 140737488355328) (aC (by intros; (try have hx9 := hxk (by omega)); (try have hy9 := hyk (by omega)); (try simp only [cF] at *); first | omega | (rw [bF] <;> omega) : 16777216 ≠ (0 : Int) ∧ inR (Int.tdiv (c + ((dg y).getD k 0)) 16777216)) (aB (by intros; (try have hx9 := hxk (by omega)); (try have hy9 := hyk (by omega)); (try simp only [cF] at *); first | omega | (rw [bF] <;> omega) : inR ((k : Int) + 1)))))))) ?_ ?_
 (try dsimp only); omega
 rw [if_neg (by omega)] at hu1 hu2 hu3
 rw [if_pos (by omega)] at hv1 hv2 hv3
 have hm := qT (s := c + (dg y).getD k 0) (by omega)
 have hq := (kO (s := c + (dg y).getD k 0) (by omega)).2
 refine ⟨by omega, by omega, by simp [ha], by rw [hes, d7], hD.snoc hm.1 hm.2, by omega, ?_⟩
 have hst := i8 (s := c + (dg y).getD k 0) (X' := vd ((dg x).drop (k + 1)) + vd ((dg y).drop (k + 1))) ha (by omega) (by rw [hu1, hv1]; omega) hI
 rw [← Int.add_assoc] at hst; exact hst
 (try simp only [cV] at hc6)
 refine zD hG [] (k + 1, Int.tdiv (c) 16777216, es ++ [[D.i (Int.tmod (c) 16777216)]], acc ++ [Int.tmod (c) 16777216]) (aC (by intros; (try have hx9 := hxk (by omega)); (try have hy9 := hyk (by omega)); (try simp only [cF] at *); first | omega | (rw [bF] <;> omega) : 16777216 ≠ (0 : Int)) (aC (by intros; (try have hx9 := hxk (by omega)); (try have hy9 := hyk (by omega)); (try simp only [cF] at *); first | omega | (rw [bF] <;> omega) : ((es).length + (([[.i (Int.tmod c 16777216)]] : List (List D))).length) * (8 + 1) ≤ 140737488355328) (aC (by intros; (try have hx9 := hxk (by omega)); (try have hy9 := hyk (by omega)); (try simp only [cF] at *); first | omega | (rw [bF] <;> omega) : 16777216 ≠ (0 : Int) ∧ inR (Int.tdiv c 16777216)) (aB (by intros; (try have hx9 := hxk (by omega)); (try have hy9 := hyk (by omega)); (try simp only [cF] at *); first | omega | (rw [bF] <;> omega) : inR ((k : Int) + 1)))))) ?_ ?_
 (try dsimp only); omega
 rw [if_neg (by omega)] at hu1 hu2 hu3
 rw [if_neg (by omega)] at hv1 hv2 hv3
 have hm := qT (s := c) (by omega)
 have hq := (kO (s := c) (by omega)).2
 refine ⟨by omega, by omega, by simp [ha], by rw [hes, d7], hD.snoc hm.1 hm.2, by omega, ?_⟩
 have hst := i8 (s := c) (X' := vd ((dg x).drop (k + 1)) + vd ((dg y).drop (k + 1))) ha (by omega) (by rw [hu1, hv1]; omega) hI
 rw [← Int.add_assoc] at hst; exact hst
 (try simp only [cV] at hc3)
 refine zE hG [] (.exit 0) (⟨[zS 4 (S []), zY 11 9001 0], [(9001, .arr 0 3 1 (es))]⟩) aA rfl ?_
 refine zR hG [(19, 1, kS (S (nb (vd acc).toNat)))] [] (.c (cS (S (nb (vd acc).toNat)))) [] (aB (qQ hes hD (by omega) : SpG g _ _ _ _ _)) ?_ ?_
 have hz1 : vd ((dg x).drop k) = 0 := gB (by omega)
 have hz2 : vd ((dg y).drop k) = 0 := gB (by omega)
 rw [hz1, hz2, show c = 0 by omega] at hI
 rw [show (vd acc).toNat = x + y by omega]
 rfl
theorem aLW (x y : Nat) (hx : (nb x).length ≤ 900000000) (hy : (nb y).length ≤ 900000000) (hxy : (nb x).length + (nb y).length ≤ 900000000) :
  SpG g 137 [.c (cS (S (nb x))), .c (cS (S (nb y)))] [] (.c (cS (S (nb (x * y))))) [] := by
 have lx := q7 (n := x) (k := (nb x).length / 3 + 1) (by omega)
 have ly := q7 (n := y) (k := (nb y).length / 3 + 1) (by omega)
 have hsx : 0 ≤ smV x 3 ∧ smV x 3 < 16777216 := by unfold smV; split <;> omega
 have hsy : 0 ≤ smV y 4 ∧ smV y 4 < 4294967296 := by unfold smV; split <;> omega
 have hsp : 0 ≤ smV x 3 * smV y 4 ∧ smV x 3 * smV y 4 ≤ 16777215 * 4294967295 := ⟨Int.mul_nonneg hsx.1 hsy.1, Int.mul_le_mul (by omega) (by omega) hsy.1 (by decide)⟩
 refine aG 92 Tryz.func137 (by kernel_rfl) fun fr hG => ?_
 refine zC hG [(1, 1, kC (y2 (smV x 3) (smK x 3))), (2, 1, kC (y2 (smV y 4) (smK y 4)))] [1, 0, 1, 1, 1] ((smK x 3) && (smK y 4)) (⟨[zS 0 (S (nb x)), zS 1 (S (nb y)), zS 4 (S []), zI 5 (smV x 3), zI 7 (smV y 4)], []⟩) (aC (jU x 3 (by decide) (by omega) : SpG g _ _ _ _ _) (aB (jU y 4 (by decide) (by omega) : SpG g _ _ _ _ _))) (fun hc1 => ?_) (fun hc1 => ?_)
 (try simp only [cV] at hc1)
 refine zR hG [(4, 3, kS (S (nb ((smV x 3) * (smV y 4)).toNat)))] [] (.c (cS (S (nb ((smV x 3) * (smV y 4)).toNat)))) [] (aC (by intros; first | (refine ⟨?_, rfl, ?_, ?_⟩ <;> (simp only [aP]; omega)) | skip; (try have h9 := eX (haij (by omega)) (hyj (by omega)) hxi hc); (try rw [hidx]); (try simp only [cF] at *); first | omega | (rw [bF] <;> omega) : inR ((smV x 3) * (smV y 4))) (aB (lH ((smV x 3) * (smV y 4)) (by omega) : SpG g _ _ _ _ _))) ?_ ?_
 have h1 : x < 256 ^ 3 ∧ y < 256 ^ 4 := by simpa [smK] using hc1
 have e1 : smV x 3 = x := if_pos h1.1
 have e2 : smV y 4 = y := if_pos h1.2
 have e3 : ((x : Int) * y).toNat = x * y := by rw [← Int.natCast_mul]; rfl
 rw [e1, e2, e3]
 rfl
 (try simp only [cV] at hc1)
 refine zL hG [(5, 1, kC (.c (cM 1 (intsD (dg x))))), (6, 1, kC (.c (cM 1 (intsD (dg y))))), (7, 5, .mask [none])] [0, 1, 0, 1, 1, 1, 1, 1, 1, 1] (fun (zz : Nat × List (List D) × List Int) => match zz with | (i, es, acc) => ((dg x).length - i, ⟨[zS 4 (S []), zM 9 1 (intsD (dg x)), zM 10 1 (intsD (dg y)), zY 11 805 0, zI 12 (i : Int)], [(805, .arr 0 3 1 (es))]⟩, i ≤ (dg x).length ∧ es = intsD acc ∧ Dg acc ∧ acc.length = (dg x).length + (dg y).length ∧ (∀ p, i + (dg y).length ≤ p → acc.getD p 0 = 0) ∧ vd acc = vd ((dg x).take i) * y)) (0, List.replicate (((intsD (dg x)).length : Int) + ((intsD (dg y)).length : Int) : Int).toNat [.i 0], List.replicate ((dg x).length + (dg y).length) 0) (aC (qP x (by omega) : SpG g _ _ _ _ _) (aC (qP y (by omega) : SpG g _ _ _ _ _) (aC (by intros; first | (refine ⟨?_, rfl, ?_, ?_⟩ <;> (simp only [aP]; omega)) | skip; (try have h9 := eX (haij (by omega)) (hyj (by omega)) hxi hc); (try rw [hidx]); (try simp only [cF] at *); first | omega | (rw [bF] <;> omega) : inR (((intsD (dg x)).length : Int) + ((intsD (dg y)).length : Int))) (aB (by intros; first | (refine ⟨?_, rfl, ?_, ?_⟩ <;> (simp only [aP]; omega)) | skip; (try have h9 := eX (haij (by omega)) (hyj (by omega)) hxi hc); (try rw [hidx]); (try simp only [cF] at *); first | omega | (rw [bF] <;> omega) : (0 : Int) ≤ (((intsD (dg x)).length : Int) + ((intsD (dg y)).length : Int)) ∧ (((intsD (dg x)).length : Int) + ((intsD (dg y)).length : Int)) = (((intsD (dg x)).length : Int) + ((intsD (dg y)).length : Int)) ∧ ((8 : Nat) : Int) * (((intsD (dg x)).length : Int) + ((intsD (dg y)).length : Int)) ≤ 281474976710656 ∧ (((intsD (dg x)).length : Int) + ((intsD (dg y)).length : Int)) ≤ 9223372036854775807))))) ?_ ?_
 refine ⟨Nat.zero_le _, ?_, Dg.zeros _, by simp, ?_, ?_⟩
 rw [← aBM, aP, aP]; congr 1
 intro p _; rw [List.getD_eq_getElem?_getD, List.getElem?_replicate]; split <;> rfl
 rw [aAZ]; simp [vd]
 rintro ⟨i, es, acc⟩ ⟨hi, hes, hD, ha, hz, hI⟩
 have hlen : es.length = (dg x).length + (dg y).length := by rw [hes, aP, ha]
 refine zc hG [] [1, 0] (decide (((i : Int) : Int) < ((intsD (dg x)).length : Int))) aA (fun hc3 => ?_) (fun hc3 => ?_)
 (try simp only [cV] at hc3)
 refine zL hG [] [0, 1, 0, 1, 0, 0, 1] (fun (zz : Nat × Int × List (List D) × List Int) => match zz with | (j, c, es, acc) => ((dg y).length - j, ⟨[zS 4 (S []), zM 9 1 (intsD (dg x)), zM 10 1 (intsD (dg y)), zY 11 805 0, zI 12 (i : Int), zI 13 c, zI 14 (j : Int)], [(805, .arr 0 3 1 (es))]⟩, j ≤ (dg y).length ∧ (0 ≤ c ∧ c < 16777216) ∧ es = intsD acc ∧ Dg acc ∧ acc.length = (dg x).length + (dg y).length ∧ (∀ p, i + (dg y).length ≤ p → acc.getD p 0 = 0) ∧ vd acc + 16777216 ^ (i + j) * c = vd ((dg x).take i) * y + (dg x).getD i 0 * 16777216 ^ i * vd ((dg y).take j))) (0, 0, es, acc) aA ?_ ?_
 refine ⟨Nat.zero_le _, by omega, hes, hD, ha, hz, ?_⟩
 rw [hI]; simp [vd]
 rintro ⟨j, c, es, acc⟩ ⟨hj, hc, hes, hD, ha, hz, hI⟩
 have hlen : es.length = (dg x).length + (dg y).length := by rw [hes, aP, ha]
 have hidx : ((i : Int) + (j : Int) : Int).toNat = i + j := by omega
 have hxi := (bY x).2.at (k := i) (by omega)
 have hyj : j < (dg y).length → 0 ≤ (dg y).getD j 0 ∧ (dg y).getD j 0 < 16777216 := fun h => (bY y).2.at h
 have haij : j < (dg y).length → 0 ≤ acc.getD (i + j) 0 ∧ acc.getD (i + j) 0 < 16777216 := fun h => hD.at (by omega)
 refine zc hG [] [1, 0] (decide (((j : Int) : Int) < ((intsD (dg y)).length : Int))) aA (fun hc5 => ?_) (fun hc5 => ?_)
 (try simp only [cV] at hc5)
 refine zD hG [(15, 5, .elem ([.i (acc.getD ((i : Int) + (j : Int) : Int).toNat 0)])), (15, 8, .elem (intD ((dg x).getD i 0))), (15, 12, .elem (intD ((dg y).getD j 0)))] (j + 1, Int.tdiv (((acc.getD ((i : Int) + (j : Int) : Int).toNat 0) + (((dg x).getD i 0) * ((dg y).getD j 0))) + c) 16777216, (es).set ((i : Int) + (j : Int) : Int).toNat [.i (Int.tmod (((acc.getD ((i : Int) + (j : Int) : Int).toNat 0) + (((dg x).getD i 0) * ((dg y).getD j 0))) + c) 16777216)], acc.set ((i : Int) + (j : Int) : Int).toNat ((Int.tmod (((acc.getD ((i : Int) + (j : Int) : Int).toNat 0) + (((dg x).getD i 0) * ((dg y).getD j 0))) + c) 16777216))) (aC (by intros; first | (refine ⟨?_, rfl, ?_, ?_⟩ <;> (simp only [aP]; omega)) | skip; (try have h9 := eX (haij (by omega)) (hyj (by omega)) hxi hc); (try rw [hidx]); (try simp only [cF] at *); first | omega | (rw [bF] <;> omega) : inR ((i : Int) + (j : Int))) (aC (by intros; first | (refine ⟨?_, rfl, ?_, ?_⟩ <;> (simp only [aP]; omega)) | skip; (try have h9 := eX (haij (by omega)) (hyj (by omega)) hxi hc); (try rw [hidx]); (try simp only [cF] at *); first | omega | (rw [bF] <;> omega) : (0 : Int) ≤ ((i : Int) + (j : Int)) ∧ ((i : Int) + (j : Int)) < ((es).length : Int)) (aC (by intros; rw [hes]; exact sJ 0 (by (try simp only [aP] at *); omega) : (es)[((i : Int) + (j : Int) : Int).toNat]? = some ([.i (acc.getD ((i : Int) + (j : Int) : Int).toNat 0)])) (aC (by intros; exact aY _ (by omega) (by (try simp only [lQ] at *); omega) : (0 : Int) ≤ (i : Int) ∧ (intsD (dg x))[i]? = some (intD ((dg x).getD i 0))) (aC (by intros; exact aY _ (by omega) (by (try simp only [lQ] at *); omega) : (0 : Int) ≤ (j : Int) ∧ (intsD (dg y))[j]? = some (intD ((dg y).getD j 0))) (aC (by intros; first | (refine ⟨?_, rfl, ?_, ?_⟩ <;> (simp only [aP]; omega)) | skip; (try have h9 := eX (haij (by omega)) (hyj (by omega)) hxi hc); (try rw [hidx]); (try simp only [cF] at *); first | omega | (rw [bF] <;> omega) : inR (((dg x).getD i 0) * ((dg y).getD j 0))) (aC (by intros; first | (refine ⟨?_, rfl, ?_, ?_⟩ <;> (simp only [aP]; omega)) | skip; (try have h9 := eX (haij (by omega)) (hyj (by omega)) hxi hc); (try rw [hidx]); (try simp only [cF] at *); first | omega | (rw [bF] <;> omega) : inR ((acc.getD ((i : Int) + (j : Int) : Int).toNat 0) + (((dg x).getD i 0) * ((dg y).getD j 0)))) (aC (by intros; first | (refine ⟨?_, rfl, ?_, ?_⟩ <;> (simp only [aP]; omega)) | skip; (try have h9 := eX (haij (by omega)) (hyj (by omega)) hxi hc); (try rw [hidx]); (try simp only [cF] at *); first | omega | (rw [bF] <;> omega) : inR (((acc.getD ((i : Int) + (j : Int) : Int).toNat 0) + (((dg x).getD i 0) * ((dg y).getD j 0))) + c)) (aC (by intros; first | (refine ⟨?_, rfl, ?_, ?_⟩ <;> (simp only [aP]; omega)) | skip; (try have h9 := eX (haij (by omega)) (hyj (by omega)) hxi hc); (try rw [hidx]); (try simp only [cF] at *); first | omega | (rw [bF] <;> omega) : inR ((i : Int) + (j : Int))) (aC (by intros; first | (refine ⟨?_, rfl, ?_, ?_⟩ <;> (simp only [aP]; omega)) | skip; (try have h9 := eX (haij (by omega)) (hyj (by omega)) hxi hc); (try rw [hidx]); (try simp only [cF] at *); first | omega | (rw [bF] <;> omega) : 16777216 ≠ (0 : Int)) (aC (by intros; first | (refine ⟨?_, rfl, ?_, ?_⟩ <;> (simp only [aP]; omega)) | skip; (try have h9 := eX (haij (by omega)) (hyj (by omega)) hxi hc); (try rw [hidx]); (try simp only [cF] at *); first | omega | (rw [bF] <;> omega) : (0 : Int) ≤ ((i : Int) + (j : Int)) ∧ ((i : Int) + (j : Int)) < ((es).length : Int)) (aC (by intros; first | (refine ⟨?_, rfl, ?_, ?_⟩ <;> (simp only [aP]; omega)) | skip; (try have h9 := eX (haij (by omega)) (hyj (by omega)) hxi hc); (try rw [hidx]); (try simp only [cF] at *); first | omega | (rw [bF] <;> omega) : 16777216 ≠ (0 : Int) ∧ inR (Int.tdiv (((acc.getD ((i : Int) + (j : Int) : Int).toNat 0) + (((dg x).getD i 0) * ((dg y).getD j 0))) + c) 16777216)) (aB (by intros; first | (refine ⟨?_, rfl, ?_, ?_⟩ <;> (simp only [aP]; omega)) | skip; (try have h9 := eX (haij (by omega)) (hyj (by omega)) hxi hc); (try rw [hidx]); (try simp only [cF] at *); first | omega | (rw [bF] <;> omega) : inR ((j : Int) + 1))))))))))))))) ?_ ?_
 (try dsimp only); omega
 rw [hidx]
 have hb := eX (haij (by omega)) (hyj (by omega)) hxi hc
 have hm := qT hb.2.2.1
 refine ⟨by omega, ⟨hb.2.2.2.2, hb.2.2.2.1⟩, by rw [hes, ints_set], hD.set hm.1 hm.2, by simp [ha], fun p hp => ?_, ?_⟩
 rw [uL, if_neg (by omega)]; exact hz p hp
 have h := aLV (by omega) rfl hb.2.2.1 hI
 rw [aGB (by omega)]; exact h
 (try simp only [cV] at hc5)
 refine zE hG [] (.exit 2) (⟨[zS 4 (S []), zM 9 1 (intsD (dg x)), zM 10 1 (intsD (dg y)), zY 11 805 0, zI 12 (i : Int), zI 13 c], [(805, .arr 0 3 1 (es))]⟩) aA rfl ?_
 refine zD hG [] (i + 1, (es).set ((i : Int) + ((intsD (dg y)).length : Int) : Int).toNat [.i c], acc.set ((i : Int) + ((intsD (dg y)).length : Int) : Int).toNat (c)) (aC (by intros; first | (refine ⟨?_, rfl, ?_, ?_⟩ <;> (simp only [aP]; omega)) | skip; (try have h9 := eX (haij (by omega)) (hyj (by omega)) hxi hc); (try rw [hidx]); (try simp only [cF] at *); first | omega | (rw [bF] <;> omega) : inR ((i : Int) + ((intsD (dg y)).length : Int))) (aC (by intros; first | (refine ⟨?_, rfl, ?_, ?_⟩ <;> (simp only [aP]; omega)) | skip; (try have h9 := eX (haij (by omega)) (hyj (by omega)) hxi hc); (try rw [hidx]); (try simp only [cF] at *); first | omega | (rw [bF] <;> omega) : (0 : Int) ≤ ((i : Int) + ((intsD (dg y)).length : Int)) ∧ ((i : Int) + ((intsD (dg y)).length : Int)) < ((es).length : Int)) (aB (by intros; first | (refine ⟨?_, rfl, ?_, ?_⟩ <;> (simp only [aP]; omega)) | skip; (try have h9 := eX (haij (by omega)) (hyj (by omega)) hxi hc); (try rw [hidx]); (try simp only [cF] at *); first | omega | (rw [bF] <;> omega) : inR ((i : Int) + 1))))) ?_ ?_
 (try dsimp only); omega
 have hidx : ((i : Int) + ((intsD (dg y)).length : Int) : Int).toNat = i + (dg y).length := by rw [aP]; omega
 have hj9 : j = (dg y).length := by omega
 rw [hidx]
 have h0 := hz (i + (dg y).length) (Nat.le_refl _)
 refine ⟨by omega, by rw [hes, ints_set], hD.set hc.1 hc.2, by simp [ha], fun p hp => ?_, ?_⟩
 rw [uL, if_neg (by omega)]; exact hz p (by omega)
 rw [wD (by omega), h0, aGB (by omega)]
 rw [hj9, List.take_length, (bY y).1] at hI
 grind
 (try simp only [cV] at hc3)
 refine zE hG [] (.exit 0) (⟨[zS 4 (S []), zY 11 805 0], [(805, .arr 0 3 1 (es))]⟩) aA rfl ?_
 refine zR hG [(19, 1, kS (S (nb (vd acc).toNat)))] [] (.c (cS (S (nb (vd acc).toNat)))) [] (aB (qQ hes hD (by omega) : SpG g _ _ _ _ _)) ?_ ?_
 rw [show i = (dg x).length by omega, List.take_length, (bY x).1] at hI
 have e3 : (vd acc).toNat = x * y := by rw [hI, ← Int.natCast_mul]; rfl
 rw [e3]
 rfl
theorem aND (x y : Nat) (h0 : 0 < y) (hq : x < y * 16777216) (hx : (dg x).length ≤ 400000000) (hy : (dg y).length ≤ 400000000) :
  SpG g 143 [.c (cM 1 (intsD (dg x))), .c (cM 1 (intsD (dg y)))] [] (.c (cI ((x / y : Nat) : Int))) [] := by
 refine aG 26 Tryz.func143 (by kernel_rfl) fun fr hG => ?_
 refine zL hG [] [0, 0, 1, 1, 1] (fun (zz : Int × Int) => match zz with | (lo, hi) => ((hi - lo).toNat, ⟨[zM 0 1 (intsD (dg x)), zM 1 1 (intsD (dg y)), zI 4 0, zI 5 lo, zI 6 hi], []⟩, 0 ≤ lo ∧ lo ≤ hi ∧ hi ≤ 16777215 ∧ y * lo.toNat ≤ x ∧ x < y * (hi.toNat + 1))) (0, 16777215) aA ?_ ?_
 exact ⟨by omega, by omega, by omega, by simp, by rw [show (16777215 : Int).toNat + 1 = 16777216 from rfl]; omega⟩
 rintro ⟨lo, hi⟩ ⟨h0, h1, h2, hlo, hhi⟩
 have hm : Int.tdiv ((lo + hi) + 1) 2 = (lo + hi + 1) / 2 := Int.tdiv_eq_ediv_of_nonneg (by omega)
 have hm2 : lo < hi → lo < Int.tdiv ((lo + hi) + 1) 2 ∧ Int.tdiv ((lo + hi) + 1) 2 ≤ hi := fun h => by rw [hm]; omega
 refine zc hG [] [1, 0] (decide ((lo : Int) < hi)) aA (fun hc2 => ?_) (fun hc2 => ?_)
 (try simp only [cV] at hc2)
 refine zC hG [(5, 2, kC (.c (cM 1 (intsD (dg (y * (Int.tdiv ((lo + hi) + 1) 2).toNat)))))), (5, 4, kI (cmpL (dg (y * (Int.tdiv ((lo + hi) + 1) 2).toNat)) (dg x)))] [1, 1, 0, 1] (decide ((cmpL (dg (y * (Int.tdiv ((lo + hi) + 1) 2).toNat)) (dg x) : Int) ≤ 0)) (⟨[zM 0 1 (intsD (dg x)), zM 1 1 (intsD (dg y)), zI 4 0, zI 5 lo, zI 6 hi, zI 7 (Int.tdiv ((lo + hi) + 1) 2)], []⟩) (aC (by intros; (try have h9 := hm2 (by omega)); (try simp only [decide_eq_true_eq, inR] at *); omega : inR (lo + hi)) (aC (by intros; (try have h9 := hm2 (by omega)); (try simp only [decide_eq_true_eq, inR] at *); omega : inR ((lo + hi) + 1)) (aC (by intros; (try have h9 := hm2 (by omega)); (try simp only [decide_eq_true_eq, inR] at *); omega : 2 ≠ (0 : Int) ∧ inR (Int.tdiv ((lo + hi) + 1) 2)) (aC (aA6 y (Int.tdiv ((lo + hi) + 1) 2) (by have := hm2 (by omega); omega) (by omega) : SpG g _ _ _ _ _) (aB (aHJ (dg (y * (Int.tdiv ((lo + hi) + 1) 2).toNat)) (dg x) (bY _).2 (bY _).2 (by have h9 := hm2 (by omega); have := aNH (y := y) (d := (Int.tdiv ((lo + hi) + 1) 2).toNat) (by omega); omega) (by omega) : SpG g _ _ _ _ _)))))) (fun hc3 => ?_) (fun hc3 => ?_)
 (try simp only [cV] at hc3)
 refine zD hG [] (Int.tdiv ((lo + hi) + 1) 2, hi) aA ?_ ?_
 (try dsimp only); have := hm2 (by omega); omega
 have h9 := hm2 (by omega)
 have hc := cmp_le.1 hc3
 exact ⟨by omega, by omega, by omega, hc, hhi⟩
 (try simp only [cV] at hc3)
 refine zD hG [] (lo, Int.tdiv ((lo + hi) + 1) 2 - 1) (aB (by intros; (try have h9 := hm2 (by omega)); (try simp only [decide_eq_true_eq, inR] at *); omega : inR ((Int.tdiv ((lo + hi) + 1) 2) - 1))) ?_ ?_
 (try dsimp only); have := hm2 (by omega); omega
 have h9 := hm2 (by omega)
 have hc : ¬ y * (Int.tdiv ((lo + hi) + 1) 2).toNat ≤ x := fun h => hc3 (cmp_le.2 h)
 refine ⟨by omega, by omega, by omega, hlo, ?_⟩
 rw [show (Int.tdiv ((lo + hi) + 1) 2 - 1).toNat + 1 = (Int.tdiv ((lo + hi) + 1) 2).toNat by omega]; omega
 (try simp only [cV] at hc2)
 refine zE hG [] (.exit 0) (⟨[zI 4 0, zI 5 lo], []⟩) aA rfl ?_
 refine zR hG [] [] (.c (cI lo)) [] aA ?_ ?_
 have e : x / y = lo.toNat := by
  have hh : hi = lo := by omega
  rw [hh] at hhi
  exact Nat.div_eq_of_lt_le (by rw [Nat.mul_comm]; exact hlo) (by rw [Nat.mul_comm]; exact hhi)
 rw [e, show ((lo.toNat : Nat) : Int) = lo by omega]
 rfl
def yC := And.intro @List.length_append.{0} (And.intro @List.length_cons.{0} (And.intro @List.length_nil.{0} (And.intro @List.length_set.{0} (And.intro @decide_eq_true_eq (And.intro @Go.Eng.inR.eq_1 (@aP))))))
abbrev y5 (a0 : ByteArray) (a1 : ByteArray) : SV := .tup [(false, [cS a0]), (false, [cS a1]), (false, [cB true])]
theorem aEV (x y : Nat) (h0 : 0 < y) (hx : (nb x).length ≤ 900000000) (hy : (nb y).length ≤ 900000000) :
  SpG g 89 [.c (cS (S (nb x))), .c (cS (S (nb y)))] [] (y5 (S (nb (x / y))) (S (nb (x % y)))) [] := by
 have lx := q7 (n := x) (k := 300000000) (by omega)
 have ly := q7 (n := y) (k := 300000000) (by omega)
 have hsx : 0 ≤ smV x 7 ∧ smV x 7 < 72057594037927936 := by unfold smV; split <;> omega
 have hsy : 0 ≤ smV y 7 ∧ smV y 7 < 72057594037927936 := by unfold smV; split <;> omega
 have hy0 := gX y
 refine aG 87 Tryz.func89 (by kernel_rfl) fun fr hG => ?_
 refine zC hG [(1, 1, kS (S (nb y)))] [1, 0, 1, 1] (decide ((((S (nb y)).size : Int) : Int) = 0)) (⟨[zS 0 (S (nb x)), zS 1 (S (nb y)), zS 4 (S []), zS 5 (S []), zB 6 false], []⟩) (aB (jA y (by first | omega | (simp only [maxLen]; omega)) : SpG g _ _ _ _ _)) (fun hc1 => ?_) (fun hc1 => ?_)
 (try simp only [cV] at hc1)
 exfalso; omega
 (try simp only [cV] at hc1)
 refine zC hG [(4, 1, kC (y2 (smV x 7) (smK x 7))), (5, 1, kC (y2 (smV y 7) (smK y 7)))] [1, 0, 1, 1, 1, 1, 1] ((smK x 7) && (smK y 7)) (⟨[zS 0 (S (nb x)), zS 1 (S (nb y)), zS 4 (S []), zS 5 (S []), zB 6 false, zI 7 (smV x 7), zI 9 (smV y 7)], []⟩) (aC (jU x 7 (by decide) (by first | omega | (simp only [maxLen]; omega)) : SpG g _ _ _ _ _) (aB (jU y 7 (by decide) (by first | omega | (simp only [maxLen]; omega)) : SpG g _ _ _ _ _))) (fun hc2 => ?_) (fun hc2 => ?_)
 (try simp only [cV] at hc2)
 have hsm : x < 256 ^ 7 ∧ y < 256 ^ 7 := by simpa [smK] using hc2
 have e1 : smV x 7 = x := if_pos hsm.1
 have e2 : smV y 7 = y := if_pos hsm.2
 have eq1 : Int.tdiv (smV x 7) (smV y 7) = ((x / y : Nat) : Int) := by rw [e1, e2, Int.tdiv_eq_ediv_of_nonneg (by omega)]; rfl
 have eq2 : Int.tmod (smV x 7) (smV y 7) = ((x % y : Nat) : Int) := by rw [e1, e2, Int.tmod_eq_emod_of_nonneg (by omega)]; rfl
 have hqq : (0 ≤ Int.tdiv (smV x 7) (smV y 7) ∧ Int.tdiv (smV x 7) (smV y 7) ≤ x ∧ 0 ≤ Int.tmod (smV x 7) (smV y 7) ∧ Int.tmod (smV x 7) (smV y 7) ≤ y) := by
  rw [eq1, eq2]; have a1 := Nat.div_le_self x y; have a2 := Nat.mod_lt x h0; clear eq1 eq2; generalize x / y = q at *; generalize x % y = rr at *; omega
 refine zR hG [(7, 3, kS (S (nb (Int.tdiv (smV x 7) (smV y 7)).toNat))), (7, 7, kS (S (nb (Int.tmod (smV x 7) (smV y 7)).toNat)))] [] (y5 (S (nb (Int.tdiv (smV x 7) (smV y 7)).toNat)) (S (nb (Int.tmod (smV x 7) (smV y 7)).toNat))) [] (aC (by intros; first | (refine ⟨?_, rfl, ?_, ?_⟩ <;> (simp only [aP]; omega)) | skip; (try simp only [yC] at *); omega : (smV y 7) ≠ (0 : Int) ∧ inR (Int.tdiv (smV x 7) (smV y 7))) (aC (lH (Int.tdiv (smV x 7) (smV y 7)) (by have := hqq; omega) : SpG g _ _ _ _ _) (aC (by intros; first | (refine ⟨?_, rfl, ?_, ?_⟩ <;> (simp only [aP]; omega)) | skip; (try simp only [yC] at *); omega : (smV y 7) ≠ (0 : Int)) (aB (lH (Int.tmod (smV x 7) (smV y 7)) (by have := hqq; omega) : SpG g _ _ _ _ _))))) ?_ ?_
 rw [eq1, eq2, Int.toNat_natCast, Int.toNat_natCast]
 rfl
 (try simp only [cV] at hc2)
 refine s7 hG cW [(8, 1, kC (.c (cM 1 (intsD (dg x))))), (9, 1, kC (.c (cM 1 (intsD (dg y))))), (10, 2, .mask [none])] [0, 1, 0, 1, 1, 1, 1, 1, 1, 1, 1, 1, 1] (⟨[zS 4 (S []), zS 5 (S []), zB 6 false, zM 11 1 (intsD (dg x)), zM 12 1 (intsD (dg y)), zY 13 1102 0, zN 14, zI 15 (((intsD (dg x)).length : Int) - 1)], [(1102, .arr 0 3 1 (List.replicate ((intsD (dg x)).length) [.i 0]))]⟩) _ (by kernel_rfl) (aC (qP x (by first | omega | (simp only [maxLen]; omega)) : SpG g _ _ _ _ _) (aC (qP y (by first | omega | (simp only [maxLen]; omega)) : SpG g _ _ _ _ _) (aC (by intros; first | (refine ⟨?_, rfl, ?_, ?_⟩ <;> (simp only [aP]; omega)) | skip; (try simp only [yC] at *); omega : (0 : Int) ≤ ((intsD (dg x)).length : Int) ∧ ((intsD (dg x)).length : Int) = ((intsD (dg x)).length : Int) ∧ ((8 : Nat) : Int) * ((intsD (dg x)).length : Int) ≤ 281474976710656 ∧ ((intsD (dg x)).length : Int) ≤ 9223372036854775807) (aB (by intros; first | (refine ⟨?_, rfl, ?_, ?_⟩ <;> (simp only [aP]; omega)) | skip; (try simp only [yC] at *); omega : inR (((intsD (dg x)).length : Int) - 1)))))) ?_
 refine stepA hG [(14, 9105, 3, 1)] [] (⟨[zS 4 (S []), zS 5 (S []), zB 6 false, zM 11 1 (intsD (dg x)), zM 12 1 (intsD (dg y)), zY 13 1102 0, zY 14 9105 0, zI 15 (((intsD (dg x)).length : Int) - 1)], [(1102, .arr 0 3 1 (List.replicate ((intsD (dg x)).length) [.i 0])), (9105, .arr 0 3 1 ([]))]⟩) (by kernel_rfl) ?_
 refine fU hG ((fun (zz : Int × Nat × List (List D) × List Int) => match zz with | (k, r, es, acc) => ⟨[zS 4 (S []), zS 5 (S []), zB 6 false, zM 11 1 (intsD (dg x)), zM 12 1 (intsD (dg y)), zY 13 1102 0, zM 14 1 (intsD (dg r)), zI 15 k], [(1102, .arr 0 3 1 (es))]⟩) (((intsD (dg x)).length : Int) - 1, 0, List.replicate ((intsD (dg x)).length) [.i 0], List.replicate (dg x).length 0)) (by kernel_rfl) ?_
 refine aG4 (σ := Int × Nat × List (List D) × List Int) (fun (zz : Int × Nat × List (List D) × List Int) => match zz with | (k, r, es, acc) => (k + 1).toNat) (fun (zz : Int × Nat × List (List D) × List Int) => match zz with | (k, r, es, acc) => ⟨[zS 4 (S []), zS 5 (S []), zB 6 false, zM 11 1 (intsD (dg x)), zM 12 1 (intsD (dg y)), zY 13 1102 0, zM 14 1 (intsD (dg r)), zI 15 k], [(1102, .arr 0 3 1 (es))]⟩) (fun (zz : Int × Nat × List (List D) × List Int) => match zz with | (k, r, es, acc) => -1 ≤ k ∧ k < (dg x).length ∧ es = intsD acc ∧ Dg acc ∧ acc.length = (dg x).length ∧ r < y ∧ (∀ p : Nat, (p : Int) ≤ k → acc.getD p 0 = 0) ∧ vd ((dg x).drop (k + 1).toNat) = vd (acc.drop (k + 1).toNat) * y + r) (((intsD (dg x)).length : Int) - 1, 0, List.replicate ((intsD (dg x)).length) [.i 0], List.replicate (dg x).length 0) (by kernel_rfl) ?_ ?_
 rw [aP]
 refine ⟨by omega, by omega, ?_, Dg.zeros _, by simp, h0, ?_, ?_⟩
 rw [← aBM]; (try congr 1)
 intro p _; rw [List.getD_eq_getElem?_getD, List.getElem?_replicate]; split <;> rfl
 rw [gB (by omega), gB (by rw [List.length_replicate]; omega)]; simp
 rintro ⟨k, r, es, acc⟩ ⟨hk1, hk2, hes, hD, ha, hr, hz, hI⟩
 have hlen : es.length = (dg x).length := by rw [hes, aP, ha]
 have hxk : 0 ≤ k → 0 ≤ (dg x).getD k.toNat 0 ∧ (dg x).getD k.toNat 0 < 16777216 := fun h => (bY x).2.at (by omega)
 have hR : 0 ≤ k → (r * 16777216 + ((dg x).getD k.toNat 0).toNat) < y * 16777216 := fun h => by have := hxk h; omega
 have hRl : 0 ≤ k → (dg (r * 16777216 + ((dg x).getD k.toNat 0).toNat)).length ≤ (dg y).length + 1 := fun h => dg_rem (hR h)
 have hq : 0 ≤ k → (r * 16777216 + ((dg x).getD k.toNat 0).toNat) / y < 16777216 := fun h => Nat.div_lt_of_lt_mul (hR h)
 have hrl : (dg r).length ≤ (dg y).length := aHF (by omega)
 refine zc hG [] [1, 0] (decide ((k : Int) ≥ 0)) aA (fun hc4 => ?_) (fun hc4 => ?_)
 (try simp only [cV] at hc4)
 refine zC hG [(15, 2, .elem (intD ((dg x).getD (k : Int).toNat 0))), (15, 6, .elem []), (15, 7, kC (.c (cM 1 (intsD (dg (r * 16777216 + ((dg x).getD k.toNat 0).toNat)))))), (16, 2, kI (cmpL (dg (r * 16777216 + ((dg x).getD k.toNat 0).toNat)) (dg y)))] [1, 1, 0, 0, 1] (decide ((cmpL (dg (r * 16777216 + ((dg x).getD k.toNat 0).toNat)) (dg y) : Int) ≥ 0)) (⟨[zS 4 (S []), zS 5 (S []), zB 6 false, zM 11 1 (intsD (dg x)), zM 12 1 (intsD (dg y)), zY 13 1102 0, zM 14 1 (intsD (dg (r * 16777216 + ((dg x).getD k.toNat 0).toNat))), zI 15 k], [(1102, .arr 0 3 1 (es))]⟩) (aC (by intros; exact aY _ (by omega) (by (try simp only [lQ] at *); omega) : (0 : Int) ≤ k ∧ (intsD (dg x))[(k : Int).toNat]? = some (intD ((dg x).getD (k : Int).toNat 0))) (aC (by intros; first | (refine ⟨?_, rfl, ?_, ?_⟩ <;> (simp only [aP]; omega)) | skip; (try simp only [yC] at *); omega : (([[.i ((dg x).getD (k : Int).toNat 0)]] : List (List D)).length + (intsD (dg r)).length) * (8 + 1) ≤ 140737488355328) (aC (yI (es := ([[.i ((dg x).getD (k : Int).toNat 0)]] : List (List D)) ++ (intsD (dg r))) (l := (dg x).getD k.toNat 0 :: dg r) (n := (r * 16777216 + ((dg x).getD k.toNat 0).toNat)) rfl (quo_dg (hxk (by omega)).1 (hxk (by omega)).2) (aIG (hxk (by omega)).1) : SpG g _ _ _ _ _) (aB (aHJ (dg (r * 16777216 + ((dg x).getD k.toNat 0).toNat)) (dg y) (bY _).2 (bY _).2 (by have := hRl (by omega); omega) (by omega) : SpG g _ _ _ _ _))))) (fun hc5 => ?_) (fun hc5 => ?_)
 (try simp only [cV] at hc5)
 refine zD hG [(17, 4, kI (((r * 16777216 + ((dg x).getD k.toNat 0).toNat) / y : Nat) : Int)), (18, 5, .elem ([.i (((r * 16777216 + ((dg x).getD k.toNat 0).toNat) / y : Nat) : Int)])), (18, 6, kC (.c (cM 1 (intsD (dg (y * (((r * 16777216 + ((dg x).getD k.toNat 0).toNat) / y : Nat) : Int).toNat)))))), (18, 7, kC (.c (cM 1 (intsD (dg ((r * 16777216 + ((dg x).getD k.toNat 0).toNat) - y * (((r * 16777216 + ((dg x).getD k.toNat 0).toNat) / y : Nat) : Int).toNat))))))] (k - 1, (r * 16777216 + ((dg x).getD k.toNat 0).toNat) - y * (((r * 16777216 + ((dg x).getD k.toNat 0).toNat) / y : Nat) : Int).toNat, (es).set (k : Int).toNat [.i (((r * 16777216 + ((dg x).getD k.toNat 0).toNat) / y : Nat) : Int)], acc.set (k : Int).toNat (((r * 16777216 + ((dg x).getD k.toNat 0).toNat) / y : Nat) : Int)) (aC (aND (r * 16777216 + ((dg x).getD k.toNat 0).toNat) y h0 (hR (by omega)) (by have := hRl (by omega); omega) (by omega) : SpG g _ _ _ _ _) (aC (by intros; first | (refine ⟨?_, rfl, ?_, ?_⟩ <;> (simp only [aP]; omega)) | skip; (try simp only [yC] at *); omega : (0 : Int) ≤ k ∧ k < ((es).length : Int)) (aC (by intros; first | (refine ⟨?_, rfl, ?_, ?_⟩ <;> (simp only [aP]; omega)) | skip; (try simp only [yC] at *); omega : (0 : Int) ≤ k ∧ k < (((es).set (k : Int).toNat [.i (((r * 16777216 + ((dg x).getD k.toNat 0).toNat) / y : Nat) : Int)]).length : Int)) (aC (by intros; rw [List.getElem?_set_self (by (try simp only [List.length_set] at *); omega)] : ((es).set (k : Int).toNat [.i (((r * 16777216 + ((dg x).getD k.toNat 0).toNat) / y : Nat) : Int)])[(k : Int).toNat]? = some ([.i (((r * 16777216 + ((dg x).getD k.toNat 0).toNat) / y : Nat) : Int)])) (aC (aA6 y (((r * 16777216 + ((dg x).getD k.toNat 0).toNat) / y : Nat) : Int) ⟨Int.natCast_nonneg _, Int.ofNat_lt.2 (hq (by omega))⟩ (by omega) : SpG g _ _ _ _ _) (aC (aLZ (r * 16777216 + ((dg x).getD k.toNat 0).toNat) (y * (((r * 16777216 + ((dg x).getD k.toNat 0).toNat) / y : Nat) : Int).toNat) (by rw [Int.toNat_natCast]; exact Nat.mul_div_le _ _) (by have := hRl (by omega); omega) (by rw [Int.toNat_natCast]; have h1 := Nat.div_lt_of_lt_mul (hR (by omega)); have := aNH (y := y) h1; omega) : SpG g _ _ _ _ _) (aB (by intros; first | (refine ⟨?_, rfl, ?_, ?_⟩ <;> (simp only [aP]; omega)) | skip; (try simp only [yC] at *); omega : inR (k - 1))))))))) ?_ ?_
 (try dsimp only); omega
 have hx9 := hxk (by omega)
 have hR9 := hR (by omega)
 have hq : (r * 16777216 + ((dg x).getD k.toNat 0).toNat) / y < 16777216 := Nat.div_lt_of_lt_mul hR9
 have hdm := Nat.div_add_mod (r * 16777216 + ((dg x).getD k.toNat 0).toNat) y
 have hml := Nat.mod_lt (r * 16777216 + ((dg x).getD k.toNat 0).toNat) h0
 have e1 : (k - 1 + 1).toNat = k.toNat := by omega
 have e2 : (k + 1).toNat = k.toNat + 1 := by omega
 refine ⟨by omega, by omega, by rw [hes, ints_set], hD.set (Int.natCast_nonneg _) (Int.ofNat_lt.2 hq), by simp [ha], ?_, fun p hp => ?_, ?_⟩
 rw [Int.toNat_natCast]; omega
 rw [uL, if_neg (by omega)]; exact hz p (by omega)
 rw [e1, drop_at (by omega), vd_set (by omega), ← e2, hI, Int.toNat_natCast]
 rw [Int.natCast_sub (Nat.mul_div_le _ _), Int.natCast_mul, show (((r * 16777216 + ((dg x).getD k.toNat 0).toNat) : Nat) : Int) = r * 16777216 + (dg x).getD k.toNat 0 by omega]
 generalize (((r * 16777216 + ((dg x).getD k.toNat 0).toNat) / y : Nat) : Int) = q at *
 grind
 (try simp only [cV] at hc5)
 refine zD hG [] (k - 1, (r * 16777216 + ((dg x).getD k.toNat 0).toNat), es, acc) (aB (by intros; first | (refine ⟨?_, rfl, ?_, ?_⟩ <;> (simp only [aP]; omega)) | skip; (try simp only [yC] at *); omega : inR (k - 1))) ?_ ?_
 (try dsimp only); omega
 have hx9 := hxk (by omega)
 have e1 : (k - 1 + 1).toNat = k.toNat := by omega
 have e2 : (k + 1).toNat = k.toNat + 1 := by omega
 have hlt : ¬ y ≤ (r * 16777216 + ((dg x).getD k.toNat 0).toNat) := fun h => hc5 (cmp_ge.2 h)
 refine ⟨by omega, by omega, hes, hD, ha, by omega, fun p hp => hz p (by omega), ?_⟩
 rw [e1, drop_at (l := dg x) (k := k.toNat) (by omega), drop_at (l := acc) (k := k.toNat) (by omega), ← e2, hI, hz k.toNat (by omega)]
 rw [show (((r * 16777216 + ((dg x).getD k.toNat 0).toNat) : Nat) : Int) = r * 16777216 + (dg x).getD k.toNat 0 by omega]
 grind
 (try simp only [cV] at hc4)
 refine zE hG [] (.exit 0) (⟨[zS 4 (S []), zS 5 (S []), zB 6 false, zY 13 1102 0, zM 14 1 (intsD (dg r))], [(1102, .arr 0 3 1 (es))]⟩) aA rfl ?_
 refine zR hG [(19, 1, kS (S (nb (vd acc).toNat))), (19, 3, kS (S (nb r)))] [] (y5 (S (nb (vd acc).toNat)) (S (nb r))) [] (aC (qQ hes hD (by omega) : SpG g _ _ _ _ _) (aB (aIP r (by have := aHF (a := r) (b := y) (by omega); omega) : SpG g _ _ _ _ _))) ?_ ?_
 rw [show (k + 1).toNat = 0 by omega, List.drop_zero, List.drop_zero, (bY x).1] at hI
 have hv0 := jT hD
 have hx8 : x = y * (vd acc).toNat + r := by
  have : ((y * (vd acc).toNat + r : Nat) : Int) = x := by
   rw [hI]; push_cast; rw [show (((vd acc).toNat : Nat) : Int) = vd acc by omega]; grind
  omega
 have e1 : x / y = (vd acc).toNat := by rw [hx8, Nat.mul_add_div h0, Nat.div_eq_of_lt hr]; rfl
 have e2 : x % y = r := by rw [hx8, Nat.mul_add_mod, Nat.mod_eq_of_lt hr]
 rw [e1, e2]
 rfl
end Go.Proofs.YtmpgfchkkemngaaGreatDoor
namespace Go.Proofs.YtmpgfchkkemngaaGreatDoor
open Go.RowKit Go.V
open Go.Eng (inR byteAt u8 bH)
variable {g : Gv}
theorem aLS : (nb 10).length = 1 := by rw [l7 (by decide), show 10 / 256 = 0 from rfl, fM]; rfl
theorem nb1 : (nb 1).length = 1 := by rw [l7 (by decide), show 1 / 256 = 0 from rfl, fM]; rfl
theorem aII {k : Nat} (h : k ≤ 18) : (nb (10 ^ k)).length ≤ 8 := gJ (by
 have : 10 ^ k ≤ 10 ^ 18 := Nat.pow_le_pow_right (by decide) h
 omega)
theorem tY (n : Int) (h : inR n) :
  SpG g 135 [.c (cI n)] [] (.c (cS (S (nb n.natAbs)))) [] := by
 unfold inR at h
 have hw : n < 0 → IntKind.wrap .i64 (0 - (n + 1)) = -(n + 1) := fun h0 => by rw [wrap64 (by unfold inR; omega)]; omega
 refine aG 13 Tryz.func135 (by kernel_rfl) fun fr hG => ?_
 refine zP hG [] [1, 0, 1] ((n : Int) ≥ 0) (⟨[zI 0 n, zS 2 (S [])], []⟩) aA (fun hc1 => ?_) (fun hc1 => ?_)
 skip
 refine zR hG [(2, 1, kS (S (nb (n).toNat)))] [] (.c (cS (S (nb (n).toNat)))) [] (aB (lH (n) (by first | omega | (rw [hw (by omega)]; omega)) : SpG g _ _ _ _ _)) ?_ ?_
 rw [show n.toNat = n.natAbs by omega]
 rfl
 skip
 refine zR hG [(3, 3, kS (S (nb (IntKind.wrap .i64 (0 - (n + 1))).toNat))), (3, 4, kS (S (nb 1))), (3, 5, kS (S (nb (((IntKind.wrap .i64 (0 - (n + 1))).toNat) + 1))))] [] (.c (cS (S (nb (((IntKind.wrap .i64 (0 - (n + 1))).toNat) + 1))))) [] (aC (by intros; first | omega | ((try simp only [decide_eq_true_eq, inR, aF] at *) <;> omega) : inR (n + 1)) (aC (lH (IntKind.wrap .i64 (0 - (n + 1))) (by first | omega | (rw [hw (by omega)]; omega)) : SpG g _ _ _ _ _) (aC (lH 1 (by decide) : SpG g _ _ _ _ _) (aB (aAT ((IntKind.wrap .i64 (0 - (n + 1))).toNat) 1 (by rw [hw (by omega)]; exact Nat.le_trans (gJ (k := 8) (by omega)) (by decide)) (by have := nb1; omega) : SpG g _ _ _ _ _))))) ?_ ?_
 rw [hw (by omega), show (-(n + 1)).toNat + 1 = n.natAbs by omega]
 rfl
theorem big_ok (n s : Int) (h : cZ n s = true) :
  SpG g 87 [.agg [cI n, cI s]] [] (.agg [cB (decide (n < 0)), cS (S (nb n.natAbs)), cI s]) [] := by
 have hb := fG h
 refine aG 18 Tryz.func87 (by kernel_rfl) fun fr hG => ?_
 refine zC hG [(1, 1, kB (cZ n s))] [1, 0, 1, 1] (!(cZ n s)) (⟨[zX 1 100 0, zX 2 101 0], [(100, .box 26 [cI n, cI s]), (101, .box 123 [cB false, cS (S []), cI 0])]⟩) (aB (l5 n s : SpG g _ _ _ _ _)) (fun hc1 => ?_) (fun hc1 => ?_)
 (try simp only [blS] at hc1)
 rw [h] at hc1; cases hc1
 (try simp only [blS] at hc1)
 exact zr hG [(4, 5, kS (S (nb n.natAbs)))] [] (aB (tY n (by unfold inR; omega) : SpG g _ _ _ _ _))
theorem aLA (n : Int) (h0 : 0 ≤ n) (h1 : n ≤ 18) :
  SpG g 88 [.c (cI n)] [] (.c (cS (S (nb (10 ^ n.toNat))))) [] := by
 refine aG 15 Tryz.func88 (by kernel_rfl) fun fr hG => ?_
 refine zL hG [(1, 0, kS (S (nb 1)))] [0, 1, 0, 1, 1] (fun (zz : Nat × Nat) => match zz with | (k, p) => (n.toNat - k, ⟨[zI 0 n, zS 2 (S []), zS 3 (S (nb p)), zI 4 (k : Int)], []⟩, (k : Int) ≤ n ∧ p = 10 ^ k)) (0, 1) (aB (lH 1 (by decide) : SpG g _ _ _ _ _)) ?_ ?_
 exact ⟨by omega, rfl⟩
 rintro ⟨k, p⟩ ⟨hk, hp⟩
 have hl : (nb p).length ≤ 8 := by rw [hp]; exact aII (by omega)
 refine zp hG [] [1, 0] (((k : Int) : Int) < n) aA (fun hc2 => ?_) (fun hc2 => ?_)
 skip
 refine zD hG [(5, 1, kS (S (nb 10))), (5, 2, kS (S (nb (p * 10))))] (k + 1, p * 10) (aC (lH 10 (by decide) : SpG g _ _ _ _ _) (aC (aLW p 10 (by omega) (by have := aLS; omega) (by have := aLS; omega) : SpG g _ _ _ _ _) (aB (by intros; first | omega | ((try simp only [decide_eq_true_eq, inR, aF] at *) <;> omega) : inR ((k : Int) + 1))))) ?_ ?_
 (try dsimp only); omega
 exact ⟨by omega, by rw [hp, Nat.pow_succ]⟩
 skip
 refine zE hG [] (.exit 0) (⟨[zS 2 (S []), zS 3 (S (nb p))], []⟩) aA rfl ?_
 refine zR hG [] [] (.c (cS (S (nb p)))) [] aA ?_ ?_
 rw [hp, show k = n.toNat by omega]
 rfl
end Go.Proofs.YtmpgfchkkemngaaGreatDoor
