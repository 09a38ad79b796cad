/- Part 30 of the proof: texts M0, D0, M1, D1, D2, N0, N1, N2, N3, N4, D3, Y0, Yf. -/
import Derived.Test.YtdejnaokkdndeaaGreatDoorP29
import Derived.Test.YtdejnaokkdndeaaGreatDoorProg
import Derived.Lib.Small
import Derived.Test.YtdejnaokkdndeaaGreatDoorCards
import Derived.Test.YtdejnaokkdndeaaGreatDoorTie
import Derived.WalkKit
import Derived.ProofKit
import Derived.OpenShut
import Derived.Deep.DeepHandedRow
import Derived.Lib.LaidTab
import Derived.Lay
import Derived.Stop.LaidErr
import Derived.MakeChecks
import Derived.Carry
set_option linter.all false
namespace Go.Proofs.YtdejnaokkdndeaaGreatDoor
open Go.RowKit
open Go.Eng (inR byteAt u8 aU)
abbrev bs (s : ByteArray) : List UInt8 := s.data.toList
theorem tB (s : ByteArray) : (bs s).length = s.size := by cases s; simp [ByteArray.size]
def bAt (s : ByteArray) (k : Nat) : UInt8 := (bs s).getD k 0
theorem oM (s : ByteArray) (k : Nat) (h : k < s.size) : (bs s).drop k = bAt s k :: (bs s).drop (k + 1) := by
 have h' : k < (bs s).length := by rw [tB]; exact h
 rw [List.drop_eq_getElem_cons h', bAt, List.getD_eq_getElem?_getD, List.getElem?_eq_getElem h']; rfl
theorem dI (a b : ByteArray) : (a.toList == b.toList) = decide (a = b) := by
 rw [Bool.eq_iff_iff]; simp only [beq_iff_eq, decide_eq_true_eq, ByteArray.toList_eq]
 constructor
 intro h
 cases a; cases b
 exact congrArg ByteArray.mk (Array.toList_inj.1 h)
 rintro rfl; rfl
theorem aEP (a : ByteArray) : a = ⟨#[]⟩ ↔ a.size = 0 := by
 constructor
 rintro rfl; rfl
 intro h
 cases a with
 | mk d => simp only [ByteArray.size] at h; rw [Array.eq_empty_of_size_eq_zero h]
theorem aI4 (s : ByteArray) (k : Nat) (h : s.size ≤ k) : (bs s).drop k = [] := List.drop_eq_nil_of_le (by rw [tB]; exact h)
theorem gN (s : ByteArray) (k : Nat) : byteAt s (k : Int) = ((bAt s k).toNat : Int) := by simp [byteAt, bAt]
def cY (c : Int) : Bool := (decide (c ≥ 97) && decide (c ≤ 122)) || (decide (c ≥ 65) && decide (c ≤ 90))
def aR (c : UInt8) : Bool := decide (32 ≤ (c.toNat : Int)) && decide ((c.toNat : Int) ≤ 126)
def iG (s : ByteArray) : Bool := (bs s).all aR && decide ((s.size : Int) ≤ 200)
def gB (c : UInt8) : Bool := cY c.toNat || decide ((c.toNat : Int) = 95) || (decide (48 ≤ (c.toNat : Int)) && decide ((c.toNat : Int) ≤ 57))
def fH (s : ByteArray) : Bool := decide (1 ≤ s.size) && decide (s.size ≤ 20) && cY (bAt s 0).toNat && (bs s).all gB
theorem tail_of {x : Int} {b : Bool} (h : (b = true ∨ x = 95) ∨ ¬ x < 48 ∧ ¬ x > 57) : (b || decide (x = 95) || (decide (48 ≤ x) && decide (x ≤ 57))) = true := by
 rcases h with (h | h) | h
 simp [h]
 simp [h]
 have h1 : 48 ≤ x := by omega
 have h2 : x ≤ 57 := by omega
 simp [h1, h2]
theorem aFH {x : Int} {b : Bool} (h : (b = false ∧ ¬ x = 95) ∧ (x < 48 ∨ x > 57)) : (b || decide (x = 95) || (decide (48 ≤ x) && decide (x ≤ 57))) = false := by
 obtain ⟨⟨h1, h2⟩, h3⟩ := h
 simp [h1, h2]; omega
theorem n6 (s : ByteArray) : byteAt s 0 = ((bAt s 0).toNat : Int) := gN s 0
theorem aD2 {s : ByteArray} (h : (¬ s.size = 0 ∧ ¬ (s.size : Int) > 20) ∧ cY (byteAt s 0) = true) (ht : (bs s).all gB = true) : fH s = true := by
 obtain ⟨⟨h1, h2⟩, h3⟩ := h
 rw [n6] at h3
 simp only [fH, h3, ht, Bool.and_true, Bool.and_eq_true, decide_eq_true_eq]; omega
theorem aAB {s : ByteArray} (h : (s.size = 0 ∨ (s.size : Int) > 20) ∨ cY (byteAt s 0) = false) : fH s = false := by
 rcases h with (h | h) | h
 simp [fH, h]
 have : ¬ s.size ≤ 20 := by omega
 simp [fH, this]
 rw [n6] at h; simp [fH, h]
theorem aD3 {s : ByteArray} (ht : (bs s).all gB = false) : fH s = false := by simp [fH, ht]
def lW (y : Int) : Bool := decide (y % 4 = 0) && (decide (y % 100 ≠ 0) || decide (y % 400 = 0))
def cD (n s : Int) : Bool := decide (0 ≤ s) && decide (s ≤ 6) && decide (-1000000000000000 ≤ n) && decide (n ≤ 1000000000000000) && (decide (s = 0) || decide (n.tmod 10 ≠ 0))
def lpI (y : Int) : Int := if lW y then 1 else 0
def fY (y m : Int) : Int := if m = 2 then 28 + lpI y else if m = 4 ∨ m = 6 ∨ m = 9 ∨ m = 11 then 30 else 31
def dby (y : Int) : Int := 365 * (y - 1) + (y - 1) / 4 - (y - 1) / 100 + (y - 1) / 400
def cumN (y : Int) : Nat → Int
 | 0 => 0
 | k + 1 => cumN y k + fY y (k + 1)
def cum (y m : Int) : Int := cumN y (m - 1).toNat
def iU (y m d : Int) : Int := dby y + d - 1 + cum y m
def vld (y m d : Int) : Prop := 1 ≤ y ∧ y ≤ 9999 ∧ 1 ≤ m ∧ m ≤ 12 ∧ 1 ≤ d ∧ d ≤ fY y m
theorem aHD (y : Int) : lpI y = 0 ∨ lpI y = 1 := by unfold lpI; split <;> simp
theorem qN (y : Int) (h : 1 ≤ y) : dby (y + 1) = dby y + 365 + lpI y := by
 have h2 : lpI y = if (y % 4 = 0 ∧ (y % 100 ≠ 0 ∨ y % 400 = 0)) then 1 else 0 := by
  unfold lpI lW; simp
 rw [h2]
 unfold dby
 split <;> omega
theorem l5 (a b : Int) (h0 : 1 ≤ a) (h : a ≤ b) : dby a ≤ dby b := by unfold dby; omega
theorem dby_1 : dby 1 = 0 := by decide
theorem vA : dby 10000 = 3652059 := by decide
theorem aAY (y : Int) (h0 : 1 ≤ y) (h : y ≤ 10000) : 0 ≤ dby y ∧ dby y ≤ 3652059 := by
 have h1 := l5 1 y (by omega) h0
 have h2 := l5 y 10000 h0 h
 rw [dby_1] at h1; rw [vA] at h2; exact ⟨h1, h2⟩
theorem lZ (y m : Int) : 28 ≤ fY y m ∧ fY y m ≤ 31 := by
 have := aHD y
 unfold fY; split
 omega
 split <;> omega
theorem aCI (y : Int) : cum y 1 = 0 := rfl
theorem fK (y m : Int) (h : 1 ≤ m) : cum y (m + 1) = cum y m + fY y m := by
 unfold cum
 obtain ⟨k, hk⟩ : ∃ k : Nat, m = (k : Int) + 1 := ⟨(m - 1).toNat, by omega⟩
 subst hk
 have e1 : ((k : Int) + 1 + 1 - 1).toNat = k + 1 := by omega
 have e2 : ((k : Int) + 1 - 1).toNat = k := by omega
 rw [e1, e2]; rfl
theorem vC (y : Int) : cum y 13 = 365 + lpI y := by
 have : cum y 13 = cumN y 12 := rfl
 rw [this]
 simp [cumN, fY]; omega
theorem jK (y : Int) : ∀ (a b : Int), 1 ≤ a → a ≤ b → cum y a ≤ cum y b := by
 intro a b ha hab
 obtain ⟨k, hk⟩ : ∃ k : Nat, b = a + k := ⟨(b - a).toNat, by omega⟩
 subst hk
 clear hab
 induction k with
 | zero => simp
 | succ k ih =>
  have := fK y (a + k) (by omega)
  have h2 := lZ y (a + k)
  have e : a + ((k + 1 : Nat) : Int) = a + k + 1 := by omega
  rw [e]; omega
theorem aAZ (y m : Int) (h1 : 1 ≤ m) (h2 : m ≤ 13) : 0 ≤ cum y m ∧ cum y m ≤ 366 := by
 have a := jK y 1 m (by omega) h1
 have b := jK y m 13 h1 h2
 rw [aCI] at a; rw [vC] at b
 have := aHD y; omega
theorem wP {y m d : Int} (h : vld y m d) : dby y ≤ iU y m d ∧ iU y m d < dby (y + 1) := by
 obtain ⟨h1, h2, h3, h4, h5, h6⟩ := h
 have a := aAZ y m h3 (by omega)
 have b := jK y (m + 1) 13 (by omega) (by omega)
 have c := fK y m h3
 rw [vC] at b
 rw [qN y h1]
 unfold iU; omega
theorem num_inj {y m d y' m' d' : Int} (h : vld y m d) (h' : vld y' m' d') (e : iU y m d = iU y' m' d') : y = y' ∧ m = m' ∧ d = d' := by
 have a := wP h
 have b := wP h'
 have hy : y = y' := by
  rcases Int.lt_trichotomy y y' with hlt | heq | hgt
  have := l5 (y + 1) y' (by have := h.1; omega) (by omega); omega
  exact heq
  have := l5 (y' + 1) y (by have := h'.1; omega) (by omega); omega
 subst hy
 obtain ⟨h1, h2, h3, h4, h5, h6⟩ := h
 obtain ⟨g1, g2, g3, g4, g5, g6⟩ := h'
 have hm : m = m' := by
  unfold iU at e
  rcases Int.lt_trichotomy m m' with hlt | heq | hgt
  have := jK y (m + 1) m' (by omega) (by omega); have := fK y m h3; omega
  exact heq
  have := jK y (m' + 1) m (by omega) (by omega); have := fK y m' g3; omega
 subst hm
 refine ⟨rfl, rfl, ?_⟩
 unfold iU at e; omega
theorem aBB (n : Int) (h0 : 0 ≤ n) : ∀ k : Nat, n < dby (1 + k) → ∃ y : Int, 1 ≤ y ∧ y < 1 + k ∧ dby y ≤ n ∧ n < dby (y + 1)
 | 0, h => by rw [show (1 : Int) + ((0 : Nat) : Int) = 1 from rfl, dby_1] at h; omega
 | k + 1, h => by
  by_cases hk : n < dby (1 + k)
  obtain ⟨y, h1, h2, h3, h4⟩ := aBB n h0 k hk
  exact ⟨y, h1, by omega, h3, h4⟩
  refine ⟨1 + k, by omega, by omega, by omega, ?_⟩
  rw [show (1 : Int) + k + 1 = 1 + ((k + 1 : Nat) : Int) by omega]
  exact h
theorem wY (y r : Int) (h0 : 0 ≤ r) : ∀ k : Nat, r < cum y (1 + k) → ∃ m : Int, 1 ≤ m ∧ m < 1 + k ∧ cum y m ≤ r ∧ r < cum y (m + 1)
 | 0, h => by rw [show (1 : Int) + ((0 : Nat) : Int) = 1 from rfl, aCI] at h; omega
 | k + 1, h => by
  by_cases hk : r < cum y (1 + k)
  obtain ⟨m, h1, h2, h3, h4⟩ := wY y r h0 k hk
  exact ⟨m, h1, by omega, h3, h4⟩
  refine ⟨1 + k, by omega, by omega, by omega, ?_⟩
  rw [show (1 : Int) + k + 1 = 1 + ((k + 1 : Nat) : Int) by omega]
  exact h
theorem date_ex (n : Int) (h0 : 0 ≤ n) (h1 : n ≤ 3652058) : ∃ y m d : Int, vld y m d ∧ iU y m d = n := by
 obtain ⟨y, a1, a2, a3, a4⟩ := aBB n h0 9999 (by rw [show (1 : Int) + ((9999 : Nat) : Int) = 10000 from rfl, vA]; omega)
 obtain ⟨m, b1, b2, b3, b4⟩ := wY y (n - dby y) (by omega) 12 (by rw [show (1 : Int) + ((12 : Nat) : Int) = 13 from rfl, vC]; have := qN y a1; omega)
 refine ⟨y, m, n - dby y - cum y m + 1, ⟨a1, by omega, b1, by omega, by omega, ?_⟩, by unfold iU; omega⟩
 have := fK y m b1
 omega
open Classical in
noncomputable def civ (n : Int) : Int × Int × Int := if h : ∃ t : Int × Int × Int, vld t.1 t.2.1 t.2.2 ∧ iU t.1 t.2.1 t.2.2 = n then Classical.choose h else (0, 0, 0)
theorem aIT {y m d n : Int} (h : vld y m d) (hn : iU y m d = n) : civ n = (y, m, d) := by
 unfold civ
 have hex : ∃ t : Int × Int × Int, vld t.1 t.2.1 t.2.2 ∧ iU t.1 t.2.1 t.2.2 = n := ⟨(y, m, d), h, hn⟩
 rw [dif_pos hex]
 obtain ⟨h1, h2⟩ := Classical.choose_spec hex
 obtain ⟨e1, e2, e3⟩ := num_inj h1 h (h2.trans hn.symm)
 exact Prod.ext e1 (Prod.ext e2 e3)
theorem xV {n : Int} (h0 : 0 ≤ n) (h1 : n ≤ 3652058) : vld (civ n).1 (civ n).2.1 (civ n).2.2 ∧ iU (civ n).1 (civ n).2.1 (civ n).2.2 = n := by
 obtain ⟨y, m, d, h, e⟩ := date_ex n h0 h1
 rw [aIT h e]
 exact ⟨h, e⟩
theorem civ_bd {n : Int} (h0 : 0 ≤ n) (h1 : n ≤ 3652058) : 1 ≤ (civ n).1 ∧ (civ n).1 ≤ 9999 ∧ 1 ≤ (civ n).2.1 ∧ (civ n).2.1 ≤ 12 ∧ 1 ≤ (civ n).2.2 ∧ (civ n).2.2 ≤ 31 := by
 obtain ⟨h, _⟩ := xV h0 h1
 have := lZ (civ n).1 (civ n).2.1
 exact ⟨h.1, h.2.1, h.2.2.1, h.2.2.2.1, h.2.2.2.2.1, by have := h.2.2.2.2.2; omega⟩
def mlen : List Int := [31, 28, 31, 30, 31, 30, 31, 31, 30, 31, 30, 31]
theorem aG6 (y m : Int) (h1 : 1 ≤ m) (h2 : m ≤ 12) (h : ¬ (m = 2 ∧ lW y = true)) : mlen.getD (m - 1).toNat 0 = fY y m := by
 have : m = 1 ∨ m = 2 ∨ m = 3 ∨ m = 4 ∨ m = 5 ∨ m = 6 ∨ m = 7 ∨ m = 8 ∨ m = 9 ∨ m = 10 ∨ m = 11 ∨ m = 12 := by omega
 rcases this with rfl | rfl | rfl | rfl | rfl | rfl | rfl | rfl | rfl | rfl | rfl | rfl
 case inr.inl =>
  have hl : lW y = false := by
   cases hb : lW y with
   | false => rfl
   | true => exact absurd ⟨rfl, hb⟩ h
  simp [mlen, fY, lpI, hl]
 all_goals simp [mlen, fY]
def mE (y m d : Int) : Bool := decide (1 ≤ y) && decide (y ≤ 9999) && decide (1 ≤ m) && decide (m ≤ 12) && decide (1 ≤ d) && decide (d ≤ fY y m)
theorem vld_of {y m d : Int} (h : mE y m d = true) : vld y m d := by
 simp only [mE, Bool.and_eq_true, decide_eq_true_eq] at h
 obtain ⟨⟨⟨⟨⟨h1, h2⟩, h3⟩, h4⟩, h5⟩, h6⟩ := h
 exact ⟨h1, h2, h3, h4, h5, h6⟩
theorem vld_mk {y m d : Int} (h : vld y m d) : mE y m d = true := by
 obtain ⟨h1, h2, h3, h4, h5, h6⟩ := h
 simp [mE, h1, h2, h3, h4, h5, h6]
theorem civ_up {n y m d : Int} (h1 : 1 ≤ y) (h2 : y ≤ 9999) (h3 : dby y ≤ n) (h4 : n ≤ 3652058) (hc : ¬ y < 9999 ∨ ¬ dby (y + 1) ≤ n) (hm1 : 1 ≤ m) (hm2 : m ≤ 12) (hd : d = n - dby y + 1 - cum y m) : m = 12 → d ≤ fY y m := by
 rintro rfl
 have e1 := qN y h1
 have e2 := fK y 12 (by omega)
 have e3 : cum y (12 + 1) = 365 + lpI y := vC y
 have e4 : n < dby (y + 1) := by
  rcases hc with hc | hc
  obtain rfl : y = 9999 := by omega
  have := vA
  have e : dby (9999 + 1) = dby 10000 := rfl
  omega
  omega
 omega
def S (l : List UInt8) : ByteArray := ⟨l.toArray⟩
theorem n8 (a b : List UInt8) : S a ++ S b = S (a ++ b) := by
 have : (S a ++ S b).data = (S (a ++ b)).data := by simp [S]
 cases h1 : S a ++ S b; cases h2 : S (a ++ b); rw [h1, h2] at this; simpa using this
theorem aJ (l : List UInt8) : (S l).size = l.length := by simp [S, ByteArray.size]
def aW (l : List UInt8) : Nat := l.foldl (fun a b => 256 * a + b.toNat) 0
def bL (l : List UInt8) : List UInt8 := l.dropWhile (· == 0)
def nb (n : Nat) : List UInt8 := if h : n = 0 then [] else nb (n / 256) ++ [UInt8.ofNat (n % 256)]
termination_by n
decreasing_by exact Nat.div_lt_self (Nat.pos_of_ne_zero h) (by decide)
theorem dS : nb 0 = [] := by rw [nb]; simp
theorem i6 {n : Nat} (h : n ≠ 0) : nb n = nb (n / 256) ++ [UInt8.ofNat (n % 256)] := by rw [nb]; simp [h]
theorem dG (l : List UInt8) (x : UInt8) : aW (l ++ [x]) = 256 * aW l + x.toNat := by simp [aW, List.foldl_append]
theorem vO : aW [] = 0 := rfl
theorem foldB (l : List UInt8) : ∀ a : Nat, l.foldl (fun a b => 256 * a + b.toNat) a = a * 256 ^ l.length + aW l := by
 induction l with
 | nil => intro a; simp [aW]
 | cons x t ih =>
  intro a
  have hv : aW (x :: t) = (256 * 0 + x.toNat) * 256 ^ t.length + aW t := ih (256 * 0 + x.toNat)
  rw [List.foldl_cons, ih, hv]
  simp only [List.length_cons, Nat.pow_succ, Nat.mul_zero, Nat.zero_add, Nat.add_mul]
  rw [Nat.mul_comm 256 a, Nat.mul_assoc, Nat.mul_comm 256 (256 ^ t.length)]
  omega
theorem jQ (x : UInt8) (t : List UInt8) : aW (x :: t) = x.toNat * 256 ^ t.length + aW t := by
 rw [aW, List.foldl_cons, foldB]; simp
theorem vP (a b : List UInt8) : aW (a ++ b) = aW a * 256 ^ b.length + aW b := by
 rw [aW, List.foldl_append, foldB]; rfl
theorem k7 (l : List UInt8) : aW l < 256 ^ l.length := by
 induction l with
 | nil => simp [aW]
 | cons x t ih =>
  rw [jQ, List.length_cons, Nat.pow_succ]
  have := x.toNat_lt
  have h : (x.toNat + 1) * 256 ^ t.length ≤ 256 * 256 ^ t.length := Nat.mul_le_mul_right _ (by omega)
  rw [Nat.add_mul] at h
  rw [Nat.mul_comm (256 ^ t.length) 256]
  omega
theorem fE (n : Nat) : aW (nb n) = n := by
 induction n using Nat.strongRecOn with
 | ind n ih =>
  by_cases h : n = 0
  subst h; rw [dS]; rfl
  rw [i6 h, dG, ih _ (Nat.div_lt_self (Nat.pos_of_ne_zero h) (by decide))]
  have : (UInt8.ofNat (n % 256)).toNat = n % 256 := by simp
  rw [this]; omega
theorem aGX {v : Nat} {x : UInt8} (h : ¬ (v = 0 ∧ x = 0)) : nb (256 * v + x.toNat) = nb v ++ [x] := by
 have hx := x.toNat_lt
 have hn : 256 * v + x.toNat ≠ 0 := by
  intro hz
  have hx0 : x.toNat = 0 := by omega
  exact h ⟨by omega, UInt8.toNat_inj.1 (by simpa using hx0)⟩
 rw [i6 hn]
 have h1 : (256 * v + x.toNat) / 256 = v := by omega
 have h2 : (256 * v + x.toNat) % 256 = x.toNat := by omega
 rw [h1, h2]; simp
theorem tR {P : List UInt8 → Prop} (h0 : P []) (h1 : ∀ l x, P l → P (l ++ [x])) (l : List UInt8) : P l := by
 have : ∀ r : List UInt8, P r.reverse := by
  intro r
  induction r with
  | nil => exact h0
  | cons x t ih => rw [List.reverse_cons]; exact h1 _ _ ih
 have := this l.reverse
 rwa [List.reverse_reverse] at this
theorem sX (l : List UInt8) (x : UInt8) : bL (l ++ [x]) = if bL l = [] then (if x = 0 then [] else [x]) else bL l ++ [x] := by
 induction l with
 | nil => simp [bL, List.dropWhile_cons]
 | cons y t ih =>
  simp only [bL, List.cons_append, List.dropWhile_cons] at ih ⊢
  by_cases hy : (y == 0) = true
  simp only [hy, if_true]; exact ih
  simp [hy]
theorem s9 (l : List UInt8) : bL l = [] ↔ aW l = 0 := by
 refine tR (P := fun l => bL l = [] ↔ aW l = 0) ?_ ?_ l
 simp [bL, aW]
 intro l x ih
 rw [sX, dG]
 by_cases h : bL l = []
 rw [if_pos h, ih.1 h]
 by_cases hx : x = 0
 simp [hx]
 rw [if_neg hx]
 constructor
 intro h; simp at h
 intro h; exact absurd (UInt8.toNat_inj.1 (by simpa using h)) hx
 rw [if_neg h]
 have : aW l ≠ 0 := fun hz => h (ih.2 hz)
 constructor
 intro h; simp at h
 intro h; omega
theorem xW (l : List UInt8) : bL l = nb (aW l) := by
 refine tR (P := fun l => bL l = nb (aW l)) ?_ ?_ l
 simp [bL, aW, dS]
 intro l x ih
 rw [sX, dG]
 by_cases h : bL l = []
 rw [if_pos h, (s9 l).1 h]
 by_cases hx : x = 0
 subst hx; simp [dS]
 rw [if_neg hx, aGX (v := 0) (fun hh => hx hh.2), dS]; rfl
 rw [if_neg h]
 have : aW l ≠ 0 := fun hz => h ((s9 l).2 hz)
 rw [aGX (fun hh => this hh.1), ih]
theorem uG {n k : Nat} (h : n < 256 ^ k) : (nb n).length ≤ k := by
 induction k generalizing n with
 | zero => simp at h; subst h; rw [dS]; simp
 | succ k ih =>
  by_cases hn : n = 0
  subst hn; rw [dS]; simp
  rw [i6 hn]; simp
  refine ih ?_
  rw [Nat.pow_succ] at h
  exact Nat.div_lt_of_lt_mul (by rw [Nat.mul_comm]; exact h)
theorem r5 {n k : Nat} (h : 256 ^ k ≤ n) : k < (nb n).length := by
 rcases Nat.lt_or_ge k (nb n).length with h1 | h1
 exact h1
 have := k7 (nb n)
 rw [fE] at this
 have h2 := Nat.pow_le_pow_right (n := 256) (by decide) h1
 omega
theorem i7 (n : Nat) : (nb n).length = 0 ↔ n = 0 := by
 constructor
 intro h
 have := fE n
 rw [List.length_eq_zero_iff.1 h] at this
 exact this.symm
 intro h; subst h; rw [dS]; rfl
theorem nb_head {n : Nat} (h : n < 2 ^ 63) (hl : (nb n).length = 8) : ((nb n).getD 0 0).toNat ≤ 127 := by
 have hv := fE n
 cases hn : nb n with
 | nil => rw [hn] at hl; simp at hl
 | cons x t =>
  rw [hn] at hl hv
  rw [jQ] at hv
  simp at hl
  rw [hl] at hv
  simp
  have : x.toNat * 256 ^ 7 < 2 ^ 63 := by omega
  omega
theorem tJ (l : List UInt8) (k : Nat) : aW (l.take k) ≤ aW l := by
 have h := vP (l.take k) (l.drop k)
 rw [List.take_append_drop] at h
 have h1 : 1 ≤ 256 ^ (l.drop k).length := Nat.one_le_pow _ _ (by decide)
 have h2 := Nat.mul_le_mul_left (aW (l.take k)) h1
 omega
theorem oR {l : List UInt8} {k : Nat} (h : k < l.length) : aW (l.take (k + 1)) = 256 * aW (l.take k) + (l.getD k 0).toNat := by
 rw [List.take_add_one, List.getElem?_eq_getElem h]
 simp only [Option.toList]
 rw [dG]
 simp [List.getD, h]
theorem dF (l : List UInt8) (i : Int) : byteAt (S l) i = ((l.getD i.toNat 0).toNat : Int) := by simp [byteAt, S]
theorem aA9 (l : List UInt8) (k : Nat) : (S l).extract k (S l).size = S (l.drop k) := by
 have h : ((S l).extract k (S l).size).data = (S (l.drop k)).data := by
  rw [ByteArray.data_extract, aJ]
  simp [S, List.take_of_length_le]
 cases h1 : (S l).extract k (S l).size; cases h2 : S (l.drop k); rw [h1, h2] at h; simpa using h
theorem S_eta (s : ByteArray) : S s.data.toList = s := by cases s; simp [S]
theorem aA3 {l : List UInt8} {k : Nat} (h : k < l.length) (hz : (l.getD k 0).toNat = 0) : bL (l.drop k) = bL (l.drop (k + 1)) := by
 rw [List.drop_eq_getElem_cons h]
 have : l[k] = 0 := by
  simp [List.getD, h] at hz
  exact UInt8.toNat_inj.1 (by simpa using hz)
 simp [bL, List.dropWhile_cons, this]
theorem aA4 {l : List UInt8} {k : Nat} (h : ¬ (k < l.length ∧ (l.getD k 0).toNat = 0)) : bL (l.drop k) = l.drop k := by
 rcases Nat.lt_or_ge k l.length with hk | hk
 rw [List.drop_eq_getElem_cons hk]
 have : ¬ (l[k] = 0) := by
  intro hz
  exact h ⟨hk, by simp [List.getD, hk, hz]⟩
 have h2 : (l[k] == 0) = false := by simpa using this
 rw [bL, List.dropWhile_cons, h2]; rfl
 rw [List.drop_eq_nil_of_le hk]; rfl
theorem iW (x : Int) : ((u8 x).toNat : Int) = x % 256 := by
 have h1 := Int.emod_nonneg x (show (256 : Int) ≠ 0 by decide)
 have h2 := Int.emod_lt_of_pos x (show (0 : Int) < 256 by decide)
 rw [u8]; simp; omega
theorem wrap64 {x : Int} (h : inR x) : IntKind.wrap .i64 x = x := by
 unfold inR at h
 simp [IntKind.wrap, IntKind.bits, IntKind.signed]
 omega
theorem vN (x : UInt8) : IntKind.wrap .i64 (x.toNat : Int) = (x.toNat : Int) := by
 have := x.toNat_lt
 exact wrap64 (by unfold inR; omega)
def eJ : Nat → Nat → Nat × Nat
 | m, 0 => (m, 0)
 | m, s + 1 => if m % 10 = 0 then eJ (m / 10) s else (m, s + 1)
theorem xH : ∀ (s m : Nat), (eJ m s).2 = 0 ∨ (eJ m s).1 % 10 ≠ 0
 | 0, m => by simp [eJ]
 | s + 1, m => by
  rw [eJ]
  split
  exact xH s (m / 10)
  rename_i h; exact .inr h
theorem sM {m : Nat} {s : Int} (h : s > 0) (hm : m % 10 = 0) : eJ m s.toNat = eJ (m / 10) (s - 1).toNat := by
 obtain ⟨k, rfl⟩ : ∃ k : Nat, s = (k : Int) + 1 := ⟨(s - 1).toNat, by omega⟩
 have h1 : ((k : Int) + 1).toNat = k + 1 := by omega
 have h2 : ((k : Int) + 1 - 1).toNat = k := by omega
 rw [h1, h2, eJ, if_pos hm]
theorem dK {m : Nat} {s : Int} (h0 : 0 ≤ s) (h : s = 0 ∨ m % 10 ≠ 0) : eJ m s.toNat = (m, s.toNat) := by
 rcases h with rfl | h
 rfl
 rcases Nat.eq_zero_or_pos s.toNat with hz | hp
 rw [hz]; rfl
 obtain ⟨k, hk⟩ : ∃ k, s.toNat = k + 1 := ⟨s.toNat - 1, by omega⟩
 rw [hk, eJ, if_neg h]
def dP (m : Nat) (s : Int) : Bool := decide ((eJ m s.toNat).1 ≤ 1000000000000000 ∧ (eJ m s.toNat).2 ≤ 6)
def fR (neg : Bool) (m : Nat) (s : Int) : Int := if dP m s then (if neg then -((eJ m s.toNat).1 : Int) else ((eJ m s.toNat).1 : Int)) else 0
def fQ (m : Nat) (s : Int) : Int := if dP m s then ((eJ m s.toNat).2 : Int) else 0
theorem vM {m : Nat} (h : m ≤ 1000000000000000) : IntKind.wrap .i64 (0 - (m : Int)) = -(m : Int) := by
 rw [wrap64 (by unfold inR; omega)]; omega
def rF (n : Nat) : List UInt8 := if h : n = 0 then [] else rF (n / 10) ++ [u8 (48 + ((n % 10 : Nat) : Int))]
termination_by n
decreasing_by exact Nat.div_lt_self (Nat.pos_of_ne_zero h) (by decide)
theorem jX : rF 0 = [] := by rw [rF]; simp
theorem lQ {n : Nat} (h : n ≠ 0) : rF n = rF (n / 10) ++ [u8 (48 + ((n % 10 : Nat) : Int))] := by rw [rF]; simp [h]
theorem aG3 {n k : Nat} (h : n < 10 ^ k) : (rF n).length ≤ k := by
 induction k generalizing n with
 | zero => simp at h; subst h; rw [jX]; simp
 | succ k ih =>
  by_cases hn : n = 0
  subst hn; rw [jX]; simp
  rw [lQ hn]; simp
  refine ih ?_
  rw [Nat.pow_succ] at h
  exact Nat.div_lt_of_lt_mul (by rw [Nat.mul_comm]; exact h)
def eI (n : Nat) : List UInt8 := if n = 0 then [48] else rF n
theorem wW {n k : Nat} (h : n < 10 ^ k) (hk : 1 ≤ k) : (eI n).length ≤ k := by
 unfold eI; split
 simpa using hk
 exact aG3 h
theorem iJ {n s : Int} (h : cD n s = true) : 0 ≤ s ∧ s ≤ 6 ∧ -1000000000000000 ≤ n ∧ n ≤ 1000000000000000 ∧ (s = 0 ∨ n.tmod 10 ≠ 0) := by
 simp [cD] at h; omega
end Go.Proofs.YtdejnaokkdndeaaGreatDoor
namespace Go.Proofs.YtdejnaokkdndeaaGreatDoor
open Go.RowKit Go.V
open Go.Eng (inR byteAt u8 aU)
structure Gv where
 maxLen : Int
 more : List (Nat × List Value) := []
def tensL : List Int := [1, 10, 100, 1000, 10000, 100000, 1000000]
def powL : List Int := [1, 10, 100, 1000, 10000, 100000, 1000000, 10000000, 100000000, 1000000000, 10000000000, 100000000000, 1000000000000, 10000000000000, 100000000000000, 1000000000000000, 10000000000000000, 100000000000000000, 1000000000000000000, 10000000000000000000]
def Gl (g : Gv) : List (Nat × List Value) := (1, [.int .i64 g.maxLen]) :: (10, powL.map (Value.int .u64)) :: (5, mlen.map (Value.int .i64)) :: g.more
def SpG (g : Gv) (f : FuncId) (ins : List SV) (refs : aS) (out : SV) (post : aS) : Prop := V.Spec Tryz.prog (Gl g) f ins refs out post
theorem fB : Tryz.prog.follows .mixedOrders = true := by kernel_rfl
section
variable {R : Wp Tryz.prog} {fr : Fr} {n : Nat} {root : Code} {Q : Exit → Act → World → Prop} {G : List (Nat × List Value)} {pids : List Nat} {now : Now} {st : V.St} {cs : List Prop}
theorem zC (hG : FrIs fr G pids) (hs : bO) (pos : List Nat) (b : Bool) (st' : V.St) (hc : V.conj cs) (ht : b = true → W R fr n root Q (.code (0 :: pos)) st') (hf : b = false → W R fr n root Q (.code (1 :: pos)) st') (h : goS Tryz.prog G pids n root hs 1000 now st st' = told (.cond pos b) st' cs := by kernel_rfl) : W R fr n root Q now st := stepC hG fB hs pos b st' cs h hc ht hf
theorem zc (hG : FrIs fr G pids) (hs : bO) (pos : List Nat) (b : Bool) (hc : V.conj cs) (ht : b = true → W R fr n root Q (.code (0 :: pos)) st) (hf : b = false → W R fr n root Q (.code (1 :: pos)) st) (h : goS Tryz.prog G pids n root hs 1000 now st st = told (.cond pos b) st cs := by kernel_rfl) : W R fr n root Q now st := stepC hG fB hs pos b st cs h hc ht hf
theorem zr {fn : Func} {out : SV} {post : aS} (hG : FrIs fr G []) (hs : bO) (ids : List Nat) (hc : V.conj cs) (h : goR Tryz.prog G n root hs 1000 now st fn ids = some (out, post, cs) := by kernel_rfl) : W R fr n root (bodyPost Tryz.prog fn (iO fr out post)) now st := yQ hG fB hs ids out post h hc rfl rfl
theorem zR {fn : Func} {out : SV} {post : aS} (hG : FrIs fr G []) (hs : bO) (ids : List Nat) (out' : SV) (post' : aS) (hc : V.conj cs) (ho : out' = out) (hp : post' = post) (h : goR Tryz.prog G n root hs 1000 now st fn ids = some (out', post', cs) := by kernel_rfl) : W R fr n root (bodyPost Tryz.prog fn (iO fr out post)) now st := yQ hG fB hs ids out' post' h hc ho hp
theorem zL {σ : Type} (hG : FrIs fr G pids) (hs : bO) (pos : List Nat) (F : σ → Nat × V.St × Prop) (x0 : σ) (hc : V.conj cs) (h0 : (F x0).2.2) (round : ∀ x, (F x).2.2 → W R fr n (aK root pos) (Exit.then (V.Handed fr n (fun x => (F x).1) (fun x => (F x).2.1) (fun x => (F x).2.2) x) (ctx R root Q pos)) (.code []) (F x).2.1) (h : goS Tryz.prog G pids n root hs 1000 now st (F x0).2.1 = told (.loop pos) (F x0).2.1 cs := by kernel_rfl) (hl : uO root pos = true := by kernel_rfl) : W R fr n root Q now st :=
 rI hG fB hs pos (F x0).2.1 cs h hc (aBZ (fun x => (F x).1) (fun x => (F x).2.1) (fun x => (F x).2.2) x0 hl h0 round)
theorem zA {σ : Type} (hG : FrIs fr G pids) (hs : bO) (pos : List Nat) (st6 : V.St) (ss : List (Nat × Nat × Nat × Nat)) (cc : List (Nat × Nat × Nat × Nat × Nat)) (F : σ → Nat × V.St × Prop) (x0 : σ) (hc : V.conj cs) (h0 : (F x0).2.2) (round : ∀ x, (F x).2.2 → W R fr n (aK root pos) (Exit.then (V.Handed fr n (fun x => (F x).1) (fun x => (F x).2.1) (fun x => (F x).2.2) x) (ctx R root Q pos)) (.code []) (F x).2.1) (h : goS Tryz.prog G pids n root hs 1000 now st st6 = told (.loop pos) st6 cs := by kernel_rfl) (ha : adK pids ss cc st6 (F x0).2.1 = told (.loop []) (F x0).2.1 [] := by kernel_rfl) (hl : uO root pos = true := by kernel_rfl) : W R fr n root Q now st :=
 rI hG fB hs pos st6 cs h hc (stepA hG ss cc (F x0).2.1 ha (aBZ (fun x => (F x).1) (fun x => (F x).2.1) (fun x => (F x).2.2) x0 hl h0 round))
theorem zD {σ : Type} {m : σ → Nat} {S : σ → V.St} {Inv : σ → Prop} {x : σ} {Q0 : Exit → Act → World → Prop} (hG : FrIs fr G pids) (hs : bO) (y : σ) (hc : V.conj cs) (hlt : m y < m x) (hI : Inv y) (h : goS Tryz.prog G pids n root hs 1000 now st (S y) = told (.done .normal) (S y) cs := by kernel_rfl) : W R fr n root (Exit.then (V.Handed fr n m S Inv x) Q0) now st := roundE hG fB hs y cs h hc hlt hI
theorem zE {H : Act → World → Prop} {root' : Code} {pos : List Nat} (hG : FrIs fr G pids) (hs : bO) (e : Ex) (st' : V.St) (hc : V.conj cs) (he : e.isNormal = false) (hk : W R fr n root' Q (.exit pos e) st') (h : goS Tryz.prog G pids n root hs 1000 now st st' = told (.done e) st' cs := by kernel_rfl) : W R fr n root (Exit.then H (ctx R root' Q pos)) now st := leaveE hG fB hs e st' cs h hc he hk
theorem zP (hG : FrIs fr G pids) (hs : bO) (pos : List Nat) (p : Prop) [Decidable p] (st' : V.St) (hc : V.conj cs) (ht : p → W R fr n root Q (.code (0 :: pos)) st') (hf : ¬ p → W R fr n root Q (.code (1 :: pos)) st') (h : goS Tryz.prog G pids n root hs 1000 now st st' = told (.cond pos (decide p)) st' cs := by kernel_rfl) : W R fr n root Q now st := zC hG hs pos (decide p) st' hc (fun h => ht (of_decide_eq_true h)) (fun h => hf (of_decide_eq_false h)) h
theorem zp (hG : FrIs fr G pids) (hs : bO) (pos : List Nat) (p : Prop) [Decidable p] (hc : V.conj cs) (ht : p → W R fr n root Q (.code (0 :: pos)) st) (hf : ¬ p → W R fr n root Q (.code (1 :: pos)) st) (h : goS Tryz.prog G pids n root hs 1000 now st st = told (.cond pos (decide p)) st cs := by kernel_rfl) : W R fr n root Q now st := zc hG hs pos (decide p) hc (fun h => ht (of_decide_eq_true h)) (fun h => hf (of_decide_eq_false h)) h
end
structure Cl where
 kind : Int
 s : List UInt8
 dn : Int
 ds : Int
 n : Int
 deriving DecidableEq
structure Vl where
 kind : Int
 s : List UInt8
 dn : Int
 ds : Int
 n : Int
 cols : List (List UInt8)
 rows : List (List Cl)
 deriving DecidableEq
def Cl.toV (c : Cl) : Vl := ⟨c.kind, c.s, c.dn, c.ds, c.n, [], []⟩
def mH (s : List UInt8) : List D := [.s (S s)]
def strs (l : List (List UInt8)) : List (List D) := l.map mH
def ClD (c : Cl) : List D := [.i c.kind, .s (S c.s), .i c.dn, .i c.ds, .i c.n, .sl 1 [], .sl 1 []]
def rowD (r : List Cl) : List (List D) := r.map ClD
def o4 (r : List Cl) : List D := [.sl 7 (rowD r)]
def rowsD (l : List (List Cl)) : List (List D) := l.map o4
def VlD (v : Vl) : List D := [.i v.kind, .s (S v.s), .i v.dn, .i v.ds, .i v.n, .sl 1 (strs v.cols), .sl 1 (rowsD v.rows)]
def valsD (l : List Vl) : List (List D) := l.map VlD
def yJ (v : Vl) : SV := .agg [.d (.i v.kind), .d (.s (S v.s)), .d (.i v.dn), .d (.i v.ds), .d (.i v.n), .d (.sl 1 (strs v.cols)), .d (.sl 1 (rowsD v.rows))]
def Cl.z : Cl := ⟨0, [], 0, 0, 0⟩
theorem aT {α β : Type} {f : α → β} {l : List α} {i : Int} (z : α) (h0 : 0 ≤ i) (h : i < (l.length : Int)) : 0 ≤ i ∧ (l.map f)[i.toNat]? = some (f (l.getD i.toNat z)) := by
 have : i.toNat < l.length := by omega
 exact ⟨h0, by simp [this]⟩
theorem dV {α β : Type} {f : α → β} {l : List α} {k : Nat} (z : α) (h : k < l.length) : (l.map f)[k]? = some (f (l.getD k z)) := by simp [h]
theorem S_inj {a b : List UInt8} : S a = S b ↔ a = b := by
 constructor
 intro h; have := congrArg (fun x => x.data.toList) h; simpa [S] using this
 rintro rfl; rfl
theorem aCY (a b : List UInt8) : ((S a).toList == (S b).toList) = decide (a = b) := by rw [dI]; simp [S_inj]
theorem S_eqv {a b : List UInt8} : (((S a).toList == (S b).toList) = true) = (a = b) := by rw [aCY]; simp
theorem S_eqf {a b : List UInt8} : (((S a).toList == (S b).toList) = false) = ¬ (a = b) := by rw [aCY]; simp
section
variable {g : Gv}
theorem lO {f : FuncId} {ins : List SV} {out : SV} {args : List Value} {v : Value} (hi : qK ins = some args) (ho : exT out = some v) (hk : okS out = true)
  (h : ∀ w : World, Calls Tryz.prog f args.toArray w fun e w' => e = .returned v ∧ w = w') : SpG g f ins [] out [] :=
 hY hi ho hk fun w _ => (h w).mono fun e w' ⟨h1, h2⟩ => ⟨h1, by subst h2; exact Below.refl _ _⟩
end
def intD (x : Int) : List D := [.i x]
def intsD (l : List Int) : List (List D) := l.map intD
theorem eH (acc : List UInt8) (x : Int) : bytesD acc ++ [[D.y (IntKind.wrap .u8 x)]] = bytesD (acc ++ [u8 x]) := by
 simp [bytesD, D.y, Eng.wrap_u8]
theorem l8 (acc : List UInt8) : bytesD (S acc).data.toList = bytesD acc := by simp [S]
abbrev zI (n : Nat) (x : Int) : Nat × Path × SV := (n, [], .c (.d (.i x)))
abbrev zS (n : Nat) (x : ByteArray) : Nat × Path × SV := (n, [], .c (.d (.s x)))
abbrev zB (n : Nat) (x : Bool) : Nat × Path × SV := (n, [], .c (.d (.b x)))
abbrev zX (n a b : Nat) : Nat × Path × SV := (n, [], .c (.bx a b))
abbrev zY (n a b : Nat) : Nat × Path × SV := (n, [], .c (.ar a b))
abbrev zN (n : Nat) : Nat × Path × SV := (n, [], .c (.d (.nil)))
abbrev zM (n s : Nat) (e : List (List D)) : Nat × Path × SV := (n, [], .c (.d (.sl s e)))
abbrev cI (x : Int) : C := .d (.i x)
abbrev cS (x : ByteArray) : C := .d (.s x)
abbrev cB (x : Bool) : C := .d (.b x)
abbrev cN : C := .d (.nil)
abbrev cM (s : Nat) (e : List (List D)) : C := .d (.sl s e)
abbrev zV (v : Vl) : List C := [cI v.kind, cS (S v.s), cI v.dn, cI v.ds, cI v.n, cM 1 (strs v.cols), cM 1 (rowsD v.rows)]
abbrev zW (v : Cl) : List C := [cI v.kind, cS (S v.s), cI v.dn, cI v.ds, cI v.n, cM 1 [], cM 1 []]
abbrev zK (f : Func) (p : List Nat) (fn : FuncId) (tm : Array Value) (D l : Nat) : Ob := .box ⟨.raw (.loop (aZ (aN f) p fn tm D)), some l⟩ []
abbrev kI (x : Int) : Hint := .call (.c (cI x)) [] []
abbrev kS (x : ByteArray) : Hint := .call (.c (cS x)) [] []
abbrev kB (x : Bool) : Hint := .call (.c (cB x)) [] []
abbrev kC (x : SV) : Hint := .call x [] []
end Go.Proofs.YtdejnaokkdndeaaGreatDoor
namespace Go.Proofs.YtdejnaokkdndeaaGreatDoor
open Go.RowKit Go.V
open Go.Eng (inR byteAt u8 aU)
variable {g : Gv}
theorem fF {a b : Bool} (h : a = b) : (SV.c (cB a) : SV) = .c (cB b) := by rw [h]
theorem yL {a b : Int} (h : a = b) : (SV.c (cI a) : SV) = .c (cI b) := by rw [h]
theorem dX (a : ByteArray) : a = S [] ↔ a.size = 0 := aEP a
theorem eV (n : Int) :
  SpG g 82 [.c (cI n)] [] (.c (cB (decide ((-1000000000000000 : Int) ≤ n) && decide (n ≤ 1000000000000000)))) [] := by
 refine aL 9 Tryz.func82 (by kernel_rfl) fun fr hG => ?_
 refine zR hG [] [] (.c (cB ((decide ((n : Int) ≥ (-1000000000000000))) && (decide ((n : Int) ≤ 1000000000000000))))) [] aA ?_ ?_
 refine fF ?_
 rw [Bool.eq_iff_iff] <;> (try simp) <;> (try omega)
 rfl
theorem pY (c : Int) :
  SpG g 162 [.c (.d (.y c))] [] (.c (cB (cY c))) [] := by
 refine aL 17 Tryz.func162 (by kernel_rfl) fun fr hG => ?_
 exact zr hG [] [] aA
def zq0 := And.intro @blS (@Go.Eng.inR.eq_1)
theorem n5 (n s : Int) :
  SpG g 55 [.agg [cI n, cI s]] [] (.c (cB (cD n s))) [] := by
 refine aL 26 Tryz.func55 (by kernel_rfl) fun fr hG => ?_
 refine zC hG [(1, 11, kB (decide ((-1000000000000000 : Int) ≤ n) && decide (n ≤ (1000000000000000 : Int))))] [1, 0, 1] (((decide ((s : Int) < 0)) || (decide ((s : Int) > 6))) || (!(decide ((-1000000000000000 : Int) ≤ n) && decide (n ≤ (1000000000000000 : Int))))) (⟨[zX 1 100 0, zB 2 false], [(100, .box 38 [cI n, cI s])]⟩) (aD (fun (hg1 : ((decide ((s : Int) < 0)) || (decide ((s : Int) > 6))) = false) => (eV n : SpG g _ _ _ _ _))) (fun hc1 => ?_) (fun hc1 => ?_)
 (try simp only [blS] at hc1)
 refine zR hG [] [] (.c (cB false)) [] aA ?_ ?_
 refine fF ?_
 simp only [cD]; rw [Bool.eq_iff_iff] <;> (try simp) <;> (try omega)
 rfl
 (try simp only [blS] at hc1)
 refine zR hG [] [] (.c (cB ((decide ((s : Int) = 0)) || (!decide ((Int.tmod n 10 : Int) = 0))))) [] (aD (by intros; first | omega | decide | (simp only [zq0] at *; omega) : (decide ((s : Int) = 0)) = false → 10 ≠ (0 : Int))) ?_ ?_
 refine fF ?_
 simp only [cD]; rw [Bool.eq_iff_iff] <;> (try simp) <;> (try omega)
 rfl
theorem aAF (s : ByteArray) (hs : s.size ≤ maxLen) :
  SpG g 54 [.c (cS s)] [] (.c (cB (iG s))) [] := by
 unfold maxLen at hs
 refine aL 23 Tryz.func54 (by kernel_rfl) fun fr hG => ?_
 refine zL hG [] [0, 1, 0, 1] (fun (zz : Nat) => match zz with | k => (s.size - k, ⟨[zS 0 s, zB 2 false, zI 5 ((s).size : Int), zI 6 (k : Int)], []⟩, k ≤ s.size ∧ (bs s).all aR = ((bs s).drop k).all aR)) 0 aA ?_ ?_
 exact ⟨Nat.zero_le _, rfl⟩
 rintro k ⟨hk, hall⟩
 refine zp hG [] [0, 1] (((k : Int) : Int) < ((s).size : Int)) aA (fun hc2 => ?_) (fun hc2 => ?_)
 skip
 refine zc hG [] [1, 1, 0, 0, 1, 1] ((decide ((byteAt (s) (k : Int) : Int) < 32)) || (decide ((byteAt (s) (k : Int) : Int) > 126))) (aB (by intros; first | omega | decide | (simp only [zq0] at *; omega) : (0 : Int) ≤ (k : Int) ∧ (k : Int) < ((s).size : Int)) (aD (by intros; first | omega | decide | (simp only [zq0] at *; omega) : (decide ((byteAt (s) (k : Int) : Int) < 32)) = false → (0 : Int) ≤ (k : Int) ∧ (k : Int) < ((s).size : Int)))) (fun hc3 => ?_) (fun hc3 => ?_)
 (try simp only [blS] at hc3)
 refine zE hG [] .ret (⟨[zS 0 s, zB 2 false], []⟩) aA rfl ?_
 refine zR hG [] [] (.c (cB false)) [] aA ?_ ?_
 refine fF ?_
 rw [iG, hall, oM s k (by omega)]; simp only [gN] at hc3; simp [aR]; omega
 rfl
 (try simp only [blS] at hc3)
 refine zD hG [] (k + 1) (aD (by intros; first | omega | decide | (simp only [zq0] at *; omega) : inR ((k : Int) + 1))) ?_ ?_
 (try dsimp only); omega
 exact ⟨by omega, by rw [hall, oM s k (by omega)]; simp only [gN] at hc3; simp [aR]; omega⟩
 skip
 refine zE hG [] (.exit 0) (⟨[zS 0 s, zB 2 false], []⟩) aA rfl ?_
 refine zR hG [] [] (.c (cB (decide ((((s).size : Int) : Int) ≤ 200)))) [] aA ?_ ?_
 refine fF ?_
 rw [iG, hall, aI4 s k (by omega)]; simp
 rfl
theorem aAG (s : ByteArray) :
  SpG g 83 [.c (cS s)] [] (.c (cB (fH s))) [] := by
 refine aL 46 Tryz.func83 (by kernel_rfl) fun fr hG => ?_
 refine zC hG [(1, 10, kB (cY (byteAt (s) 0)))] [1, 0, 1] ((((s).toList == (S []).toList) || (decide ((((s).size : Int) : Int) > 20))) || (!(cY (byteAt (s) 0)))) (⟨[zS 0 s, zB 2 false], []⟩) (aB (by intros; first | omega | decide | (simp only [zq0, dI, dX] at *; omega) : (((s).toList == (S []).toList) || (decide ((((s).size : Int) : Int) > 20))) = false → (0 : Int) ≤ 0 ∧ 0 < ((s).size : Int)) (aD (fun (hg1 : (((s).toList == (S []).toList) || (decide ((((s).size : Int) : Int) > 20))) = false) => (pY (byteAt (s) 0) : SpG g _ _ _ _ _)))) (fun hc1 => ?_) (fun hc1 => ?_)
 (try simp only [blS, dI, dX] at hc1)
 refine zR hG [] [] (.c (cB false)) [] aA ?_ ?_
 exact fF (aAB hc1).symm
 rfl
 (try simp only [blS, dI, dX] at hc1)
 refine zL hG [] [0, 1, 0, 1, 1] (fun (zz : Nat) => match zz with | k => (s.size - k, ⟨[zS 0 s, zB 2 false, zI 18 ((s).size : Int), zI 19 (k : Int)], []⟩, k ≤ s.size ∧ (bs s).all gB = ((bs s).drop k).all gB)) 0 aA ?_ ?_
 exact ⟨Nat.zero_le _, rfl⟩
 rintro k ⟨hk, hall⟩
 refine zc hG [] [0, 1] (decide (((k : Int) : Int) < ((s).size : Int))) aA (fun hc3 => ?_) (fun hc3 => ?_)
 (try simp only [blS, dI, dX] at hc3)
 refine zc hG [(6, 3, kB (cY (byteAt (s) (k : Int))))] [1, 1, 0, 0, 1, 1] (((!(cY (byteAt (s) (k : Int)))) && (!decide ((byteAt (s) (k : Int) : Int) = 95))) && ((decide ((byteAt (s) (k : Int) : Int) < 48)) || (decide ((byteAt (s) (k : Int) : Int) > 57)))) (aB (by intros; first | omega | decide | (simp only [zq0, dI, dX] at *; omega) : (0 : Int) ≤ (k : Int) ∧ (k : Int) < ((s).size : Int)) (aB (pY (byteAt (s) (k : Int)) : SpG g _ _ _ _ _) (aB (by intros; first | omega | decide | (simp only [zq0, dI, dX] at *; omega) : (!(cY (byteAt (s) (k : Int)))) = true → (0 : Int) ≤ (k : Int) ∧ (k : Int) < ((s).size : Int)) (aB (by intros; first | omega | decide | (simp only [zq0, dI, dX] at *; omega) : ((!(cY (byteAt (s) (k : Int)))) && (!decide ((byteAt (s) (k : Int) : Int) = 95))) = true → (0 : Int) ≤ (k : Int) ∧ (k : Int) < ((s).size : Int)) (aD (by intros; first | omega | decide | (simp only [zq0, dI, dX] at *; omega) : (decide ((byteAt (s) (k : Int) : Int) < 48)) = false → ((!(cY (byteAt (s) (k : Int)))) && (!decide ((byteAt (s) (k : Int) : Int) = 95))) = true → (0 : Int) ≤ (k : Int) ∧ (k : Int) < ((s).size : Int))))))) (fun hc4 => ?_) (fun hc4 => ?_)
 (try simp only [blS, dI, dX] at hc4)
 refine zE hG [] .ret (⟨[zB 2 false], []⟩) aA rfl ?_
 refine zR hG [] [] (.c (cB false)) [] aA ?_ ?_
 refine fF (aD3 ?_).symm
 rw [hall, oM s k (by omega)]
 simp only [gN] at hc4
 rw [List.all_cons, gB, aFH hc4, Bool.false_and]
 rfl
 (try simp only [blS, dI, dX] at hc4)
 refine zD hG [] (k + 1) (aD (by intros; first | omega | decide | (simp only [zq0, dI, dX] at *; omega) : inR ((k : Int) + 1))) ?_ ?_
 (try dsimp only); omega
 refine ⟨by omega, ?_⟩
 rw [hall, oM s k (by omega)]
 simp only [gN] at hc4
 rw [List.all_cons, gB, tail_of hc4, Bool.true_and]
 (try simp only [blS, dI, dX] at hc3)
 refine zE hG [] (.exit 0) (⟨[zB 2 false], []⟩) aA rfl ?_
 refine zR hG [] [] (.c (cB true)) [] aA ?_ ?_
 exact fF (aD2 hc1 (by rw [hall, aI4 s k (by omega)]; rfl)).symm
 rfl
end Go.Proofs.YtdejnaokkdndeaaGreatDoor
namespace Go.Proofs.YtdejnaokkdndeaaGreatDoor
open Go.RowKit Go.V
open Go.Eng (inR byteAt u8 aU)
variable {g : Gv}
def cK (v : Vl) : Bool := decide (v.s = []) && (v.dn == 0 && v.ds == 0) && decide (v.n = 0) && decide (v.cols = []) && decide (v.rows = [])
def j3 (l : List UInt8) : Bool := fH (S l)
def dW (l : List UInt8) : Bool := iG (S l)
theorem aD7 (l : List UInt8) : SpG g 83 [.c (cS (S l))] [] (.c (cB (j3 l))) [] := aAG (S l)
theorem aD6 (l : List UInt8) (h : l.length ≤ maxLen) : SpG g 54 [.c (cS (S l))] [] (.c (cB (dW l))) [] := aAF (S l) (by rw [aJ]; exact h)
def uQ (l : List (List UInt8)) (x : List UInt8) : Int := match l.findIdx? (fun y => decide (x = y)) with
 | some k => (k : Int)
 | none => -1
theorem idxI_at {l : List (List UInt8)} {k : Nat} {x : List UInt8} (hk : k < l.length) (hn : ∀ j, j < k → x ≠ l.getD j []) (hx : x = l.getD k []) : uQ l x = (k : Int) := by
 have : l.findIdx? (fun y => decide (x = y)) = some k := by
  rw [List.findIdx?_eq_some_iff_getElem]
  refine ⟨hk, by simpa [hk] using hx, fun j hj => ?_⟩
  have := hn j hj
  simpa [show j < l.length by omega] using this
 rw [uQ, this]
theorem aEA {l : List (List UInt8)} {x : List UInt8} (hn : ∀ j, j < l.length → x ≠ l.getD j []) : uQ l x = -1 := by
 have : l.findIdx? (fun y => decide (x = y)) = none := by
  rw [List.findIdx?_eq_none_iff]
  intro y hy
  obtain ⟨j, hj, rfl⟩ := List.mem_iff_getElem.1 hy
  have := hn j hj
  simpa [hj] using this
 rw [uQ, this]
theorem xA {l : List (List UInt8)} {x : List UInt8} : decide (uQ l x ≥ 0) = decide (x ∈ l) := by
 unfold uQ
 cases h : l.findIdx? (fun y => decide (x = y)) with
 | none =>
  rw [List.findIdx?_eq_none_iff] at h
  have : x ∉ l := fun hm => by have := h x hm; simp at this
  simp [this]
 | some k =>
  obtain ⟨hk, h1, _⟩ := List.findIdx?_eq_some_iff_getElem.1 h
  simp only [decide_eq_true_eq] at h1
  have : x ∈ l := by rw [h1]; exact List.getElem_mem hk
  simp [this]
def yD (n : Nat) (p : Nat → Bool) : Bool := (List.range n).all p
theorem nC {n : Nat} {p : Nat → Bool} (h : ∀ i, i < n → p i = true) : yD n p = true := by
 simp only [yD, List.all_eq_true, List.mem_range]; exact h
theorem kZ {n : Nat} {p : Nat → Bool} {i : Nat} (hi : i < n) (h : p i = false) : yD n p = false := by
 cases hh : yD n p with
 | false => rfl
 | true => simp only [yD, List.all_eq_true, List.mem_range] at hh; rw [hh i hi] at h; cases h
theorem fC {k : Nat} {q : Nat → Prop} (h : ∀ j, j < k → q j) (hk : q k) : ∀ j, j < k + 1 → q j := fun j hj => by
 rcases Nat.lt_succ_iff_lt_or_eq.1 hj with h' | h'
 exact h j h'
 rw [h']; exact hk
def bE (T : Bool) (v : Vl) : Bool :=
 if v.kind = 0 then decide (0 ≤ v.n) && decide (v.n ≤ 99) && cK { v with n := 0 }
 else if v.kind = 1 then dW v.s && cK { v with s := [] }
 else if v.kind = 2 then cD v.dn v.ds && cK { v with dn := 0, ds := 0 }
 else if v.kind = 3 then decide (0 ≤ v.n) && decide (v.n ≤ 3652058) && cK { v with n := 0 }
 else if v.kind = 4 then (decide (v.n = 0) || decide (v.n = 1)) && cK { v with n := 0 }
 else if v.kind = 5 then T && cK { v with cols := [], rows := [] }
 else false
def nameAt (cols : List (List UInt8)) (i : Nat) : Bool := j3 (cols.getD i []) && !decide (cols.getD i [] ∈ cols.take i)
def cellAt (r : List Cl) (j : Nat) : Bool := !decide ((r.getD j Cl.z).kind = 5) && bE false (r.getD j Cl.z).toV
def rowAt (cols : List (List UInt8)) (rows : List (List Cl)) (i : Nat) : Bool := decide ((rows.getD i []).length = cols.length) && yD (rows.getD i []).length (cellAt (rows.getD i []))
def gC (cols : List (List UInt8)) (rows : List (List Cl)) : Bool := decide (cols.length ≤ 8) && decide (rows.length ≤ 100) && yD cols.length (nameAt cols) && yD rows.length (rowAt cols rows)
def kJ (v : Vl) : Bool := bE (gC v.cols v.rows) v
structure Vl.fit (v : Vl) : Prop where
 s : v.s.length ≤ maxLen
 cols : ∀ t, t ∈ v.cols → t.length ≤ maxLen
 cells : ∀ r, r ∈ v.rows → ∀ c, c ∈ r → c.s.length ≤ maxLen
def s8 (c : Cl) : SV := .agg (zW c)
theorem p7 {α : Type} {l : List α} {k : Nat} {z : α} (h : k < l.length) : l.getD k z ∈ l := by simp [h]
theorem vU {cols : List (List UInt8)} {rows : List (List Cl)} (h : (cols.length : Int) > 8 ∨ (rows.length : Int) > 100) : gC cols rows = false := by
 have : (decide (cols.length ≤ 8) && decide (rows.length ≤ 100)) = false := by
  rcases h with h | h
  simp; omega
  simp; omega
 simp only [gC, this, Bool.false_and]
theorem vT {cols : List (List UInt8)} {rows : List (List Cl)} {k : Nat} (hk : k < cols.length) (h : nameAt cols k = false) : gC cols rows = false := by
 rw [gC, kZ hk h]; simp
theorem oX {cols : List (List UInt8)} {rows : List (List Cl)} {k : Nat} (hk : k < rows.length) (h : rowAt cols rows k = false) : gC cols rows = false := by
 rw [gC, kZ (p := rowAt cols rows) hk h]; simp
theorem aDA {cols : List (List UInt8)} {rows : List (List Cl)} (h : ¬ (cols.length : Int) > 8 ∧ ¬ (rows.length : Int) > 100) (hn : ∀ j, j < cols.length → nameAt cols j = true) (hr : ∀ j, j < rows.length → rowAt cols rows j = true) : gC cols rows = true := by
 rw [gC, nC hn, nC hr]; simp; omega
theorem aDI {cols : List (List UInt8)} {rows : List (List Cl)} {i : Nat} (h : ¬ ((rows.getD i []).length : Int) = (cols.length : Int)) : rowAt cols rows i = false := by
 have : ¬ (rows.getD i []).length = cols.length := by omega
 simp only [rowAt, this, decide_false, Bool.false_and]
theorem yW {cols : List (List UInt8)} {rows : List (List Cl)} {i m : Nat} (hm : m < (rows.getD i []).length) (h : cellAt (rows.getD i []) m = false) : rowAt cols rows i = false := by
 rw [rowAt, kZ hm h]; simp
theorem j8 (v : Vl) :
  SpG g 53 [.agg (zV v)] [] (.c (cB (cK v))) [] := by
 refine aL 29 Tryz.func53 (by kernel_rfl) fun fr hG => ?_
 refine zR hG [] [] (.c (cB ((((((S v.s).toList == (S []).toList) && (((v.dn : Int) == 0) && ((v.ds : Int) == 0))) && (decide ((v.n : Int) = 0))) && (decide ((((strs v.cols).length : Int) : Int) = 0))) && (decide ((((rowsD v.rows).length : Int) : Int) = 0))))) [] aA ?_ ?_
 rw [aCY]; simp [cK, strs, rowsD]
 rfl
def zq1 := And.intro @List.length_map.{0, 0} (And.intro @S_eqf (And.intro @S_eqv (And.intro @blS (And.intro @rowD.eq_1 (And.intro @rowsD.eq_1 (And.intro @strs.eq_1 (@valsD.eq_1)))))))
def zq2 := And.intro @List.length_map.{0, 0} (@strs.eq_1)
theorem aHS (l : List (List UInt8)) (x : List UInt8) :
  SpG g 163 [.c (cM 1 (strs l)), .c (cS (S x))] [] (.c (cI (uQ l x))) [] := by
 refine aL 19 Tryz.func163 (by kernel_rfl) fun fr hG => ?_
 refine cT 0 rfl fun hl => ?_
 refine zL hG [] [0, 1, 0, 1] (fun (zz : Nat) => match zz with | k => (l.length - k, ⟨[zM 0 1 (strs l), zS 1 (S x), zI 4 0, zI 7 ((strs l).length : Int), zI 8 (k : Int)], []⟩, k ≤ l.length ∧ ∀ j, j < k → x ≠ l.getD j [])) 0 aA ?_ ?_
 ·exact ⟨Nat.zero_le _, fun j hj => by omega⟩
 rintro k ⟨hk, hn⟩
 refine zc hG [] [0, 1] (decide (((k : Int) : Int) < ((strs l).length : Int))) aA (fun hc2 => ?_) (fun hc2 => ?_)
 ·(try simp only [zq1] at hc2)
  refine zC hG [(4, 3, .elem (mH ((l).getD k [])))] [1, 1, 0, 0, 1, 1] ((S x).toList == (S ((l).getD k [])).toList) (⟨[zM 0 1 (strs l), zS 1 (S x), zI 4 0, zI 5 (k : Int), zI 7 ((strs l).length : Int), zI 8 (k : Int)], []⟩) (aD (by intros; exact aT [] (by omega) (by (try simp only [zq2] at *); omega) : (0 : Int) ≤ (k : Int) ∧ (strs l)[k]? = some (mH ((l).getD k [])))) (fun hc3 => ?_) (fun hc3 => ?_)
  ·(try simp only [zq1] at hc3)
   refine zE hG [] .ret (⟨[zI 4 (k : Int)], []⟩) aA rfl ?_
   refine zR hG [] [] (.c (cI (k : Int))) [] aA ?_ ?_
   ·rw [idxI_at (by omega) hn (by simpa using hc3)]
   ·rfl
  ·(try simp only [zq1] at hc3)
   refine zD hG [] (k + 1) (aD (by (try simp only [strs, List.length_map, inR, maxLen] at *); omega : inR ((k : Int) + 1))) ?_ ?_
   ·(try simp only [zq2] at *); (try dsimp only); omega
   ·exact ⟨by omega, fun j hj => by rcases Nat.lt_succ_iff_lt_or_eq.1 hj with h | h; (· exact hn j h); rw [h]; simpa using hc3⟩
 ·(try simp only [zq1] at hc2)
  refine zE hG [] (.exit 0) (⟨[zI 4 0], []⟩) aA rfl ?_
  refine zR hG [] [] (.c (cI (-1))) [] aA ?_ ?_
  ·rw [aEA (fun j hj => hn j (by omega))]
  ·rfl
theorem xT (l : List (List UInt8)) (x : List UInt8) :
  SpG g 84 [.c (cM 1 (strs l)), .c (cS (S x))] [] (.c (cB (decide (x ∈ l)))) [] := by
 refine aL 9 Tryz.func84 (by kernel_rfl) fun fr hG => ?_
 refine zR hG [(1, 2, kI (uQ (l) (x)))] [] (.c (cB (decide ((uQ (l) (x) : Int) ≥ 0)))) [] (aD (aHS (l) (x) : SpG g _ _ _ _ _)) ?_ ?_
 rw [xA]
 rfl
theorem xU {es : List (List D)} {l : List (List UInt8)} (h : es = strs l) (x : List UInt8) : SpG g 84 [.c (cM 1 es), .c (cS (S x))] [] (.c (cB (decide (x ∈ l)))) [] := by subst h; exact xT l x
theorem v6 (v : Vl) (T : Bool) (hs : v.s.length ≤ maxLen) (hT : SpG g 56 [.c (cM 1 (strs v.cols)), .c (cM 1 (rowsD v.rows))] [] (.c (cB T)) []) :
  SpG g 20 [.agg (zV v)] [] (.c (cB (bE T v))) [] := by
 refine aL 86 Tryz.func20 (by kernel_rfl) fun fr hG => ?_
 refine zP hG [] [1, 0, 1, 0, 1, 1] ((v.kind : Int) = 0) (⟨[zX 1 100 0, zB 2 false, zX 3 201 0, zI 6 v.kind], [(100, .box 42 (zV v)), (201, .box 42 (zV v))]⟩) aA (fun hc1 => ?_) (fun hc1 => ?_)
 skip
 refine zR hG [(5, 10, kB (cK (⟨v.kind, v.s, v.dn, v.ds, 0, v.cols, v.rows⟩ : Vl)))] [] (.c (cB (((decide ((v.n : Int) ≥ 0)) && (decide ((v.n : Int) ≤ 99))) && (cK (⟨v.kind, v.s, v.dn, v.ds, 0, v.cols, v.rows⟩ : Vl))))) [] (aD (fun (hg1 : ((decide ((v.n : Int) ≥ 0)) && (decide ((v.n : Int) ≤ 99))) = true) => (j8 (⟨v.kind, v.s, v.dn, v.ds, 0, v.cols, v.rows⟩ : Vl) : SpG g _ _ _ _ _))) ?_ ?_
 simp [bE, *]
 rfl
 skip
 refine zp hG [] [1, 1, 1, 0, 1, 0, 1, 1] ((v.kind : Int) = 1) aA (fun hc2 => ?_) (fun hc2 => ?_)
 skip
 refine zR hG [(8, 2, kB (dW (v.s))), (8, 5, kB (cK (⟨v.kind, [], v.dn, v.ds, v.n, v.cols, v.rows⟩ : Vl)))] [] (.c (cB ((dW (v.s)) && (cK (⟨v.kind, [], v.dn, v.ds, v.n, v.cols, v.rows⟩ : Vl))))) [] (aB (aD6 (v.s) (by assumption) : SpG g _ _ _ _ _) (aD (fun (hg1 : (dW (v.s)) = true) => (j8 (⟨v.kind, [], v.dn, v.ds, v.n, v.cols, v.rows⟩ : Vl) : SpG g _ _ _ _ _)))) ?_ ?_
 simp [bE, *]
 rfl
 skip
 refine zp hG [] [1, 1, 1, 1, 1, 0, 1, 0, 1, 1] ((v.kind : Int) = 2) aA (fun hc3 => ?_) (fun hc3 => ?_)
 skip
 refine zR hG [(11, 2, kB (cD v.dn v.ds)), (11, 5, kB (cK (⟨v.kind, v.s, 0, 0, v.n, v.cols, v.rows⟩ : Vl)))] [] (.c (cB ((cD v.dn v.ds) && (cK (⟨v.kind, v.s, 0, 0, v.n, v.cols, v.rows⟩ : Vl))))) [] (aB (n5 v.dn v.ds : SpG g _ _ _ _ _) (aD (fun (hg1 : (cD v.dn v.ds) = true) => (j8 (⟨v.kind, v.s, 0, 0, v.n, v.cols, v.rows⟩ : Vl) : SpG g _ _ _ _ _)))) ?_ ?_
 simp [bE, *]
 rfl
 skip
 refine zp hG [] [1, 1, 1, 1, 1, 1, 1, 0, 1, 0, 1, 1] ((v.kind : Int) = 3) aA (fun hc4 => ?_) (fun hc4 => ?_)
 skip
 refine zR hG [(14, 10, kB (cK (⟨v.kind, v.s, v.dn, v.ds, 0, v.cols, v.rows⟩ : Vl)))] [] (.c (cB (((decide ((v.n : Int) ≥ 0)) && (decide ((v.n : Int) ≤ 3652058))) && (cK (⟨v.kind, v.s, v.dn, v.ds, 0, v.cols, v.rows⟩ : Vl))))) [] (aD (fun (hg1 : ((decide ((v.n : Int) ≥ 0)) && (decide ((v.n : Int) ≤ 3652058))) = true) => (j8 (⟨v.kind, v.s, v.dn, v.ds, 0, v.cols, v.rows⟩ : Vl) : SpG g _ _ _ _ _))) ?_ ?_
 simp [bE, *]
 rfl
 skip
 refine zp hG [] [1, 1, 1, 1, 1, 1, 1, 1, 1, 0, 1, 0, 1, 1] ((v.kind : Int) = 4) aA (fun hc5 => ?_) (fun hc5 => ?_)
 skip
 refine zR hG [(17, 10, kB (cK (⟨v.kind, v.s, v.dn, v.ds, 0, v.cols, v.rows⟩ : Vl)))] [] (.c (cB (((decide ((v.n : Int) = 0)) || (decide ((v.n : Int) = 1))) && (cK (⟨v.kind, v.s, v.dn, v.ds, 0, v.cols, v.rows⟩ : Vl))))) [] (aD (fun (hg1 : ((decide ((v.n : Int) = 0)) || (decide ((v.n : Int) = 1))) = true) => (j8 (⟨v.kind, v.s, v.dn, v.ds, 0, v.cols, v.rows⟩ : Vl) : SpG g _ _ _ _ _))) ?_ ?_
 simp [bE, *]
 rfl
 skip
 refine zP hG [] [1, 1, 1, 1, 1, 1, 1, 1, 1, 1, 1, 0, 1, 0, 1, 1] ((v.kind : Int) = 5) (⟨[zX 1 100 0, zB 2 false, zX 3 201 0], [(100, .box 42 (zV v)), (201, .box 42 (zV v))]⟩) aA (fun hc6 => ?_) (fun hc6 => ?_)
 skip
 refine zR hG [(20, 4, kB T), (20, 7, kB (cK (⟨v.kind, v.s, v.dn, v.ds, v.n, [], []⟩ : Vl)))] [] (.c (cB (T && (cK (⟨v.kind, v.s, v.dn, v.ds, v.n, [], []⟩ : Vl))))) [] (aB (hT : SpG g _ _ _ _ _) (aD (fun (hg1 : T = true) => (jT (ins := [.agg [cI v.kind, cS (S v.s), cI v.dn, cI v.ds, cI v.n, cN, cN]]) [[none, none, none, none, none, some 1, some 1]] (j8 (⟨v.kind, v.s, v.dn, v.ds, v.n, [], []⟩ : Vl)) : SpG g _ _ _ _ _)))) ?_ ?_
 simp [bE, *]
 rfl
 skip
 refine zR hG [] [] (.c (cB false)) [] aA ?_ ?_
 simp [bE, *]
 rfl
def zq3 := And.intro @List.length_map.{0, 0} (And.intro @Go.Eng.inR.eq_1 (And.intro @maxLen.eq_1 (And.intro @rowD.eq_1 (And.intro @rowsD.eq_1 (@strs.eq_1)))))
def zq4 := And.intro @List.length_map.{0, 0} (And.intro @rowD.eq_1 (And.intro @rowsD.eq_1 (And.intro @strs.eq_1 (@valsD.eq_1))))
theorem kD (cols : List (List UInt8)) (rows : List (List Cl)) (hR : ∀ c : Cl, (∃ r ∈ rows, c ∈ r) → ¬ c.kind = 5 → SpG g 20 [s8 c] [] (.c (cB (bE false c.toV))) []) :
  SpG g 56 [.c (cM 1 (strs cols)), .c (cM 1 (rowsD rows))] [] (.c (cB (gC cols rows))) [] := by
 refine aL 64 Tryz.func56 (by kernel_rfl) fun fr hG => ?_
 refine cT 0 rfl fun hl0 => ?_
 refine cT 1 rfl fun hl1 => ?_
 refine zC hG [] [1, 0, 1] ((decide ((((strs cols).length : Int) : Int) > 8)) || (decide ((((rowsD rows).length : Int) : Int) > 100))) (⟨[zM 0 1 (strs cols), zM 1 1 (rowsD rows), zB 4 false], []⟩) aA (fun hc1 => ?_) (fun hc1 => ?_)
 (try simp only [zq1] at hc1)
 refine zR hG [] [] (.c (cB false)) [] aA ?_ ?_
 rw [vU hc1]
 rfl
 (try simp only [zq1] at hc1)
 refine zL hG [] [0, 1, 0, 1, 1] (fun (zz : Nat) => match zz with | k => (cols.length - k, ⟨[zM 0 1 (strs cols), zM 1 1 (rowsD rows), zB 4 false, zM 19 1 (strs cols), zI 20 ((strs cols).length : Int), zI 21 (k : Int)], []⟩, k ≤ cols.length ∧ ∀ j, j < k → nameAt cols j = true)) 0 aA ?_ ?_
 exact ⟨Nat.zero_le _, fun j hj => by omega⟩
 rintro k ⟨hk, hn⟩
 refine zc hG [] [0, 1] (decide (((k : Int) : Int) < ((strs cols).length : Int))) aA (fun hc3 => ?_) (fun hc3 => ?_)
 (try simp only [zq1] at hc3)
 refine zc hG [(5, 1, .elem (mH ((cols).getD k []))), (6, 1, kB (j3 ((cols).getD k []))), (6, 8, kB (decide (((cols).getD k []) ∈ (((cols).take k).drop 0))))] [1, 1, 0, 0, 1, 1] ((!(j3 ((cols).getD k []))) || (decide (((cols).getD k []) ∈ (((cols).take k).drop 0)))) (aB (by intros; exact aT [] (by omega) (by (try simp only [zq2] at *); omega) : (0 : Int) ≤ (k : Int) ∧ (strs cols)[k]? = some (mH ((cols).getD k []))) (aB (aD7 ((cols).getD k []) : SpG g _ _ _ _ _) (aB (by (try simp only [zq3] at *); omega : (!(j3 ((cols).getD k []))) = false → (0 : Int) ≤ 0 ∧ (0 : Int) ≤ (k : Int) ∧ (k : Int) ≤ ((strs cols).length : Int)) (aD (fun (hg1 : (!(j3 ((cols).getD k []))) = false) => (xU (es := ((strs cols).take k).drop 0) (l := ((cols).take k).drop 0) (by simp only [strs, List.map_take, List.map_drop]) ((cols).getD k []) : SpG g _ _ _ _ _)))))) (fun hc4 => ?_) (fun hc4 => ?_)
 (try simp only [zq1] at hc4)
 refine zE hG [] .ret (⟨[zM 0 1 (strs cols), zM 1 1 (rowsD rows), zB 4 false], []⟩) aA rfl ?_
 refine zR hG [] [] (.c (cB false)) [] aA ?_ ?_
 rw [vT (k := k) (by omega) ?_]
 simp only [nameAt, Bool.and_eq_false_iff, Bool.not_eq_false', decide_eq_true_eq]
 exact hc4
 rfl
 (try simp only [zq1] at hc4)
 refine zD hG [] (k + 1) (aD (by (try simp only [zq3] at *); omega : inR ((k : Int) + 1))) ?_ ?_
 (try dsimp only); omega
 refine ⟨by omega, fC hn ?_⟩
 simp only [nameAt, Bool.and_eq_true, Bool.not_eq_true', decide_eq_false_iff_not]
 exact hc4
 (try simp only [zq1] at hc3)
 refine zE hG [] (.exit 0) (⟨[zM 0 1 (strs cols), zM 1 1 (rowsD rows), zB 4 false], []⟩) aA rfl ?_
 refine zL hG [] [0, 1, 0, 1, 1, 1] (fun (zz : Nat) => match zz with | i => (rows.length - i, ⟨[zM 0 1 (strs cols), zB 4 false, zM 37 1 (rowsD rows), zI 38 ((rowsD rows).length : Int), zI 39 (i : Int)], []⟩, i ≤ rows.length ∧ ∀ j, j < i → rowAt cols rows j = true)) 0 aA ?_ ?_
 exact ⟨Nat.zero_le _, fun j hj => by omega⟩
 rintro i ⟨hi, hr⟩
 refine zc hG [] [0, 1] (decide (((i : Int) : Int) < ((rowsD rows).length : Int))) aA (fun hc6 => ?_) (fun hc6 => ?_)
 (try simp only [zq1] at hc6)
 refine zC hG [(11, 0, .elem (o4 ((rows).getD i [])))] [1, 0, 1, 0, 0, 1, 1] (!decide ((((rowD ((rows).getD i [])).length : Int) : Int) = ((strs cols).length : Int))) (⟨[zM 0 1 (strs cols), zB 4 false, zM 8 7 (rowD ((rows).getD i [])), zM 37 1 (rowsD rows), zI 38 ((rowsD rows).length : Int), zI 39 (i : Int)], []⟩) (aD (by intros; exact aT _ (by omega) (by (try simp only [zq4] at *); omega) : (0 : Int) ≤ (i : Int) ∧ (rowsD rows)[i]? = some (o4 ((rows).getD i [])))) (fun hc7 => ?_) (fun hc7 => ?_)
 (try simp only [zq1] at hc7)
 refine zE hG [] .ret (⟨[zB 4 false], []⟩) aA rfl ?_
 refine zR hG [] [] (.c (cB false)) [] aA ?_ ?_
 rw [oX (k := i) (by omega) (aDI hc7)]
 rfl
 (try simp only [zq1] at hc7)
 refine zL hG [] [0, 1, 1, 1, 0, 0, 1, 1] (fun (zz : Nat) => match zz with | m => ((rows.getD i []).length - m, ⟨[zM 0 1 (strs cols), zB 4 false, zM 37 1 (rowsD rows), zI 38 ((rowsD rows).length : Int), zI 39 (i : Int), zM 48 7 (rowD ((rows).getD i [])), zI 49 ((rowD ((rows).getD i [])).length : Int), zI 50 (m : Int)], []⟩, m ≤ (rows.getD i []).length ∧ ∀ j, j < m → cellAt (rows.getD i []) j = true)) 0 aA ?_ ?_
 exact ⟨Nat.zero_le _, fun j hj => by omega⟩
 rintro m ⟨hm, hcl⟩
 refine zc hG [] [0, 1] (decide (((m : Int) : Int) < ((rowD ((rows).getD i [])).length : Int))) aA (fun hc9 => ?_) (fun hc9 => ?_)
 (try simp only [zq1] at hc9)
 refine zc hG [(16, 0, .elem (ClD (((rows).getD i []).getD m Cl.z))), (17, 5, kB (bE false (((rows).getD i []).getD m Cl.z).toV))] [1, 1, 0, 0, 1, 1] ((decide (((((rows).getD i []).getD m Cl.z).kind : Int) = 5)) || (!(bE false (((rows).getD i []).getD m Cl.z).toV))) (aB (by intros; exact aT _ (by omega) (by (try simp only [zq4] at *); omega) : (0 : Int) ≤ (m : Int) ∧ (rowD ((rows).getD i []))[m]? = some (ClD (((rows).getD i []).getD m Cl.z))) (aD (fun (hg1 : (decide (((((rows).getD i []).getD m Cl.z).kind : Int) = 5)) = false) => (hR (((rows).getD i []).getD m Cl.z) ⟨rows.getD i [], p7 (by omega), p7 (by (try simp only [rowD, List.length_map] at *); omega)⟩ (by simpa using hg1) : SpG g _ _ _ _ _)))) (fun hc10 => ?_) (fun hc10 => ?_)
 (try simp only [zq1] at hc10)
 refine zE hG [] .ret (⟨[zM 0 1 (strs cols), zB 4 false, zM 37 1 (rowsD rows), zI 38 ((rowsD rows).length : Int), zI 39 (i : Int)], []⟩) aA rfl ?_
 refine zE hG [] .ret (⟨[zB 4 false], []⟩) aA rfl ?_
 refine zR hG [] [] (.c (cB false)) [] aA ?_ ?_
 rw [oX (k := i) (by omega) (yW (m := m) (by omega) ?_)]
 simp only [cellAt, Bool.and_eq_false_iff, Bool.not_eq_false', decide_eq_true_eq]
 exact hc10
 rfl
 (try simp only [zq1] at hc10)
 refine zD hG [] (m + 1) (aD (by (try simp only [zq3] at *); omega : inR ((m : Int) + 1))) ?_ ?_
 (try dsimp only); omega
 refine ⟨by omega, fC hcl ?_⟩
 simp only [cellAt, Bool.and_eq_true, Bool.not_eq_true', decide_eq_false_iff_not]
 exact hc10
 (try simp only [zq1] at hc9)
 refine zE hG [] (.exit 4) (⟨[zM 0 1 (strs cols), zB 4 false, zM 37 1 (rowsD rows), zI 38 ((rowsD rows).length : Int), zI 39 (i : Int)], []⟩) aA rfl ?_
 refine zD hG [] (i + 1) (aD (by (try simp only [zq3] at *); omega : inR ((i : Int) + 1))) ?_ ?_
 (try dsimp only); omega
 refine ⟨by omega, fC hr ?_⟩
 have : m = (rows.getD i []).length := by omega
 subst this
 simp only [rowAt, Bool.and_eq_true, decide_eq_true_eq]
 exact ⟨by omega, nC hcl⟩
 (try simp only [zq1] at hc6)
 refine zE hG [] (.exit 2) (⟨[zB 4 false], []⟩) aA rfl ?_
 refine zR hG [] [] (.c (cB true)) [] aA ?_ ?_
 rw [aDA hc1 (fun j hj => hn j (by omega)) (fun j hj => hr j (by omega))]
 rfl
theorem aA1 (c : Cl) (hs : c.s.length ≤ maxLen) (hk : ¬ c.kind = 5) : SpG g 20 [s8 c] [] (.c (cB (bE false c.toV))) [] := by
 have h := v6 (g := g) c.toV _ hs (kD [] [] (fun c ⟨r, hr, _⟩ => by cases hr))
 have e : bE (gC [] []) c.toV = bE false c.toV := by
  have : c.toV.kind = c.kind := rfl
  simp [bE, this, hk]
 rw [e] at h
 exact h
theorem o5 (v : Vl) (h : v.fit) : SpG g 20 [yJ v] [] (.c (cB (kJ v))) [] :=
 v6 v _ h.s (kD v.cols v.rows fun c ⟨r, hr, hc⟩ hk => aA1 c (h.cells r hr c hc) hk)
end Go.Proofs.YtdejnaokkdndeaaGreatDoor
namespace Go.Proofs.YtdejnaokkdndeaaGreatDoor
open Go.RowKit Go.V
open Go.Eng (inR byteAt u8 aU)
variable {g : Gv}
theorem mT {α : Type} {a b : List α} (z : α) (hl : a.length = b.length) (h : ∀ j, j < a.length → a.getD j z = b.getD j z) : a = b := by
 apply List.ext_getElem hl
 intro j h1 h2
 have := h j h1
 simpa [h1, h2] using this
theorem pT {α : Type} {a b : List α} (z : α) {j : Nat} (h : ¬ a.getD j z = b.getD j z) : ¬ a = b := fun e => h (by rw [e])
def eqK (T : Bool) (a b : Vl) : Bool := decide (a.kind = b.kind) && decide (a.s = b.s) && (a.dn == b.dn && a.ds == b.ds) && decide (a.n = b.n) && decide (a.cols = b.cols) && T
theorem aIC {a b : Vl} : eqK (decide (a.rows = b.rows)) a b = decide (a = b) := by
 obtain ⟨k, s, dn, ds, n, c, r⟩ := a
 obtain ⟨k', s', dn', ds', n', c', r'⟩ := b
 simp only [eqK, Vl.mk.injEq]
 by_cases h1 : k = k' <;> by_cases h2 : s = s' <;> by_cases h3 : dn = dn' <;> by_cases h4 : ds = ds' <;> by_cases h5 : n = n' <;> by_cases h6 : c = c' <;> by_cases h7 : r = r' <;> simp [h1, h2, h3, h4, h5, h6, h7]
theorem toV_inj {a b : Cl} : a.toV = b.toV ↔ a = b := by
 obtain ⟨k, s, dn, ds, n⟩ := a
 obtain ⟨k', s', dn', ds', n'⟩ := b
 simp [Cl.toV]
theorem q8 (a b : List (List UInt8)) :
  SpG g 52 [.c (cM 1 (strs a)), .c (cM 1 (strs b))] [] (.c (cB (decide (a = b)))) [] := by
 refine aL 26 Tryz.func52 (by kernel_rfl) fun fr hG => ?_
 refine cT 0 rfl fun hl0 => ?_
 refine cT 1 rfl fun hl1 => ?_
 refine zC hG [] [1, 0, 1] (!decide ((((strs a).length : Int) : Int) = ((strs b).length : Int))) (⟨[zM 0 1 (strs a), zM 1 1 (strs b), zB 4 false], []⟩) aA (fun hc1 => ?_) (fun hc1 => ?_)
 (try simp only [zq1] at hc1)
 refine zR hG [] [] (.c (cB false)) [] aA ?_ ?_
 have : ¬ a = b := fun e => hc1 (by rw [e])
 simp [this]
 rfl
 (try simp only [zq1] at hc1)
 refine zL hG [] [0, 1, 0, 1, 1] (fun (zz : Nat) => match zz with | k => (a.length - k, ⟨[zM 0 1 (strs a), zM 1 1 (strs b), zB 4 false, zI 5 (k : Int)], []⟩, k ≤ a.length ∧ ∀ j, j < k → a.getD j [] = b.getD j [])) 0 aA ?_ ?_
 exact ⟨Nat.zero_le _, fun j hj => by omega⟩
 rintro k ⟨hk, hn⟩
 refine zc hG [] [1, 0] (decide (((k : Int) : Int) < ((strs a).length : Int))) aA (fun hc3 => ?_) (fun hc3 => ?_)
 (try simp only [zq1] at hc3)
 refine zc hG [(6, 2, .elem (mH ((a).getD k []))), (6, 6, .elem (mH ((b).getD k [])))] [1, 0, 0, 1] (!((S ((a).getD k [])).toList == (S ((b).getD k [])).toList)) (aB (by intros; exact aT [] (by omega) (by (try simp only [zq2] at *); omega) : (0 : Int) ≤ (k : Int) ∧ (strs a)[k]? = some (mH ((a).getD k []))) (aD (by intros; exact aT [] (by omega) (by (try simp only [zq2] at *); omega) : (0 : Int) ≤ (k : Int) ∧ (strs b)[k]? = some (mH ((b).getD k []))))) (fun hc4 => ?_) (fun hc4 => ?_)
 (try simp only [zq1] at hc4)
 refine zE hG [] .ret (⟨[zB 4 false], []⟩) aA rfl ?_
 refine zR hG [] [] (.c (cB false)) [] aA ?_ ?_
 have : ¬ a = b := pT [] (j := k) (by simpa using hc4)
 simp [this]
 rfl
 (try simp only [zq1] at hc4)
 refine zD hG [] (k + 1) (aD (by intros; (try simp only [strs, rowD, rowsD, valsD, List.length_map, inR, maxLen] at *); omega : inR ((k : Int) + 1))) ?_ ?_
 (try dsimp only); omega
 exact ⟨by omega, fC hn (by simpa using hc4)⟩
 (try simp only [zq1] at hc3)
 refine zE hG [] (.exit 0) (⟨[zB 4 false], []⟩) aA rfl ?_
 refine zR hG [] [] (.c (cB true)) [] aA ?_ ?_
 have : a = b := mT [] (by omega) (fun j hj => hn j (by omega))
 simp [this]
 rfl
theorem mJ (a b : List (List Cl)) (ha : a = []) (hb : b = []) :
  SpG g 30 [.c (cM 1 (rowsD a)), .c (cM 1 (rowsD b))] [] (.c (cB true)) [] := by
 refine aL 29 Tryz.func30 (by kernel_rfl) fun fr hG => ?_
 refine zC hG [] [1, 0, 1] (!decide ((((rowsD a).length : Int) : Int) = ((rowsD b).length : Int))) (⟨[zM 0 1 (rowsD a), zM 1 1 (rowsD b), zB 4 false], []⟩) aA (fun hc1 => ?_) (fun hc1 => ?_)
 (try simp only [zq1] at hc1)
 exfalso; simp [ha, hb] at hc1; try omega
 (try simp only [zq1] at hc1)
 refine zL hG [] [0, 1, 0, 1, 1] (fun (zz : Nat) => match zz with | k => (0, ⟨[zM 0 1 (rowsD a), zM 1 1 (rowsD b), zB 4 false, zI 5 (k : Int)], []⟩, k = 0)) 0 aA ?_ ?_
 rfl
 rintro k hk
 refine zc hG [] [1, 0] (decide (((k : Int) : Int) < ((rowsD a).length : Int))) aA (fun hc3 => ?_) (fun hc3 => ?_)
 (try simp only [zq1] at hc3)
 exfalso; simp [ha, hb] at hc3; try omega
 (try simp only [zq1] at hc3)
 refine zE hG [] (.exit 0) (⟨[zB 4 false], []⟩) aA rfl ?_
 exact zr hG [] [] aA
theorem wC (a b : List Cl) (hE : ∀ x y : Cl, SpG g 19 [s8 x, s8 y] [] (.c (cB (decide (x = y)))) []) :
  SpG g 67 [.c (cM 7 (rowD a)), .c (cM 7 (rowD b))] [] (.c (cB (decide (a = b)))) [] := by
 refine aL 29 Tryz.func67 (by kernel_rfl) fun fr hG => ?_
 refine cT 0 rfl fun hl0 => ?_
 refine cT 1 rfl fun hl1 => ?_
 refine zC hG [] [1, 0, 1] (!decide ((((rowD a).length : Int) : Int) = ((rowD b).length : Int))) (⟨[zM 0 7 (rowD a), zM 1 7 (rowD b), zB 4 false], []⟩) aA (fun hc1 => ?_) (fun hc1 => ?_)
 (try simp only [zq1] at hc1)
 refine zR hG [] [] (.c (cB false)) [] aA ?_ ?_
 have : ¬ a = b := fun e => hc1 (by rw [e])
 simp [this]
 rfl
 (try simp only [zq1] at hc1)
 refine zL hG [] [0, 1, 0, 1, 1] (fun (zz : Nat) => match zz with | k => (a.length - k, ⟨[zM 0 7 (rowD a), zM 1 7 (rowD b), zB 4 false, zI 5 (k : Int)], []⟩, k ≤ a.length ∧ ∀ j, j < k → a.getD j Cl.z = b.getD j Cl.z)) 0 aA ?_ ?_
 exact ⟨Nat.zero_le _, fun j hj => by omega⟩
 rintro k ⟨hk, hn⟩
 refine zc hG [] [1, 0] (decide (((k : Int) : Int) < ((rowD a).length : Int))) aA (fun hc3 => ?_) (fun hc3 => ?_)
 (try simp only [zq1] at hc3)
 refine zc hG [(6, 2, .elem (ClD ((a).getD k Cl.z))), (6, 6, .elem (ClD ((b).getD k Cl.z))), (6, 8, kB (decide (((a).getD k Cl.z) = ((b).getD k Cl.z))))] [1, 1, 0, 0, 1] (!(decide (((a).getD k Cl.z) = ((b).getD k Cl.z)))) (aB (by intros; exact aT _ (by omega) (by (try simp only [zq4] at *); omega) : (0 : Int) ≤ (k : Int) ∧ (rowD a)[k]? = some (ClD ((a).getD k Cl.z))) (aB (by intros; exact aT _ (by omega) (by (try simp only [zq4] at *); omega) : (0 : Int) ≤ (k : Int) ∧ (rowD b)[k]? = some (ClD ((b).getD k Cl.z))) (aD (hE ((a).getD k Cl.z) ((b).getD k Cl.z) : SpG g _ _ _ _ _)))) (fun hc4 => ?_) (fun hc4 => ?_)
 (try simp only [zq1] at hc4)
 refine zE hG [] .ret (⟨[zB 4 false], []⟩) aA rfl ?_
 refine zR hG [] [] (.c (cB false)) [] aA ?_ ?_
 have : ¬ a = b := pT Cl.z (j := k) (by simpa using hc4)
 simp [this]
 rfl
 (try simp only [zq1] at hc4)
 refine zD hG [] (k + 1) (aD (by intros; (try simp only [strs, rowD, rowsD, valsD, List.length_map, inR, maxLen] at *); omega : inR ((k : Int) + 1))) ?_ ?_
 (try dsimp only); omega
 exact ⟨by omega, fC hn (by simpa using hc4)⟩
 (try simp only [zq1] at hc3)
 refine zE hG [] (.exit 0) (⟨[zB 4 false], []⟩) aA rfl ?_
 refine zR hG [] [] (.c (cB true)) [] aA ?_ ?_
 have : a = b := mT Cl.z (by omega) (fun j hj => hn j (by omega))
 simp [this]
 rfl
theorem pA (a b : List (List Cl)) (hS : ∀ x y : List Cl, SpG g 67 [.c (cM 7 (rowD x)), .c (cM 7 (rowD y))] [] (.c (cB (decide (x = y)))) []) :
  SpG g 30 [.c (cM 1 (rowsD a)), .c (cM 1 (rowsD b))] [] (.c (cB (decide (a = b)))) [] := by
 refine aL 29 Tryz.func30 (by kernel_rfl) fun fr hG => ?_
 refine cT 0 rfl fun hl0 => ?_
 refine cT 1 rfl fun hl1 => ?_
 refine zC hG [] [1, 0, 1] (!decide ((((rowsD a).length : Int) : Int) = ((rowsD b).length : Int))) (⟨[zM 0 1 (rowsD a), zM 1 1 (rowsD b), zB 4 false], []⟩) aA (fun hc1 => ?_) (fun hc1 => ?_)
 (try simp only [zq1] at hc1)
 refine zR hG [] [] (.c (cB false)) [] aA ?_ ?_
 have : ¬ a = b := fun e => hc1 (by rw [e])
 simp [this]
 rfl
 (try simp only [zq1] at hc1)
 refine zL hG [] [0, 1, 0, 1, 1] (fun (zz : Nat) => match zz with | k => (a.length - k, ⟨[zM 0 1 (rowsD a), zM 1 1 (rowsD b), zB 4 false, zI 5 (k : Int)], []⟩, k ≤ a.length ∧ ∀ j, j < k → a.getD j [] = b.getD j [])) 0 aA ?_ ?_
 exact ⟨Nat.zero_le _, fun j hj => by omega⟩
 rintro k ⟨hk, hn⟩
 refine zc hG [] [1, 0] (decide (((k : Int) : Int) < ((rowsD a).length : Int))) aA (fun hc3 => ?_) (fun hc3 => ?_)
 (try simp only [zq1] at hc3)
 refine zc hG [(6, 2, .elem (o4 ((a).getD k []))), (6, 6, .elem (o4 ((b).getD k []))), (6, 8, kB (decide (((a).getD k []) = ((b).getD k []))))] [1, 1, 0, 0, 1] (!(decide (((a).getD k []) = ((b).getD k [])))) (aB (by intros; exact aT _ (by omega) (by (try simp only [zq4] at *); omega) : (0 : Int) ≤ (k : Int) ∧ (rowsD a)[k]? = some (o4 ((a).getD k []))) (aB (by intros; exact aT _ (by omega) (by (try simp only [zq4] at *); omega) : (0 : Int) ≤ (k : Int) ∧ (rowsD b)[k]? = some (o4 ((b).getD k []))) (aD (hS ((a).getD k []) ((b).getD k []) : SpG g _ _ _ _ _)))) (fun hc4 => ?_) (fun hc4 => ?_)
 (try simp only [zq1] at hc4)
 refine zE hG [] .ret (⟨[zB 4 false], []⟩) aA rfl ?_
 refine zR hG [] [] (.c (cB false)) [] aA ?_ ?_
 have : ¬ a = b := pT [] (j := k) (by simpa using hc4)
 simp [this]
 rfl
 (try simp only [zq1] at hc4)
 refine zD hG [] (k + 1) (aD (by intros; (try simp only [strs, rowD, rowsD, valsD, List.length_map, inR, maxLen] at *); omega : inR ((k : Int) + 1))) ?_ ?_
 (try dsimp only); omega
 exact ⟨by omega, fC hn (by simpa using hc4)⟩
 (try simp only [zq1] at hc3)
 refine zE hG [] (.exit 0) (⟨[zB 4 false], []⟩) aA rfl ?_
 refine zR hG [] [] (.c (cB true)) [] aA ?_ ?_
 have : a = b := mT [] (by omega) (fun j hj => hn j (by omega))
 simp [this]
 rfl
theorem nP (a b : Vl) (T : Bool) (hT : SpG g 30 [.c (cM 1 (rowsD a.rows)), .c (cM 1 (rowsD b.rows))] [] (.c (cB T)) []) :
  SpG g 19 [.agg (zV a), .agg (zV b)] [] (.c (cB (eqK T a b))) [] := by
 refine aL 45 Tryz.func19 (by kernel_rfl) fun fr hG => ?_
 refine zR hG [(1, 31, kB (decide ((a.cols) = (b.cols)))), (1, 38, kB T)] [] (.c (cB ((((((decide ((a.kind : Int) = b.kind)) && ((S a.s).toList == (S b.s).toList)) && (((a.dn : Int) == b.dn) && ((a.ds : Int) == b.ds))) && (decide ((a.n : Int) = b.n))) && (decide ((a.cols) = (b.cols)))) && T))) [] (aB (fun (hg1 : ((((decide ((a.kind : Int) = b.kind)) && ((S a.s).toList == (S b.s).toList)) && (((a.dn : Int) == b.dn) && ((a.ds : Int) == b.ds))) && (decide ((a.n : Int) = b.n))) = true) => (q8 (a.cols) (b.cols) : SpG g _ _ _ _ _)) (aD (fun (hg1 : (((((decide ((a.kind : Int) = b.kind)) && ((S a.s).toList == (S b.s).toList)) && (((a.dn : Int) == b.dn) && ((a.ds : Int) == b.ds))) && (decide ((a.n : Int) = b.n))) && (decide ((a.cols) = (b.cols)))) = true) => (hT : SpG g _ _ _ _ _)))) ?_ ?_
 simp only [aCY]; rfl
 rfl
theorem oC : SpG g 30 [.c (cM 1 []), .c (cM 1 [])] [] (.c (cB true)) [] := by
 have h := mJ (g := g) [] [] rfl rfl
 exact h
theorem aDN (x y : Cl) : SpG g 19 [s8 x, s8 y] [] (.c (cB (decide (x = y)))) [] := by
 have h := nP (g := g) x.toV y.toV _ oC
 have e : eqK true x.toV y.toV = decide (x = y) := by
  have := aIC (a := x.toV) (b := y.toV)
  rw [show decide (x.toV.rows = y.toV.rows) = true from rfl] at this
  rw [this]; simp [toV_inj]
 rw [e] at h
 exact h
theorem wB (a b : List Cl) : SpG g 67 [.c (cM 7 (rowD a)), .c (cM 7 (rowD b))] [] (.c (cB (decide (a = b)))) [] := wC a b aDN
theorem o9 (a b : List (List Cl)) : SpG g 30 [.c (cM 1 (rowsD a)), .c (cM 1 (rowsD b))] [] (.c (cB (decide (a = b)))) [] := pA a b wB
theorem wD (a b : Vl) : SpG g 19 [yJ a, yJ b] [] (.c (cB (decide (a = b)))) [] := by
 have h := nP (g := g) a b _ (o9 a.rows b.rows)
 rw [aIC] at h
 exact h
end Go.Proofs.YtdejnaokkdndeaaGreatDoor
namespace Go.Proofs.YtdejnaokkdndeaaGreatDoor
open Go.RowKit Go.V
open Go.Eng (inR byteAt u8 aU)
def vd : List Int → Int
 | [] => 0
 | d :: r => d + 16777216 * vd r
def Dg (l : List Int) : Prop := ∀ d, d ∈ l → 0 ≤ d ∧ d < 16777216
def dg (n : Nat) : List Int := if h : n = 0 then [] else ((n % 16777216 : Nat) : Int) :: dg (n / 16777216)
 termination_by n
 decreasing_by omega
theorem dg_zero : dg 0 = [] := by rw [dg]; simp
theorem kT {n : Nat} (h : n ≠ 0) : dg n = ((n % 16777216 : Nat) : Int) :: dg (n / 16777216) := by rw [dg]; simp [h]
theorem aFC : ∀ a b : List Int, vd (a ++ b) = vd a + 16777216 ^ a.length * vd b
 | [], b => by simp [vd]
 | x :: a, b => by
  rw [List.cons_append, vd, aFC a b, vd, List.length_cons, Int.pow_succ]
  grind
theorem k6 (a : List Int) (x : Int) : vd (a ++ [x]) = vd a + 16777216 ^ a.length * x := by rw [aFC]; simp [vd]
theorem Dg.nil : Dg [] := fun d h => by cases h
theorem Dg.cons {x : Int} {l : List Int} (h0 : 0 ≤ x) (h1 : x < 16777216) (h : Dg l) : Dg (x :: l) := fun d hd => by
 rcases List.mem_cons.1 hd with rfl | hd
 exact ⟨h0, h1⟩
 exact h d hd
theorem Dg.tail {x : Int} {l : List Int} (h : Dg (x :: l)) : Dg l := fun d hd => h d (List.mem_cons_of_mem _ hd)
theorem Dg.head {x : Int} {l : List Int} (h : Dg (x :: l)) : 0 ≤ x ∧ x < 16777216 := h x (by simp)
theorem Dg.app {a b : List Int} (ha : Dg a) (hb : Dg b) : Dg (a ++ b) := fun d hd => (List.mem_append.1 hd).elim (ha d) (hb d)
theorem Dg.snoc {a : List Int} {x : Int} (ha : Dg a) (h0 : 0 ≤ x) (h1 : x < 16777216) : Dg (a ++ [x]) := ha.app (Dg.cons h0 h1 Dg.nil)
theorem Dg.take {l : List Int} (h : Dg l) (k : Nat) : Dg (l.take k) := fun d hd => h d (List.mem_of_mem_take hd)
theorem Dg.drop {l : List Int} (h : Dg l) (k : Nat) : Dg (l.drop k) := fun d hd => h d (List.mem_of_mem_drop hd)
theorem Dg.at {l : List Int} (h : Dg l) {k : Nat} (hk : k < l.length) : 0 ≤ l.getD k 0 ∧ l.getD k 0 < 16777216 := h _ (by simp [hk])
theorem gR : ∀ {l : List Int}, Dg l → 0 ≤ vd l
 | [], _ => by simp [vd]
 | d :: r, h => by
  have := gR h.tail; have := h.head
  rw [vd]; omega
theorem pw (k : Nat) : ((16777216 ^ k : Nat) : Int) = (16777216 : Int) ^ k := by rw [Int.natCast_pow]; rfl
theorem wK (k : Nat) : (0 : Int) < 16777216 ^ k := Int.pow_pos (by decide)
theorem aBC : ∀ {l : List Int}, Dg l → vd l < 16777216 ^ l.length
 | [], _ => by simp [vd]
 | d :: r, h => by
  have := aBC h.tail; have := h.head
  rw [vd, List.length_cons, Int.pow_succ]; omega
theorem bH : ∀ n : Nat, vd (dg n) = (n : Int) ∧ Dg (dg n) := by
 intro n
 induction n using Nat.strongRecOn with
 | ind n ih =>
  by_cases h : n = 0
  subst h; rw [dg_zero]; exact ⟨rfl, Dg.nil⟩
  obtain ⟨h1, h2⟩ := ih (n / 16777216) (by omega)
  rw [kT h, vd, h1]
  exact ⟨by omega, Dg.cons (by omega) (by omega) h2⟩
def aJE (l : List Int) : Prop := l = [] ∨ ¬ l.getD (l.length - 1) 0 = 0
theorem aII : ∀ {l : List Int}, Dg l → aJE l → l = dg (vd l).toNat
 | [], _, _ => by rw [show vd [] = 0 from rfl]; exact dg_zero.symm
 | d :: r, h, ht => by
  have hd := h.head
  have hr := gR h.tail
  have hne : ¬ d + 16777216 * vd r = 0 := by
   intro h0
   have d0 : d = 0 := by omega
   have r0 : vd r = 0 := by omega
   rcases ht with ht | ht
   cases ht
   cases r with
   | nil => simp at ht; exact ht d0
   | cons x r =>
    have ht' : aJE (x :: r) := .inr (by simpa using ht)
    have := aII h.tail ht'
    rw [r0, show (0 : Int).toNat = 0 from rfl, dg_zero] at this
    cases this
  have hp : (d + 16777216 * vd r).toNat ≠ 0 := by omega
  rw [vd, kT hp]
  have e1 : ((d + 16777216 * vd r).toNat % 16777216 : Nat) = d.toNat := by omega
  have e2 : (d + 16777216 * vd r).toNat / 16777216 = (vd r).toNat := by omega
  have ht' : aJE r := by
   cases r with
   | nil => exact .inl rfl
   | cons x r =>
    rcases ht with ht | ht
    cases ht
    exact .inr (by simpa using ht)
  rw [e1, e2, ← aII h.tail ht']
  congr 1; omega
theorem dg_trim (n : Nat) : aJE (dg n) := by
 induction n using Nat.strongRecOn with
 | ind n ih =>
  by_cases h : n = 0
  subst h; exact .inl dg_zero
  have := ih (n / 16777216) (by omega)
  rw [kT h]
  by_cases h2 : n / 16777216 = 0
  rw [h2, dg_zero]; right; simp; omega
  rw [kT h2] at this ⊢
  rcases this with hh | hh
  cases hh
  right; simpa using hh
theorem sH {l : List Int} (h : 0 < l.length) : l.take (l.length - 1) ++ [l.getD (l.length - 1) 0] = l := by
 have hk : l.length - 1 < l.length := by omega
 have : l.take (l.length - 1 + 1) = l.take (l.length - 1) ++ [l.getD (l.length - 1) 0] := by
  rw [List.take_add_one, List.getD_eq_getElem?_getD, List.getElem?_eq_getElem hk]; rfl
 rw [← this, show l.length - 1 + 1 = l.length by omega, List.take_length]
theorem aC7 {l : List Int} (h : 0 < l.length) (hz : l.getD (l.length - 1) 0 = 0) : vd (l.take (l.length - 1)) = vd l := by
 have e := sH h
 rw [hz] at e
 conv => rhs; rw [← e]
 rw [k6]; simp
theorem drop_at {l : List Int} {k : Nat} (h : k < l.length) : vd (l.drop k) = l.getD k 0 + 16777216 * vd (l.drop (k + 1)) := by
 rw [List.drop_eq_getElem_cons h, vd]; simp [h]
theorem eQ {l : List Int} {k : Nat} (h : l.length ≤ k) : vd (l.drop k) = 0 := by rw [List.drop_eq_nil_of_le h]; rfl
theorem u9 {n k : Nat} (h : (nb n).length ≤ 3 * k) : (dg n).length ≤ k := by
 induction k generalizing n with
 | zero =>
  have := (i7 n).1 (by omega)
  subst this; rw [dg_zero]; simp
 | succ k ih =>
  by_cases h0 : n = 0
  subst h0; rw [dg_zero]; simp
  rw [kT h0, List.length_cons]
  have : (nb (n / 16777216)).length ≤ 3 * k := by
   by_cases h1 : n / 256 = 0
   rw [show n / 16777216 = 0 by omega, dS]; simp
   by_cases h2 : n / 65536 = 0
   rw [show n / 16777216 = 0 by omega, dS]; simp
   by_cases h3 : n / 16777216 = 0
   rw [h3, dS]; simp
   have e1 := congrArg List.length (i6 h0)
   have e2 := congrArg List.length (i6 (n := n / 256) h1)
   have e3 := congrArg List.length (i6 (n := n / 256 / 256) (by omega))
   rw [List.length_append] at e1 e2 e3
   have e4 : n / 256 / 256 / 256 = n / 16777216 := by omega
   rw [e4] at e3
   simp only [List.length_cons, List.length_nil] at e1 e2 e3
   omega
  have := ih this
  omega
theorem aGY {n : Nat} {x : UInt8} {t : List UInt8} (h : nb n = x :: t) : ¬ x = 0 := by
 intro h0
 have e : bL (nb n) = nb n := by rw [xW, fE]
 rw [h, h0] at e
 have h1 : bL (0 :: t) = bL t := by simp [bL]
 rw [h1] at e
 have : (bL t).length ≤ t.length := by unfold bL; exact (List.dropWhile_sublist _).length_le
 rw [e, List.length_cons] at this; omega
theorem wV {n e : Nat} (he : 0 < e) (hl : e ≤ (nb n).length) : aW ((nb n).take e) ≠ 0 := by
 cases h : nb n with
 | nil => rw [h] at hl; simp at hl; omega
 | cons x t =>
  have hx := aGY h
  obtain ⟨k, rfl⟩ : ∃ k, e = k + 1 := ⟨e - 1, by omega⟩
  rw [List.take_succ_cons, jQ]
  have : 0 < x.toNat := by
   rcases Nat.eq_zero_or_pos x.toNat with h0 | h0
   exact absurd (UInt8.toNat_inj.1 (by simpa using h0)) hx
   exact h0
  have h2 : 0 < x.toNat * 256 ^ (t.take k).length := Nat.mul_pos this (Nat.pow_pos (by decide))
  omega
theorem yI {a : List UInt8} {s e : Nat} (h : s ≤ e) (he : e ≤ a.length) : aW (a.take e) = aW (a.take s) * 256 ^ (e - s) + aW ((a.take e).drop s) := by
 have e1 : a.take e = a.take s ++ (a.take e).drop s := by
  have := List.take_append_drop s (a.take e)
  rw [List.take_take, Nat.min_eq_left h] at this
  exact this.symm
 conv => lhs; rw [e1]
 rw [vP, List.length_drop, List.length_take, Nat.min_eq_left he]
theorem of_step {n e : Nat} (he : 0 < e) (hl : e ≤ (nb n).length) : dg (aW ((nb n).take e)) = (aW (((nb n).take e).drop (e - 3)) : Int) :: dg (aW ((nb n).take (e - 3))) := by
 rw [kT (wV he hl)]
 have hs := yI (a := nb n) (s := e - 3) (e := e) (by omega) hl
 have hlt := k7 (((nb n).take e).drop (e - 3))
 rw [List.length_drop, List.length_take, Nat.min_eq_left hl] at hlt
 by_cases h3 : 3 ≤ e
 rw [show e - (e - 3) = 3 by omega] at hs hlt
 rw [hs]
 have h1 : (aW ((nb n).take (e - 3)) * 256 ^ 3 + aW (((nb n).take e).drop (e - 3))) % 16777216 = aW (((nb n).take e).drop (e - 3)) := by omega
 have h2 : (aW ((nb n).take (e - 3)) * 256 ^ 3 + aW (((nb n).take e).drop (e - 3))) / 16777216 = aW ((nb n).take (e - 3)) := by omega
 rw [h1, h2]
 have h0 : e - 3 = 0 := by omega
 have hz : aW ((nb n).take (e - 3)) = 0 := by rw [h0]; rfl
 have hlt' : aW (((nb n).take e).drop (e - 3)) < 16777216 := by
  have : 256 ^ (e - (e - 3)) ≤ 256 ^ 3 := Nat.pow_le_pow_right (by decide) (by omega)
  omega
 rw [hz] at hs ⊢
 rw [Nat.zero_mul, Nat.zero_add] at hs
 rw [hs, Nat.mod_eq_of_lt hlt', Nat.div_eq_of_lt hlt']
theorem wO {acc : List UInt8} {d : Int} (h0 : 0 ≤ d) (h1 : d < 16777216) : (aW (acc ++ [u8 (Int.fdiv d 65536)] ++ [u8 (Int.fdiv d 256)] ++ [u8 d]) : Int) = aW acc * 16777216 + d := by
 rw [dG, dG, dG]
 have f1 : Int.fdiv d 65536 = d / 65536 := Int.fdiv_eq_ediv_of_nonneg _ (by decide)
 have f2 : Int.fdiv d 256 = d / 256 := Int.fdiv_eq_ediv_of_nonneg _ (by decide)
 rw [f1, f2]
 have h2 := iW (d / 65536)
 have h3 := iW (d / 256)
 have h4 := iW d
 omega
theorem aGZ {acc : List UInt8} {n j : Nat} (hj : j < 8) (hv : aW acc = n / 2 ^ (64 - 8 * j)) : aW (acc ++ [u8 (Int.fdiv (n : Int) (2 ^ (56 - 8 * j)))]) = n / 2 ^ (64 - 8 * (j + 1)) := by
 rw [dG, hv]
 have e : ((u8 (Int.fdiv (n : Int) (2 ^ (56 - 8 * j)))).toNat : Int) = ((n / 2 ^ (56 - 8 * j) % 256 : Nat) : Int) := by
  rw [iW, Int.fdiv_eq_ediv_of_nonneg _ (Int.le_of_lt (Int.pow_pos (by decide)))]
  rw [Int.natCast_emod, Int.natCast_ediv, Int.natCast_pow]; rfl
 have e' : (u8 (Int.fdiv (n : Int) (2 ^ (56 - 8 * j)))).toNat = n / 2 ^ (56 - 8 * j) % 256 := Int.ofNat.inj e
 rw [e', show 64 - 8 * (j + 1) = 56 - 8 * j by omega, show 64 - 8 * j = (56 - 8 * j) + 8 by omega, Nat.pow_add, ← Nat.div_div_eq_div_mul]
 generalize n / 2 ^ (56 - 8 * j) = q
 omega
def td : List Int → List Int → Int
 | a :: u, b :: v => if td u v = 0 then a - b else td u v
 | _, _ => 0
def cmpL (u v : List Int) : Int := if u.length = v.length then td u v else (u.length : Int) - v.length
theorem aBG : ∀ (k : Nat) {u v : List Int}, ¬ td (u.drop k) (v.drop k) = 0 → td u v = td (u.drop k) (v.drop k)
 | 0, u, v, _ => by simp
 | k + 1, [], v, h => by simp [td] at h
 | k + 1, a :: u, [], h => by simp [td] at h
 | k + 1, a :: u, b :: v, h => by
  simp only [List.drop_succ_cons] at h ⊢
  have := aBG k h
  rw [td, this, if_neg h]
theorem td_at {u v : List Int} {k : Nat} (hu : k < u.length) (hv : k < v.length) (h : td (u.drop (k + 1)) (v.drop (k + 1)) = 0) : td (u.drop k) (v.drop k) = u.getD k 0 - v.getD k 0 := by
 rw [List.drop_eq_getElem_cons hu, List.drop_eq_getElem_cons hv, td, if_pos h]; simp [hu, hv]
theorem aBF : ∀ {u v : List Int}, u.length = v.length → Dg u → Dg v → (td u v < 0 ↔ vd u < vd v) ∧ (td u v = 0 ↔ vd u = vd v)
 | [], [], _, _, _ => by simp [td, vd]
 | [], _ :: _, h, _, _ => by simp at h
 | _ :: _, [], h, _, _ => by simp at h
 | a :: u, b :: v, h, hu, hv => by
  obtain ⟨h1, h2⟩ := aBF (by simpa using h) hu.tail hv.tail
  have ha := hu.head; have hb := hv.head
  rw [td, vd, vd]
  by_cases h0 : td u v = 0
  rw [if_pos h0]
  have := h2.1 h0
  constructor <;> constructor <;> intro <;> omega
  rw [if_neg h0]
  constructor <;> constructor <;> intro <;> omega
theorem mZ {x y : Nat} (h : (dg x).length < (dg y).length) : x < y := by
 have hx := aBC (bH x).2
 rw [(bH x).1] at hx
 have hy : (16777216 : Int) ^ ((dg y).length - 1) ≤ (y : Int) := by
  have e := sH (l := dg y) (by omega)
  have ht : ¬ (dg y).getD ((dg y).length - 1) 0 = 0 := by
   rcases dg_trim y with h0 | h0
   rw [h0] at h; simp at h
   exact h0
  have hd := (bH y).2.at (k := (dg y).length - 1) (by omega)
  have hv := congrArg vd e
  rw [k6, (bH y).1, List.length_take, Nat.min_eq_left (by omega)] at hv
  have h0 := gR ((bH y).2.take ((dg y).length - 1))
  have h1 : (16777216 : Int) ^ ((dg y).length - 1) * 1 ≤ 16777216 ^ ((dg y).length - 1) * (dg y).getD ((dg y).length - 1) 0 := Int.mul_le_mul_of_nonneg_left (by omega) (Int.le_of_lt (wK _))
  omega
 have hp : (16777216 : Int) ^ (dg x).length ≤ 16777216 ^ ((dg y).length - 1) := by
  have := Nat.pow_le_pow_right (n := 16777216) (by decide) (show (dg x).length ≤ (dg y).length - 1 by omega)
  have h := Int.ofNat_le.2 this
  rw [pw, pw] at h; exact h
 omega
theorem s6 (x y : Nat) : (cmpL (dg x) (dg y) < 0 ↔ x < y) ∧ (cmpL (dg x) (dg y) = 0 ↔ x = y) := by
 unfold cmpL
 by_cases h : (dg x).length = (dg y).length
 rw [if_pos h]
 obtain ⟨h1, h2⟩ := aBF h (bH x).2 (bH y).2
 rw [(bH x).1, (bH y).1] at h1 h2
 exact ⟨by rw [h1]; omega, by rw [h2]; omega⟩
 rw [if_neg h]
 rcases Nat.lt_or_gt_of_ne h with h' | h'
 have := mZ h'; omega
 have := mZ h'; omega
theorem vd_set {l : List Int} {k : Nat} (h : k < l.length) (x : Int) : vd ((l.set k x).drop k) = x + 16777216 * vd (l.drop (k + 1)) := by
 rw [drop_at (by simpa using h)]
 simp [h, List.drop_set_of_lt]
theorem Dg.set {l : List Int} (h : Dg l) {k : Nat} {x : Int} (h0 : 0 ≤ x) (h1 : x < 16777216) : Dg (l.set k x) := fun d hd => by
 rcases List.mem_or_eq_of_mem_set hd with h' | rfl
 exact h d h'
 exact ⟨h0, h1⟩
theorem Dg.zeros (n : Nat) : Dg (List.replicate n 0) := fun d hd => by rw [(List.mem_replicate.1 hd).2]; decide
end Go.Proofs.YtdejnaokkdndeaaGreatDoor
namespace Go.Proofs.YtdejnaokkdndeaaGreatDoor
open Go.RowKit Go.V
open Go.Eng (inR byteAt u8 aU)
variable {g : Gv}
theorem cH (acc : List Int) (x : Int) : intsD acc ++ [[D.i x]] = intsD (acc ++ [x]) := by simp [intsD, intD]
theorem aD8 (l : List Int) (k : Nat) : ((intsD l).take k).drop 0 = intsD (l.take k) := by simp [intsD]
theorem aP (l : List Int) : (intsD l).length = l.length := by simp [intsD]
theorem xX (acc : List UInt8) (x y z : Int) : bytesD acc ++ [[D.y (IntKind.wrap .u8 x)], [D.y (IntKind.wrap .u8 y)], [D.y (IntKind.wrap .u8 z)]] = bytesD (acc ++ [u8 x] ++ [u8 y] ++ [u8 z]) := by
 rw [← eH, ← eH, ← eH]; simp
theorem mid_step {a : List UInt8} {s k : Nat} (hs : s ≤ k) (hk : k < a.length) : aW ((a.take (k + 1)).drop s) = 256 * aW ((a.take k).drop s) + (a.getD k 0).toNat := by
 have e : a.take (k + 1) = a.take k ++ [a.getD k 0] := by
  rw [List.take_add_one, List.getD_eq_getElem?_getD, List.getElem?_eq_getElem hk]; rfl
 rw [e, List.drop_append_of_le_length (by rw [List.length_take]; omega), dG]
theorem mid_bd {a : List UInt8} {s k : Nat} (hs : s ≤ k) (hk : k ≤ a.length) (h3 : k ≤ s + 3) : aW ((a.take k).drop s) < 16777216 ∧ (k ≤ s + 2 → aW ((a.take k).drop s) < 65536) := by
 have h := k7 ((a.take k).drop s)
 rw [List.length_drop, List.length_take, Nat.min_eq_left hk] at h
 have h1 : 256 ^ (k - s) ≤ 256 ^ 3 := Nat.pow_le_pow_right (by decide) (by omega)
 refine ⟨by omega, fun h2 => ?_⟩
 have h1 : 256 ^ (k - s) ≤ 256 ^ 2 := Nat.pow_le_pow_right (by decide) (by omega)
 omega
theorem aCP (l : List UInt8) (i : Int) : 0 ≤ byteAt (S l) i ∧ byteAt (S l) i < 256 := by
 rw [dF]; have := (l.getD i.toNat 0).toNat_lt; omega
theorem tA (l : List UInt8) (i : Int) : IntKind.wrap .i64 (byteAt (S l) i) = byteAt (S l) i := by rw [dF, vN]
theorem nb_ge {n k : Nat} : k < (nb n).length ↔ 256 ^ k ≤ n := by
 refine ⟨fun h => ?_, r5⟩
 rcases Nat.lt_or_ge n (256 ^ k) with h1 | h1
 have := uG h1; omega
 exact h1
theorem int_big {n : Nat} (h : (nb n).length > 8 ∨ ((nb n).length = 8 ∧ ((nb n).getD 0 0).toNat > 127)) : ¬ n < 2 ^ 63 := by
 intro hn
 rcases h with h | ⟨h, h'⟩
 have := uG (n := n) (k := 8) (by omega); omega
 have := nb_head hn h; omega
theorem aHR {n : Nat} (h1 : ¬ (nb n).length > 8) (h2 : (nb n).length = 8 → ¬ ((nb n).getD 0 0).toNat > 127) : n < 2 ^ 63 := by
 rcases Nat.lt_or_ge n (2 ^ 63) with h | h
 exact h
 exfalso
 have hl : (nb n).length = 8 := by
  have := r5 (n := n) (k := 7) (by omega); omega
 have h3 := h2 hl
 have e : n = aW (nb n) := (fE n).symm
 cases hb : nb n with
 | nil => rw [hb] at hl; simp at hl
 | cons x t =>
  rw [hb] at hl h3 e
  rw [jQ] at e
  have ht : t.length = 7 := by simpa using hl
  have h4 := k7 t
  rw [ht] at e h4
  have : x.toNat ≤ 127 := by simpa using h3
  have h5 : x.toNat * 256 ^ 7 ≤ 127 * 256 ^ 7 := Nat.mul_le_mul_right _ this
  omega
def fA (n : Nat) : Int := if n < 2 ^ 63 then (n : Int) else 0
def jE (n : Nat) : Bool := decide (n < 2 ^ 63)
def smV (n k : Nat) : Int := if n < 256 ^ k then (n : Int) else 0
def smK (n k : Nat) : Bool := decide (n < 256 ^ k)
theorem aFU {n k : Nat} (hk : k ≤ 7) (h : n < 256 ^ k) : fA n = smV n k ∧ jE n = smK n k := by
 have h1 : 256 ^ k ≤ 256 ^ 7 := Nat.pow_le_pow_right (by decide) hk
 have h2 : n < 2 ^ 63 := by omega
 simp [fA, jE, smV, smK, h, h2]
def zq5 := And.intro @List.length_append.{0} (And.intro @List.length_cons.{0} (And.intro @List.length_map.{0, 0} (And.intro @List.length_nil.{0} (And.intro @aJ (And.intro @decide_eq_true_eq (And.intro @Go.Eng.inR.eq_1 (And.intro @intsD.eq_1 (@maxLen.eq_1))))))))
def zq6 := And.intro @List.length_map.{0, 0} (And.intro @aJ (And.intro @blS (And.intro @dF (@intsD.eq_1))))
theorem qR (l : List UInt8) (hl : l.length ≤ maxLen) :
  SpG g 226 [.c (cS (S l))] [] (.c (cS (S (nb (aW l))))) [] := by
 refine aL 19 Tryz.func226 (by kernel_rfl) fun fr hG => ?_
 refine zL hG [] [0, 0, 1, 1] (fun (zz : Nat) => match zz with | k => (l.length - k, ⟨[zS 0 (S l), zS 2 (S []), zI 3 (k : Int)], []⟩, k ≤ l.length ∧ bL (l.drop k) = bL l)) 0 aA ?_ ?_
 exact ⟨Nat.zero_le _, rfl⟩
 rintro k ⟨hk, hn⟩
 refine zc hG [] [1, 0] ((decide (((k : Int) : Int) < ((S l).size : Int))) && (decide ((byteAt (S l) (k : Int) : Int) = 0))) (aD (by intros; (try simp only [zq5] at *); omega : (decide (((k : Int) : Int) < ((S l).size : Int))) = true → (0 : Int) ≤ (k : Int) ∧ (k : Int) < ((S l).size : Int))) (fun hc2 => ?_) (fun hc2 => ?_)
 (try simp only [zq6] at hc2)
 refine zD hG [] (k + 1) (aD (by intros; (try simp only [zq5] at *); omega : inR ((k : Int) + 1))) ?_ ?_
 (try dsimp only); omega
 refine ⟨by omega, ?_⟩
 rw [← hn, aA3 (k := k) (by omega) (by have := hc2.2; simp only [Int.toNat_natCast] at this; omega)]
 (try simp only [zq6] at hc2)
 refine zE hG [] (.exit 0) (⟨[zS 0 (S l), zS 2 (S []), zI 3 (k : Int)], []⟩) aA rfl ?_
 refine zR hG [] [] (.c (cS ((S l).extract k (S l).size))) [] (aD (by intros; (try simp only [zq5] at *); omega : (0 : Int) ≤ (k : Int) ∧ ((k : Int) : Int) ≤ ((S l).size : Int) ∧ ((S l).size : Int) ≤ ((S l).size : Int))) ?_ ?_
 have h0 : ¬ (k < l.length ∧ (l.getD k 0).toNat = 0) := by
  rintro ⟨h1, h2⟩
  rcases hc2 with h | h
  omega
  simp only [Int.toNat_natCast] at h; omega
 rw [aA9, ← xW, ← hn, aA4 h0]
 rfl
theorem iK (n : Nat) (hl : (nb n).length ≤ maxLen) : SpG g 226 [.c (cS (S (nb n)))] [] (.c (cS (S (nb n)))) [] := by
 have h := qR (g := g) (nb n) hl
 rw [fE] at h
 exact h
theorem pR (n : Int) (h : 0 ≤ n ∧ n ≤ 9223372036854775807) :
  SpG g 170 [.c (cI n)] [] (.c (cS (S (nb n.toNat)))) [] := by
 refine aL 23 Tryz.func170 (by kernel_rfl) fun fr hG => ?_
 refine zA hG [] [0, 1, 0, 1, 1] (⟨[zI 0 n, zS 2 (S []), zN 3, zI 4 56], []⟩) [(3, 9001, 5, 1)] [] (fun (zz : Nat × Int × List (List D) × List UInt8) => match zz with | (j, kk, es, acc) => (8 - j, ⟨[zI 0 n, zS 2 (S []), zY 3 9001 0, zI 4 kk], [(9001, .arr 0 5 1 (es))]⟩, j ≤ 8 ∧ kk = 56 - 8 * (j : Int) ∧ es = bytesD acc ∧ acc.length = j ∧ aW acc = n.toNat / 2 ^ (64 - 8 * j))) (0, 56, [], []) aA ?_ ?_
 refine ⟨Nat.zero_le _, rfl, rfl, rfl, ?_⟩
 rw [vO, Nat.div_eq_of_lt (by omega)]
 rintro ⟨j, kk, es, acc⟩ ⟨hj, hkk, hes, ha, hv⟩
 have hlen : es.length = j := by rw [hes, bG, ha]
 have e0 : ((n.toNat : Nat) : Int) = n := by omega
 refine zc hG [] [1, 0] ((decide ((kk : Int) ≥ 0)) && (decide ((n : Int) > 0))) aA (fun hc2 => ?_) (fun hc2 => ?_)
 (try simp only [zq6] at hc2)
 refine zD hG [] (j + 1, kk - 8, es ++ [[D.y (IntKind.wrap .u8 (Int.fdiv n (2 ^ min (kk : Int).toNat 64)))]], acc ++ [u8 (Int.fdiv n (2 ^ min (kk : Int).toNat 64))]) (aB (by intros; (try simp only [zq5] at *); omega : (0 : Int) ≤ kk) (aB (by intros; (try simp only [zq5] at *); omega : ((es).length + (([[.y (IntKind.wrap .u8 (Int.fdiv n (2 ^ min (kk : Int).toNat 64)))]] : List (List D))).length) * (1 + 1) ≤ 140737488355328) (aD (by intros; (try simp only [zq5] at *); omega : inR (kk - 8))))) ?_ ?_
 (try dsimp only); omega
 have e1 : min (kk : Int).toNat 64 = 56 - 8 * j := by omega
 refine ⟨by omega, by omega, by rw [hes, eH], by simp [ha], ?_⟩
 rw [e1]
 have h := aGZ (acc := acc) (n := n.toNat) (j := j) (by omega) hv
 rw [e0] at h; exact h
 (try simp only [zq6] at hc2)
 refine zE hG [] (.exit 0) (⟨[zS 2 (S []), zY 3 9001 0], [(9001, .arr 0 5 1 (es))]⟩) aA rfl ?_
 refine zR hG [(6, 1, kS (S acc)), (6, 2, kS (S (nb (aW (acc)))))] [] (.c (cS (S (nb (aW (acc)))))) [] (aB (by rw [hes, l8] : es = bytesD (S acc).data.toList) (aD (qR (acc) (by simp only [maxLen]; omega) : SpG g _ _ _ _ _))) ?_ ?_
 have e : aW acc = n.toNat := by
  rw [hv]
  rcases hc2 with h | h
  rw [show 64 - 8 * j = 0 by omega]; simp
  rw [show n.toNat = 0 by omega]; simp
 rw [e]
 rfl
def zq7 := And.intro @List.length_append.{0} (And.intro @List.length_cons.{0} (And.intro @List.length_nil.{0} (And.intro @aJ (And.intro @Go.Eng.inR.eq_1 (@maxLen.eq_1)))))
theorem uF (n : Nat) (h : (nb n).length ≤ 1000000000) :
  SpG g 224 [.c (cS (S (nb n)))] [] (.c (cM 1 (intsD (dg n)))) [] := by
 refine aL 35 Tryz.func224 (by kernel_rfl) fun fr hG => ?_
 refine zA hG [(1, 1, kS (S (nb n)))] [0, 1, 0, 1, 1, 1] (⟨[zS 0 (S (nb n)), zN 2, zN 3, zI 4 ((S (nb n)).size : Int)], []⟩) [(3, 9001, 3, 1)] [] (fun (zz : Int × List (List D) × List Int) => match zz with | (e, es, acc) => ((e + 3).toNat, ⟨[zS 0 (S (nb n)), zN 2, zY 3 9001 0, zI 4 e], [(9001, .arr 0 3 1 (es))]⟩, e ≤ (nb n).length ∧ -3 < e ∧ es = intsD acc ∧ acc.length ≤ (nb n).length ∧ (acc.length : Int) + e ≤ (nb n).length ∧ acc ++ dg (aW ((nb n).take e.toNat)) = dg n)) (((S (nb n)).size : Int), [], []) (aD (iK n (by simp only [maxLen]; omega) : SpG g _ _ _ _ _)) ?_ ?_
 rw [aJ]
 refine ⟨by omega, by omega, rfl, by simp, by simp, ?_⟩
 rw [Int.toNat_natCast, List.take_length, fE]; rfl
 rintro ⟨e, es, acc⟩ ⟨he, hm, hes, ha, hae, hv⟩
 have hlen : es.length = acc.length := by rw [hes, aP]
 refine zc hG [] [1, 0] (decide ((e : Int) > 0)) aA (fun hc2 => ?_) (fun hc2 => ?_)
 (try simp only [zq6] at hc2)
 refine zL hG [] [0, 1, 0, 1, 0, 0, 1] (fun (zz : Int × Int) => match zz with | (d, k) => ((e - k).toNat, ⟨[zS 0 (S (nb n)), zN 2, zY 3 9001 0, zI 4 e, zI 5 d, zI 6 k], [(9001, .arr 0 3 1 (es))]⟩, ((e.toNat - 3 : Nat) : Int) ≤ k ∧ k ≤ e ∧ d = aW (((nb n).take k.toNat).drop (e.toNat - 3)))) (0, (if (0 : Int) > (e - 3) then 0 else (e - 3))) (aD (by intros; (try rw [hw]); (try have hm4 := hm3.2 (by omega)); (try simp only [zq7] at *); omega : inR (e - 3))) ?_ ?_
 refine ⟨by split <;> omega, by split <;> omega, ?_⟩
 rw [List.drop_eq_nil_of_le]
 rfl
 rw [List.length_take]; split <;> omega
 rintro ⟨d, k⟩ ⟨hk1, hk2, hd⟩
 have hb := aCP (nb n) k
 have hw := tA (nb n) k
 have hm3 := mid_bd (a := nb n) (s := e.toNat - 3) (k := k.toNat) (by omega) (by omega) (by omega)
 refine zc hG [] [1, 0] (decide ((k : Int) < e)) aA (fun hc4 => ?_) (fun hc4 => ?_)
 (try simp only [zq6] at hc4)
 refine zD hG [] (d * 256 + IntKind.wrap .i64 (byteAt (S (nb n)) k), k + 1) (aB (by intros; (try rw [hw]); (try have hm4 := hm3.2 (by omega)); (try simp only [zq7] at *); omega : inR (d * 256)) (aB (by intros; (try rw [hw]); (try have hm4 := hm3.2 (by omega)); (try simp only [zq7] at *); omega : (0 : Int) ≤ k ∧ k < ((S (nb n)).size : Int)) (aB (by intros; (try rw [hw]); (try have hm4 := hm3.2 (by omega)); (try simp only [zq7] at *); omega : inR ((d * 256) + (IntKind.wrap .i64 (byteAt (S (nb n)) k)))) (aD (by intros; (try rw [hw]); (try have hm4 := hm3.2 (by omega)); (try simp only [zq7] at *); omega : inR (k + 1)))))) ?_ ?_
 (try dsimp only); omega
 refine ⟨by omega, by omega, ?_⟩
 have h1 : (k + 1).toNat = k.toNat + 1 := by omega
 rw [h1, mid_step (by omega) (by omega), hw, dF, hd]
 omega
 (try simp only [zq6] at hc4)
 refine zE hG [] (.exit 2) (⟨[zS 0 (S (nb n)), zN 2, zY 3 9001 0, zI 4 e, zI 5 d], [(9001, .arr 0 3 1 (es))]⟩) aA rfl ?_
 refine zD hG [] (e - 3, es ++ [[D.i d]], acc ++ [d]) (aB (by intros; (try rw [hw]); (try have hm4 := hm3.2 (by omega)); (try simp only [zq7] at *); omega : ((es).length + (([[.i d]] : List (List D))).length) * (8 + 1) ≤ 140737488355328) (aD (by intros; (try rw [hw]); (try have hm4 := hm3.2 (by omega)); (try simp only [zq7] at *); omega : inR (e - 3)))) ?_ ?_
 (try dsimp only); omega
 have hk0 : k = e := by omega
 subst hk0
 have hst := of_step (n := n) (e := k.toNat) (by omega) (by omega)
 refine ⟨by omega, by omega, by rw [hes, cH], by simp; omega, by simp; omega, ?_⟩
 have e3 : (k - 3).toNat = k.toNat - 3 := by omega
 rw [e3, ← hv, hst, hd]; simp
 (try simp only [zq6] at hc2)
 refine zE hG [] (.exit 0) (⟨[zN 2, zY 3 9001 0], [(9001, .arr 0 3 1 (es))]⟩) aA rfl ?_
 refine zR hG [] [] (.c (cM 1 (es))) [] aA ?_ ?_
 have hz : (nb n).take e.toNat = [] := by rw [show e.toNat = 0 by omega]; rfl
 rw [hz, vO, dg_zero, List.append_nil] at hv
 rw [hes, hv]
 rfl
def zq8 := And.intro @List.length_map.{0, 0} (@intsD.eq_1)
theorem rY (l : List Int) (hD : Dg l) (hl : l.length ≤ 400000000) :
  SpG g 225 [.c (cM 1 (intsD l))] [] (.c (cS (S (nb (vd l).toNat)))) [] := by
 refine aL 35 Tryz.func225 (by kernel_rfl) fun fr hG => ?_
 refine cT 0 rfl fun hl0 => ?_
 refine zA hG [] [0, 1, 0, 1, 1] (⟨[zM 0 1 (intsD l), zS 2 (S []), zN 3, zI 4 (((intsD l).length : Int) - 1)], []⟩) [(3, 9001, 5, 1)] [] (fun (zz : Int × List (List D) × List UInt8) => match zz with | (k, es, acc) => ((k + 1).toNat, ⟨[zM 0 1 (intsD l), zS 2 (S []), zY 3 9001 0, zI 4 k], [(9001, .arr 0 5 1 (es))]⟩, -1 ≤ k ∧ k < l.length ∧ es = bytesD acc ∧ (acc.length : Int) + 3 * k + 3 = 3 * l.length ∧ (aW acc : Int) = vd (l.drop (k + 1).toNat))) (((intsD l).length : Int) - 1, [], []) (aD (by intros; (try simp only [zq5] at *); omega : inR (((intsD l).length : Int) - 1))) ?_ ?_
 rw [aP]
 refine ⟨by omega, by omega, rfl, by rw [List.length_nil]; omega, ?_⟩
 rw [eQ (by omega)]; rfl
 rintro ⟨k, es, acc⟩ ⟨hk1, hk2, hes, ha, hv⟩
 have hlen : es.length = acc.length := by rw [hes, bG]
 refine zc hG [] [1, 0] (decide ((k : Int) ≥ 0)) aA (fun hc2 => ?_) (fun hc2 => ?_)
 (try simp only [zq6] at hc2)
 refine zD hG [(5, 3, .elem (intD ((l).getD (k : Int).toNat 0))), (5, 9, .elem (intD ((l).getD (k : Int).toNat 0))), (5, 15, .elem (intD ((l).getD (k : Int).toNat 0)))] (k - 1, es ++ [[D.y (IntKind.wrap .u8 (Int.fdiv (l.getD k.toNat 0) (2 ^ min (16 : Int).toNat 64)))], [D.y (IntKind.wrap .u8 (Int.fdiv (l.getD k.toNat 0) (2 ^ min (8 : Int).toNat 64)))], [D.y (IntKind.wrap .u8 (l.getD k.toNat 0))]], acc ++ [u8 (Int.fdiv (l.getD k.toNat 0) (2 ^ min (16 : Int).toNat 64))] ++ [u8 (Int.fdiv (l.getD k.toNat 0) (2 ^ min (8 : Int).toNat 64))] ++ [u8 (l.getD k.toNat 0)]) (aB (by intros; exact aT _ (by omega) (by (try simp only [zq8] at *); omega) : (0 : Int) ≤ k ∧ (intsD l)[(k : Int).toNat]? = some (intD ((l).getD (k : Int).toNat 0))) (aB (by intros; (try simp only [zq5] at *); omega : (0 : Int) ≤ 16) (aB (by intros; exact aT _ (by omega) (by (try simp only [zq8] at *); omega) : (0 : Int) ≤ k ∧ (intsD l)[(k : Int).toNat]? = some (intD ((l).getD (k : Int).toNat 0))) (aB (by intros; (try simp only [zq5] at *); omega : (0 : Int) ≤ 8) (aB (by intros; exact aT _ (by omega) (by (try simp only [zq8] at *); omega) : (0 : Int) ≤ k ∧ (intsD l)[(k : Int).toNat]? = some (intD ((l).getD (k : Int).toNat 0))) (aB (by intros; (try simp only [zq5] at *); omega : ((es).length + (([[.y (IntKind.wrap .u8 (Int.fdiv ((l).getD (k : Int).toNat 0) (2 ^ min (16 : Int).toNat 64)))], [.y (IntKind.wrap .u8 (Int.fdiv ((l).getD (k : Int).toNat 0) (2 ^ min (8 : Int).toNat 64)))], [.y (IntKind.wrap .u8 ((l).getD (k : Int).toNat 0))]] : List (List D))).length) * (1 + 1) ≤ 140737488355328) (aD (by intros; (try simp only [zq5] at *); omega : inR (k - 1))))))))) ?_ ?_
 (try dsimp only); omega
 have hd := hD.at (k := k.toNat) (by omega)
 refine ⟨by omega, by omega, by rw [hes, xX], by simp; omega, ?_⟩
 have h := wO (acc := acc) hd.1 hd.2
 have e1 : (k - 1 + 1).toNat = k.toNat := by omega
 have e2 : (k + 1).toNat = k.toNat + 1 := by omega
 rw [e1, drop_at (by omega), ← e2, ← hv]
 have e3 : (2 : Int) ^ min (16 : Int).toNat 64 = 65536 := rfl
 have e4 : (2 : Int) ^ min (8 : Int).toNat 64 = 256 := rfl
 rw [e3, e4, h]; omega
 (try simp only [zq6] at hc2)
 refine zE hG [] (.exit 0) (⟨[zS 2 (S []), zY 3 9001 0], [(9001, .arr 0 5 1 (es))]⟩) aA rfl ?_
 refine zR hG [(6, 1, kS (S acc)), (6, 2, kS (S (nb (aW (acc)))))] [] (.c (cS (S (nb (aW (acc)))))) [] (aB (by rw [hes, l8] : es = bytesD (S acc).data.toList) (aD (qR (acc) (by simp only [maxLen]; omega) : SpG g _ _ _ _ _))) ?_ ?_
 have e : aW acc = (vd l).toNat := by
  rw [show (k + 1).toNat = 0 by omega, List.drop_zero] at hv; omega
 rw [e]
 rfl
theorem trim_ok (l : List Int) (hD : Dg l) :
  SpG g 296 [.c (cM 1 (intsD l))] [] (.c (cM 1 (intsD (dg (vd l).toNat)))) [] := by
 refine aL 21 Tryz.func296 (by kernel_rfl) fun fr hG => ?_
 refine cT 0 rfl fun hl0 => ?_
 refine zL hG [] [0, 0, 1] (fun (zz : List (List D) × List Int) => match zz with | (es, cur) => (cur.length, ⟨[zM 0 1 (es), zN 2], []⟩, es = intsD cur ∧ Dg cur ∧ vd cur = vd l ∧ cur.length ≤ l.length)) (intsD l, l) aA ?_ ?_
 exact ⟨rfl, hD, rfl, Nat.le_refl _⟩
 rintro ⟨es, cur⟩ ⟨hes, hd, hv, hc⟩
 have hlen : es.length = cur.length := by rw [hes, aP]
 refine zc hG [(1, 8, .elem ([.i ((cur).getD (((es).length : Int) - 1 : Int).toNat 0)]))] [1, 0] ((decide ((((es).length : Int) : Int) > 0)) && (decide (((cur).getD (((es).length : Int) - 1 : Int).toNat 0 : Int) = 0))) (aB (by intros; (try simp only [aP, inR, maxLen, decide_eq_true_eq] at *); omega : (decide ((((es).length : Int) : Int) > 0)) = true → inR (((es).length : Int) - 1)) (aD (by intros; (try simp only [decide_eq_true_eq] at *); rw [hes]; exact aT 0 (by (try simp only [aP] at *); omega) (by (try simp only [aP] at *); omega) : (decide ((((es).length : Int) : Int) > 0)) = true → (0 : Int) ≤ (((es).length : Int) - 1) ∧ (es)[(((es).length : Int) - 1 : Int).toNat]? = some ([.i ((cur).getD (((es).length : Int) - 1 : Int).toNat 0)])))) (fun hc2 => ?_) (fun hc2 => ?_)
 (try simp only [zq6] at hc2)
 refine zD hG [] ((es.take (((es).length : Int) - 1).toNat).drop 0, cur.take (cur.length - 1)) (aB (by intros; (try simp only [aP, inR, maxLen, decide_eq_true_eq] at *); omega : inR (((es).length : Int) - 1)) (aD (by intros; (try simp only [aP, inR, maxLen, decide_eq_true_eq] at *); omega : (0 : Int) ≤ 0 ∧ (0 : Int) ≤ (((es).length : Int) - 1) ∧ (((es).length : Int) - 1) ≤ ((es).length : Int)))) ?_ ?_
 (try dsimp only)
 rw [List.length_take]; omega
 have hz := hc2.2
 rw [show (((es).length : Int) - 1).toNat = cur.length - 1 by omega] at hz ⊢
 refine ⟨by rw [hes, aD8], hd.take _, by rw [aC7 (by omega) hz, hv], by rw [List.length_take]; omega⟩
 (try simp only [zq6] at hc2)
 refine zE hG [] (.exit 0) (⟨[zM 0 1 (es), zN 2], []⟩) aA rfl ?_
 refine zR hG [] [] (.c (cM 1 (es))) [] aA ?_ ?_
 have ht : aJE cur := by
  rcases hc2 with h | h
  left; exact List.eq_nil_of_length_eq_zero (by omega)
  right; rw [show (((es).length : Int) - 1).toNat = cur.length - 1 by omega] at h; exact h
 rw [hes, ← hv, ← aII hd ht]
 rfl
end Go.Proofs.YtdejnaokkdndeaaGreatDoor
namespace Go.Proofs.YtdejnaokkdndeaaGreatDoor
open Go.RowKit Go.V
open Go.Eng (inR byteAt u8 aU)
variable {g : Gv}
theorem z8 {x y : Nat} (h : (nb x).length < (nb y).length) : x < y := by
 have := nb_ge.1 h
 have h2 := k7 (nb x)
 rw [fE] at h2; omega
theorem rZ {es : List (List D)} {l : List Int} (h : es = intsD l) (hD : Dg l) (hl : l.length ≤ 400000000) : SpG g 225 [.c (cM 1 es)] [] (.c (cS (S (nb (vd l).toNat)))) [] := by
 subst h; exact rY l hD hl
theorem tM {es : List (List D)} {l : List Int} {n : Nat} (h : es = intsD l) (hD : Dg l) (hn : vd l = (n : Int)) : SpG g 296 [.c (cM 1 es)] [] (.c (cM 1 (intsD (dg n)))) [] := by
 subst h
 have := trim_ok (g := g) l hD
 rw [hn, Int.toNat_natCast] at this; exact this
theorem jS {s : Int} (h : 0 ≤ s) : Int.tmod s 16777216 = s % 16777216 ∧ Int.tdiv s 16777216 = s / 16777216 := ⟨Int.tmod_eq_emod_of_nonneg h, Int.tdiv_eq_ediv_of_nonneg h⟩
theorem gM {acc : List Int} {k : Nat} {s X X' T : Int} (ha : acc.length = k) (h0 : 0 ≤ s) (hX : X = s + 16777216 * X') (hI : vd acc + 16777216 ^ k * X = T) : vd (acc ++ [Int.tmod s 16777216]) + 16777216 ^ (k + 1) * (Int.tdiv s 16777216 + X') = T := by
 obtain ⟨e1, e2⟩ := jS h0
 rw [k6, ha, e1, e2, Int.pow_succ, ← hI, hX]
 have := Int.emod_add_mul_ediv s 16777216
 generalize s % 16777216 = r at *
 generalize s / 16777216 = q at *
 subst this
 grind
theorem bM {s : Int} (h : 0 ≤ s) : Int.tdiv s 16777216 = s / 16777216 := Int.tdiv_eq_ediv_of_nonneg h
theorem pU {s : Int} (h : 0 ≤ s) : 0 ≤ Int.tmod s 16777216 ∧ Int.tmod s 16777216 < 16777216 := by rw [(jS h).1]; omega
theorem aCQ {l : List Int} (h : Dg l) (k : Nat) : vd (l.drop k) = (if k < l.length then l.getD k 0 else 0) + 16777216 * vd (l.drop (k + 1)) ∧ 0 ≤ (if k < l.length then l.getD k 0 else 0) ∧ (if k < l.length then l.getD k 0 else 0) < 16777216 := by
 by_cases hk : k < l.length
 rw [if_pos hk]; exact ⟨drop_at hk, (h.at hk).1, (h.at hk).2⟩
 rw [if_neg hk, eQ (by omega), eQ (by omega)]; exact ⟨by omega, by omega, by omega⟩
theorem fI {d c x : Int} (hd : 0 ≤ d ∧ d < 16777216) (hx : 0 ≤ x ∧ x < 16777216) (hc : 0 ≤ c ∧ c < 16777216) : 0 ≤ x * d ∧ x * d ≤ 281474943156225 ∧ 0 ≤ x * d + c ∧ Int.tdiv (x * d + c) 16777216 < 16777216 ∧ 0 ≤ Int.tdiv (x * d + c) 16777216 := by
 have h1 : 0 ≤ x * d := Int.mul_nonneg hx.1 hd.1
 have h2 : x * d ≤ 16777215 * 16777215 := Int.mul_le_mul (by omega) (by omega) hd.1 (by decide)
 have h3 : (16777215 * 16777215 : Int) = 281474943156225 := by decide
 rw [h3] at h2
 refine ⟨h1, h2, by omega, ?_, ?_⟩ <;> rw [Int.tdiv_eq_ediv_of_nonneg (by omega)] <;> omega
theorem aD4 {acc : List Int} {k : Nat} {V b : Int} {x y : Nat} (ha : acc.length = k) (hD : Dg acc) (hV : 0 ≤ V) (hb : 0 ≤ b) (h : y ≤ x) (hI : vd acc + 16777216 ^ k * (0 - V - b) = (x : Int) - y) : vd acc = ((x - y : Nat) : Int) := by
 have h1 := aBC hD
 rw [ha] at h1
 by_cases hz : V + b = 0
 rw [show 0 - V - b = 0 by omega, Int.mul_zero] at hI; omega
 exfalso
 have h2 : 16777216 ^ k * (0 - V - b) ≤ 16777216 ^ k * (-1) := Int.mul_le_mul_of_nonneg_left (by omega) (Int.le_of_lt (wK k))
 omega
theorem iE {acc : List Int} {k : Nat} {e b b' U U' V V' u v T : Int} (ha : acc.length = k) (hU : U = u + 16777216 * U') (hV : V = v + 16777216 * V') (he : e = u - b - v + 16777216 * b') (hI : vd acc + 16777216 ^ k * (U - V - b) = T) : vd (acc ++ [e]) + 16777216 ^ (k + 1) * (U' - V' - b') = T := by
 rw [k6, ha, Int.pow_succ, ← hI, hU, hV, he]
 grind
theorem ints_set (l : List Int) (k : Nat) (x : Int) : (intsD l).set k [D.i x] = intsD (l.set k x) := by
 simp [intsD, intD, List.map_set]
theorem aF5 (n : Nat) : List.replicate n [D.i 0] = intsD (List.replicate n 0) := by simp [intsD, intD]
theorem aHY {l : List Int} {k p : Nat} {x : Int} : (l.set k x).getD p 0 = if k = p ∧ k < l.length then x else l.getD p 0 := by
 simp only [List.getD_eq_getElem?_getD, List.getElem?_set]
 by_cases h : k = p
 subst h
 by_cases hk : k < l.length
 simp [hk]
 simp [hk]
 simp [h]
theorem cmp_le {x y : Nat} : cmpL (dg x) (dg y) ≤ 0 ↔ x ≤ y := by
 obtain ⟨h1, h2⟩ := s6 x y
 constructor
 intro h
 by_cases h3 : cmpL (dg x) (dg y) = 0
 have := h2.1 h3; omega
 have := h1.1 (by omega); omega
 intro h
 by_cases h3 : x = y
 have := h2.2 h3; omega
 have := h1.2 (by omega); omega
theorem cmp_ge {x y : Nat} : cmpL (dg x) (dg y) ≥ 0 ↔ y ≤ x := by
 obtain ⟨h1, h2⟩ := s6 x y
 constructor
 intro h
 rcases Nat.lt_or_ge x y with h3 | h3
 have := h1.2 h3; omega
 exact h3
 intro h
 by_cases h3 : cmpL (dg x) (dg y) < 0
 have := h1.1 h3; omega
 omega
theorem dg_le {n k : Nat} (h : n < 16777216 ^ k) : (dg n).length ≤ k := by
 induction k generalizing n with
 | zero =>
  have : n = 0 := by omega
  subst this; rw [dg_zero]; simp
 | succ k ih =>
  by_cases h0 : n = 0
  subst h0; rw [dg_zero]; simp
  rw [kT h0, List.length_cons]
  have := ih (n := n / 16777216) (by rw [Nat.pow_succ] at h; exact Nat.div_lt_of_lt_mul (by rw [Nat.mul_comm]; exact h))
  omega
theorem dg_lt (n : Nat) : n < 16777216 ^ (dg n).length := by
 have h := aBC (bH n).2
 rw [(bH n).1, ← pw] at h
 exact Int.ofNat_lt.1 h
theorem aIJ {y d : Nat} (hd : d < 16777216) : (dg (y * d)).length ≤ (dg y).length + 1 := by
 apply dg_le
 rw [Nat.pow_succ]
 exact Nat.mul_lt_mul'' (dg_lt y) hd
theorem aDY (r : Nat) (hl : (dg r).length ≤ 400000000) : SpG g 225 [.c (cM 1 (intsD (dg r)))] [] (.c (cS (S (nb r)))) [] := by
 have h := rY (g := g) (dg r) (bH r).2 hl
 rw [(bH r).1, Int.toNat_natCast] at h; exact h
theorem aDQ {r : Nat} {c : Int} (h0 : 0 ≤ c) : vd (c :: dg r) = ((r * 16777216 + c.toNat : Nat) : Int) := by
 rw [vd, (bH r).1]; omega
theorem quo_dg {r : Nat} {c : Int} (h0 : 0 ≤ c) (h1 : c < 16777216) : Dg (c :: dg r) := Dg.cons h0 h1 (bH r).2
theorem aCG {a b : Nat} (h : a ≤ b) : (dg a).length ≤ (dg b).length := by
 rcases Nat.lt_or_ge (dg b).length (dg a).length with h1 | h1
 have := mZ h1; omega
 exact h1
theorem dg_rem {r y c : Nat} (h : r * 16777216 + c < y * 16777216) : (dg (r * 16777216 + c)).length ≤ (dg y).length + 1 := by
 apply dg_le
 rw [Nat.pow_succ]
 exact Nat.lt_of_lt_of_le h (Nat.mul_le_mul_right _ (Nat.le_of_lt (dg_lt y)))
def zq9 := And.intro @aJ (And.intro @decide_eq_false_iff_not (And.intro @decide_eq_true_eq (And.intro @Go.Eng.inR.eq_1 (@maxLen.eq_1))))
def bY := And.intro @aJ (And.intro @blS (And.intro @dF (@aP)))
abbrev y0 (a0 : Int) (a1 : Bool) : SV := .tup [(false, [cI a0]), (false, [cB a1])]
abbrev y1 (a0 : Int) : SV := .tup [(false, [cI a0]), (false, [cB true])]
theorem aAH (n : Nat) (hl : (nb n).length ≤ 1000000000) :
  SpG g 221 [.c (cS (S (nb n)))] [] (y0 (fA n) (jE n)) [] := by
 refine aL 35 Tryz.func221 (by kernel_rfl) fun fr hG => ?_
 refine zC hG [(1, 1, kS (S (nb n)))] [1, 0, 1, 1] ((decide ((((S (nb n)).size : Int) : Int) > 8)) || ((decide ((((S (nb n)).size : Int) : Int) = 8)) && (decide ((byteAt (S (nb n)) 0 : Int) > 127)))) (⟨[zS 0 (S (nb n)), zI 2 0, zB 3 false], []⟩) (aB (iK n (by first | omega | (simp only [maxLen]; omega)) : SpG g _ _ _ _ _) (aD (by intros; first | (rw [hw, (hst (by omega)).1]; exact (hst (by omega)).2.2) | ((try simp only [zq9] at *); omega) : (decide ((((S (nb n)).size : Int) : Int) = 8)) = true → (decide ((((S (nb n)).size : Int) : Int) > 8)) = false → (0 : Int) ≤ 0 ∧ 0 < ((S (nb n)).size : Int)))) (fun hc1 => ?_) (fun hc1 => ?_)
 (try simp only [bY] at hc1)
 have hbd : ¬ n < 2 ^ 63 := int_big (by rw [show Int.toNat 0 = 0 from rfl] at hc1; omega)
 refine zR hG [] [] (.tup [(false, [cI 0]), (false, [cB false])]) [] aA ?_ ?_
 rw [fA, jE, if_neg hbd]; (try simp [hbd])
 rfl
 (try simp only [bY] at hc1)
 have hbd : n < 2 ^ 63 := aHR (by have := hc1.1; omega) (by intro h8; have h2 := hc1.2; rw [show Int.toNat 0 = 0 from rfl] at h2; omega)
 refine zL hG [] [0, 1, 0, 1, 1, 1, 1] (fun (zz : Nat × Int) => match zz with | (k, v) => ((nb n).length - k, ⟨[zS 0 (S (nb n)), zI 2 0, zB 3 false, zI 4 v, zI 5 (k : Int)], []⟩, k ≤ (nb n).length ∧ v = (aW ((nb n).take k) : Int))) (0, 0) aA ?_ ?_
 exact ⟨Nat.zero_le _, rfl⟩
 rintro ⟨k, v⟩ ⟨hk, hv⟩
 have hw := tA (nb n) (k : Int)
 have hx := aCP (nb n) (k : Int)
 have hst : k < (nb n).length → IntKind.wrap .i64 (v * 2 ^ 8) = v * 256 ∧ (aW ((nb n).take (k + 1)) : Int) = v * 256 + ((nb n).getD k 0).toNat ∧ inR (v * 256 + byteAt (S (nb n)) (k : Int)) := by
  intro hk2
  have h1 := oR hk2
  have h3 := tJ (nb n) (k + 1)
  rw [fE] at h3
  have h4 := dF (nb n) (k : Int)
  rw [Int.toNat_natCast] at h4
  refine ⟨?_, by omega, by rw [h4]; unfold inR; omega⟩
  rw [wrap64]
  rfl
  unfold inR; omega
 refine zc hG [] [1, 0] (decide (((k : Int) : Int) < ((S (nb n)).size : Int))) aA (fun hc3 => ?_) (fun hc3 => ?_)
 (try simp only [bY] at hc3)
 refine zD hG [] (k + 1, IntKind.wrap .i64 (v * 2 ^ 8) + IntKind.wrap .i64 (byteAt (S (nb n)) (k : Int))) (aB (by intros; first | (rw [hw, (hst (by omega)).1]; exact (hst (by omega)).2.2) | ((try simp only [zq9] at *); omega) : (0 : Int) ≤ (k : Int) ∧ (k : Int) < ((S (nb n)).size : Int)) (aB (by intros; first | (rw [hw, (hst (by omega)).1]; exact (hst (by omega)).2.2) | ((try simp only [zq9] at *); omega) : inR ((IntKind.wrap .i64 (v * 2 ^ 8)) + (IntKind.wrap .i64 (byteAt (S (nb n)) (k : Int))))) (aD (by intros; first | (rw [hw, (hst (by omega)).1]; exact (hst (by omega)).2.2) | ((try simp only [zq9] at *); omega) : inR ((k : Int) + 1))))) ?_ ?_
 (try dsimp only); omega
 have h2 := hst (by omega)
 refine ⟨by omega, ?_⟩
 rw [hw, h2.1, h2.2.1, dF, Int.toNat_natCast]
 (try simp only [bY] at hc3)
 refine zE hG [] (.exit 0) (⟨[zI 2 0, zB 3 false, zI 4 v], []⟩) aA rfl ?_
 refine zR hG [] [] (y1 v) [] aA ?_ ?_
 rw [fA, jE, if_pos hbd, hv, show k = (nb n).length by omega, List.take_length, fE]; (try simp [hbd])
 rfl
theorem lC (n k : Nat) (hk : k ≤ 7) (hl : (nb n).length ≤ 1000000000) :
  SpG g 223 [.c (cS (S (nb n))), .c (cI (k : Int))] [] (y0 (smV n k) (smK n k)) [] := by
 refine aL 15 Tryz.func223 (by kernel_rfl) fun fr hG => ?_
 refine zC hG [(1, 1, kS (S (nb n)))] [1, 0, 1] (decide ((((S (nb n)).size : Int) : Int) > (k : Int))) (⟨[zS 0 (S (nb n)), zI 4 0, zB 5 false], []⟩) (aD (iK n (by first | omega | (simp only [maxLen]; omega)) : SpG g _ _ _ _ _)) (fun hc1 => ?_) (fun hc1 => ?_)
 (try simp only [bY] at hc1)
 refine zR hG [] [] (.tup [(false, [cI 0]), (false, [cB false])]) [] aA ?_ ?_
 have h1 : ¬ n < 256 ^ k := by have := nb_ge (n := n) (k := k); have h2 := this.1 (by omega); omega
 rw [smV, smK, if_neg h1]; simp [h1]
 rfl
 (try simp only [bY] at hc1)
 refine zR hG [(3, 1, kC (y0 (fA n) (jE n)))] [] (y0 (fA n) (jE n)) [] (aD (aAH n (by first | omega | (simp only [maxLen]; omega)) : SpG g _ _ _ _ _)) ?_ ?_
 have h1 : n < 256 ^ k := by
  rcases Nat.lt_or_ge n (256 ^ k) with h | h
  exact h
  have := (nb_ge (n := n) (k := k)).2 h; omega
 rw [(aFU hk h1).1, (aFU hk h1).2]
 rfl
def zq11 := And.intro @decide_eq_true_eq (And.intro @Go.Eng.inR.eq_1 (@aP))
theorem aCK (u v : List Int) (hu : Dg u) (hv : Dg v) (hul : u.length ≤ 1000000000) (hvl : v.length ≤ 1000000000) :
  SpG g 297 [.c (cM 1 (intsD u)), .c (cM 1 (intsD v))] [] (.c (cI (cmpL u v))) [] := by
 refine aL 41 Tryz.func297 (by kernel_rfl) fun fr hG => ?_
 refine zC hG [] [1, 0, 1] (!decide ((((intsD u).length : Int) : Int) = ((intsD v).length : Int))) (⟨[zM 0 1 (intsD u), zM 1 1 (intsD v), zI 4 0], []⟩) aA (fun hc1 => ?_) (fun hc1 => ?_)
 (try simp only [bY] at hc1)
 refine zR hG [] [] (.c (cI (((intsD u).length : Int) - ((intsD v).length : Int)))) [] (aD (by intros; (try have h1 := hdu (by omega)); (try have h2 := hdv (by omega)); (try simp only [zq11] at *); omega : inR (((intsD u).length : Int) - ((intsD v).length : Int)))) ?_ ?_
 rw [cmpL, if_neg (by omega), aP, aP]
 rfl
 (try simp only [bY] at hc1)
 refine zL hG [] [0, 1, 0, 1, 1] (fun (zz : Int) => match zz with | k => ((k + 1).toNat, ⟨[zM 0 1 (intsD u), zM 1 1 (intsD v), zI 4 0, zI 5 k], []⟩, -1 ≤ k ∧ k < u.length ∧ td (u.drop (k + 1).toNat) (v.drop (k + 1).toNat) = 0)) (((intsD u).length : Int) - 1) (aD (by intros; (try have h1 := hdu (by omega)); (try have h2 := hdv (by omega)); (try simp only [zq11] at *); omega : inR (((intsD u).length : Int) - 1))) ?_ ?_
 rw [aP]
 refine ⟨by omega, by omega, ?_⟩
 rw [List.drop_eq_nil_of_le (by omega)]; rfl
 rintro k ⟨hk1, hk2, ht⟩
 have hat : 0 ≤ k → td (u.drop k.toNat) (v.drop k.toNat) = u.getD k.toNat 0 - v.getD k.toNat 0 := fun h0 => td_at (by omega) (by omega) (by rw [show k.toNat + 1 = (k + 1).toNat by omega]; exact ht)
 have hdu : 0 ≤ k → 0 ≤ u.getD k.toNat 0 ∧ u.getD k.toNat 0 < 16777216 := fun h0 => hu.at (by omega)
 have hdv : 0 ≤ k → 0 ≤ v.getD k.toNat 0 ∧ v.getD k.toNat 0 < 16777216 := fun h0 => hv.at (by omega)
 refine zc hG [] [1, 0] (decide ((k : Int) ≥ 0)) aA (fun hc3 => ?_) (fun hc3 => ?_)
 (try simp only [bY] at hc3)
 refine zc hG [(6, 2, .elem (intD ((u).getD (k : Int).toNat 0))), (6, 6, .elem (intD ((v).getD (k : Int).toNat 0)))] [1, 0, 0, 1] (!decide (((u).getD (k : Int).toNat 0 : Int) = ((v).getD (k : Int).toNat 0))) (aB (by intros; exact aT _ (by omega) (by (try simp only [zq8] at *); omega) : (0 : Int) ≤ k ∧ (intsD u)[(k : Int).toNat]? = some (intD ((u).getD (k : Int).toNat 0))) (aD (by intros; exact aT _ (by omega) (by (try simp only [zq8] at *); omega) : (0 : Int) ≤ k ∧ (intsD v)[(k : Int).toNat]? = some (intD ((v).getD (k : Int).toNat 0))))) (fun hc4 => ?_) (fun hc4 => ?_)
 (try simp only [bY] at hc4)
 refine zE hG [(7, 2, .elem (intD ((u).getD (k : Int).toNat 0))), (7, 6, .elem (intD ((v).getD (k : Int).toNat 0)))] .ret (⟨[zI 4 (((u).getD (k : Int).toNat 0) - ((v).getD (k : Int).toNat 0))], []⟩) (aB (by intros; exact aT _ (by omega) (by (try simp only [zq8] at *); omega) : (0 : Int) ≤ k ∧ (intsD u)[(k : Int).toNat]? = some (intD ((u).getD (k : Int).toNat 0))) (aB (by intros; exact aT _ (by omega) (by (try simp only [zq8] at *); omega) : (0 : Int) ≤ k ∧ (intsD v)[(k : Int).toNat]? = some (intD ((v).getD (k : Int).toNat 0))) (aD (by intros; (try have h1 := hdu (by omega)); (try have h2 := hdv (by omega)); (try simp only [zq11] at *); omega : inR (((u).getD (k : Int).toNat 0) - ((v).getD (k : Int).toNat 0)))))) rfl ?_
 refine zR hG [] [] (.c (cI (((u).getD (k : Int).toNat 0) - ((v).getD (k : Int).toNat 0)))) [] aA ?_ ?_
 rw [cmpL, if_pos (by omega), aBG k.toNat (by rw [hat (by omega)]; omega), hat (by omega)]
 rfl
 (try simp only [bY] at hc4)
 refine zD hG [] (k - 1) (aD (by intros; (try have h1 := hdu (by omega)); (try have h2 := hdv (by omega)); (try simp only [zq11] at *); omega : inR (k - 1))) ?_ ?_
 (try dsimp only); omega
 refine ⟨by omega, by omega, ?_⟩
 rw [show (k - 1 + 1).toNat = k.toNat by omega, hat (by omega)]; omega
 (try simp only [bY] at hc3)
 refine zE hG [] (.exit 0) (⟨[zI 4 0], []⟩) aA rfl ?_
 refine zR hG [] [] (.c (cI 0)) [] aA ?_ ?_
 rw [show (k + 1).toNat = 0 by omega, List.drop_zero, List.drop_zero] at ht
 rw [cmpL, if_pos (by omega), ht]
 rfl
def cQ := And.intro @List.length_append.{0} (And.intro @List.length_cons.{0} (And.intro @List.length_nil.{0} (And.intro @decide_eq_true_eq (And.intro @Go.Eng.inR.eq_1 (@aP)))))
theorem vR (y : Nat) (d : Int) (hd : 0 ≤ d ∧ d < 16777216) (hl : (dg y).length ≤ 400000000) :
  SpG g 300 [.c (cM 1 (intsD (dg y))), .c (cI d)] [] (.c (cM 1 (intsD (dg (y * d.toNat))))) [] := by
 refine aL 35 Tryz.func300 (by kernel_rfl) fun fr hG => ?_
 refine cT 0 rfl fun hl0 => ?_
 refine zA hG [] [0, 1, 0, 1, 1, 1] (⟨[zM 0 1 (intsD (dg y)), zI 1 d, zN 4, zN 5, zI 6 0, zI 7 0], []⟩) [(5, 9001, 3, 1)] [] (fun (zz : Nat × Int × List (List D) × List Int) => match zz with | (k, c, es, acc) => ((dg y).length - k, ⟨[zM 0 1 (intsD (dg y)), zI 1 d, zN 4, zY 5 9001 0, zI 6 c, zI 7 (k : Int)], [(9001, .arr 0 3 1 (es))]⟩, k ≤ (dg y).length ∧ acc.length = k ∧ es = intsD acc ∧ Dg acc ∧ (0 ≤ c ∧ c < 16777216) ∧ vd acc + 16777216 ^ k * (c + vd ((dg y).drop k) * d) = y * d)) (0, 0, [], []) aA ?_ ?_
 refine ⟨Nat.zero_le _, rfl, rfl, Dg.nil, by omega, ?_⟩
 rw [List.drop_zero, (bH y).1, vd]; simp
 rintro ⟨k, c, es, acc⟩ ⟨hk, ha, hes, hD, hc, hI⟩
 have hlen : es.length = k := by rw [hes, aP, ha]
 have hyk : k < (dg y).length → 0 ≤ (dg y).getD k 0 ∧ (dg y).getD k 0 < 16777216 := fun h => (bH y).2.at h
 refine zc hG [] [1, 0] (decide (((k : Int) : Int) < ((intsD (dg y)).length : Int))) aA (fun hc2 => ?_) (fun hc2 => ?_)
 (try simp only [bY] at hc2)
 refine zD hG [(6, 2, .elem (intD ((dg y).getD k 0)))] (k + 1, Int.tdiv ((dg y).getD k 0 * d + c) 16777216, es ++ [[D.i (Int.tmod ((dg y).getD k 0 * d + c) 16777216)]], acc ++ [Int.tmod ((dg y).getD k 0 * d + c) 16777216]) (aB (by intros; exact aT _ (by omega) (by (try simp only [zq8] at *); omega) : (0 : Int) ≤ (k : Int) ∧ (intsD (dg y))[k]? = some (intD ((dg y).getD k 0))) (aB (by intros; (try have hb := fI hd (hyk (by omega)) hc); (try simp only [cQ] at *); omega : inR (((dg y).getD k 0) * d)) (aB (by intros; (try have hb := fI hd (hyk (by omega)) hc); (try simp only [cQ] at *); omega : inR ((((dg y).getD k 0) * d) + c)) (aB (by intros; (try have hb := fI hd (hyk (by omega)) hc); (try simp only [cQ] at *); omega : 16777216 ≠ (0 : Int)) (aB (by intros; (try have hb := fI hd (hyk (by omega)) hc); (try simp only [cQ] at *); omega : ((es).length + (([[.i (Int.tmod ((((dg y).getD k 0) * d) + c) 16777216)]] : List (List D))).length) * (8 + 1) ≤ 140737488355328) (aB (by intros; (try have hb := fI hd (hyk (by omega)) hc); (try simp only [cQ] at *); omega : 16777216 ≠ (0 : Int) ∧ inR (Int.tdiv ((((dg y).getD k 0) * d) + c) 16777216)) (aD (by intros; (try have hb := fI hd (hyk (by omega)) hc); (try simp only [cQ] at *); omega : inR ((k : Int) + 1))))))))) ?_ ?_
 (try dsimp only); omega
 have hb := fI hd (hyk (by omega)) hc
 have hm := pU hb.2.2.1
 refine ⟨by omega, by simp [ha], by rw [hes, cH], hD.snoc hm.1 hm.2, ⟨hb.2.2.2.2, hb.2.2.2.1⟩, ?_⟩
 have hst := gM (s := (dg y).getD k 0 * d + c) (X' := vd ((dg y).drop (k + 1)) * d) ha hb.2.2.1 (by rw [drop_at (by omega), Int.add_mul]; grind) hI
 exact hst
 (try simp only [bY] at hc2)
 refine zE hG [] (.exit 0) (⟨[zN 4, zY 5 9001 0, zI 6 c], [(9001, .arr 0 3 1 (es))]⟩) aA rfl ?_
 exact zr hG [(9, 3, .elem []), (9, 4, kC (.c (cM 1 (intsD (dg (y * d.toNat))))))] [] (aB (by intros; (try have hb := fI hd (hyk (by omega)) hc); (try simp only [cQ] at *); omega : ((es).length + ([[.i c]] : List (List D)).length) * (8 + 1) ≤ 140737488355328) (aD ((tM (es := es ++ ([[.i c]] : List (List D))) (l := acc ++ [c]) (n := y * d.toNat) (by rw [hes, cH]) (hD.snoc hc.1 hc.2) (by
 have hk9 : k = (dg y).length := by omega
 rw [hk9, eQ (Nat.le_refl _), Int.zero_mul, Int.add_zero] at hI
 rw [k6, ha, hk9, hI]; push_cast; rw [show ((d.toNat : Nat) : Int) = d by omega]) : SpG g _ _ _ _ _))))
theorem aG8 (x y : Nat) (h : y ≤ x) (hl : (dg x).length ≤ 400000000) (hl2 : (dg y).length ≤ 400000000) :
  SpG g 299 [.c (cM 1 (intsD (dg x))), .c (cM 1 (intsD (dg y)))] [] (.c (cM 1 (intsD (dg (x - y))))) [] := by
 refine aL 41 Tryz.func299 (by kernel_rfl) fun fr hG => ?_
 refine cT 0 rfl fun hl0 => ?_
 refine cT 1 rfl fun hl1 => ?_
 refine zA hG [] [0, 1, 0, 1, 1, 1] (⟨[zM 0 1 (intsD (dg x)), zM 1 1 (intsD (dg y)), zN 4, zN 5, zI 6 0, zI 7 0], []⟩) [(5, 9001, 3, 1)] [] (fun (zz : Nat × Int × List (List D) × List Int) => match zz with | (k, b, es, acc) => ((dg x).length - k, ⟨[zM 0 1 (intsD (dg x)), zM 1 1 (intsD (dg y)), zN 4, zY 5 9001 0, zI 6 b, zI 7 (k : Int)], [(9001, .arr 0 3 1 (es))]⟩, k ≤ (dg x).length ∧ acc.length = k ∧ es = intsD acc ∧ Dg acc ∧ (0 ≤ b ∧ b ≤ 1) ∧ vd acc + 16777216 ^ k * (vd ((dg x).drop k) - vd ((dg y).drop k) - b) = (x : Int) - y)) (0, 0, [], []) aA ?_ ?_
 refine ⟨Nat.zero_le _, rfl, rfl, Dg.nil, by omega, ?_⟩
 rw [List.drop_zero, List.drop_zero, (bH y).1, (bH x).1, vd]; simp
 rintro ⟨k, b, es, acc⟩ ⟨hk, ha, hes, hD, hb, hI⟩
 have hlen : es.length = k := by rw [hes, aP, ha]
 obtain ⟨hu1, hu2, hu3⟩ := aCQ (bH x).2 k
 obtain ⟨hv1, hv2, hv3⟩ := aCQ (bH y).2 k
 have hxk : k < (dg x).length → 0 ≤ (dg x).getD k 0 ∧ (dg x).getD k 0 < 16777216 := fun h => (bH x).2.at h
 have hyk : k < (dg y).length → 0 ≤ (dg y).getD k 0 ∧ (dg y).getD k 0 < 16777216 := fun h => (bH y).2.at h
 refine zc hG [] [1, 0] (decide (((k : Int) : Int) < ((intsD (dg x)).length : Int))) aA (fun hc2 => ?_) (fun hc2 => ?_)
 (try simp only [bY] at hc2)
 refine zC hG [(6, 2, .elem (intD ((dg x).getD k 0)))] [1, 0, 1, 0, 0, 1] (decide (((k : Int) : Int) < ((intsD (dg y)).length : Int))) (⟨[zM 0 1 (intsD (dg x)), zM 1 1 (intsD (dg y)), zN 4, zY 5 9001 0, zI 6 b, zI 7 (k : Int), zI 8 (((dg x).getD k 0) - b)], [(9001, .arr 0 3 1 (es))]⟩) (aB (by intros; exact aT _ (by omega) (by (try simp only [zq8] at *); omega) : (0 : Int) ≤ (k : Int) ∧ (intsD (dg x))[k]? = some (intD ((dg x).getD k 0))) (aD (by intros; (try have hx9 := hxk (by omega)); (try have hy9 := hyk (by omega)); (try simp only [cQ] at *); omega : inR (((dg x).getD k 0) - b)))) (fun hc3 => ?_) (fun hc3 => ?_)
 (try simp only [bY] at hc3)
 refine zC hG [(8, 3, .elem (intD ((dg y).getD k 0)))] [1, 0, 1, 1, 1, 0, 0, 1] (decide (((((dg x).getD k 0) - b) - ((dg y).getD k 0) : Int) < 0)) (⟨[zM 0 1 (intsD (dg x)), zM 1 1 (intsD (dg y)), zN 4, zY 5 9001 0, zI 6 0, zI 7 (k : Int), zI 8 ((((dg x).getD k 0) - b) - ((dg y).getD k 0))], [(9001, .arr 0 3 1 (es))]⟩) (aB (by intros; exact aT _ (by omega) (by (try simp only [zq8] at *); omega) : (0 : Int) ≤ (k : Int) ∧ (intsD (dg y))[k]? = some (intD ((dg y).getD k 0))) (aD (by intros; (try have hx9 := hxk (by omega)); (try have hy9 := hyk (by omega)); (try simp only [cQ] at *); omega : inR ((((dg x).getD k 0) - b) - ((dg y).getD k 0))))) (fun hc4 => ?_) (fun hc4 => ?_)
 (try simp only [bY] at hc4)
 refine zD hG [] (k + 1, 1, es ++ [[D.i ((((dg x).getD k 0 - b) - (dg y).getD k 0) + 16777216)]], acc ++ [(((dg x).getD k 0 - b) - (dg y).getD k 0) + 16777216]) (aB (by intros; (try have hx9 := hxk (by omega)); (try have hy9 := hyk (by omega)); (try simp only [cQ] at *); omega : inR (((((dg x).getD k 0) - b) - ((dg y).getD k 0)) + 16777216)) (aB (by intros; (try have hx9 := hxk (by omega)); (try have hy9 := hyk (by omega)); (try simp only [cQ] at *); omega : ((es).length + (([[.i (((((dg x).getD k 0) - b) - ((dg y).getD k 0)) + 16777216)]] : List (List D))).length) * (8 + 1) ≤ 140737488355328) (aD (by intros; (try have hx9 := hxk (by omega)); (try have hy9 := hyk (by omega)); (try simp only [cQ] at *); omega : inR ((k : Int) + 1))))) ?_ ?_
 (try dsimp only); omega
 rw [if_pos (by omega)] at hu1 hu2 hu3
 rw [if_pos (by omega)] at hv1 hv2 hv3
 refine ⟨by omega, by simp [ha], by rw [hes, cH], hD.snoc (by omega) (by omega), by omega, ?_⟩
 exact iE (e := (((dg x).getD k 0 - b) - (dg y).getD k 0) + 16777216) (b' := 1) ha hu1 hv1 (by omega) hI
 (try simp only [bY] at hc4)
 refine zD hG [] (k + 1, 0, es ++ [[D.i (((dg x).getD k 0 - b) - (dg y).getD k 0)]], acc ++ [((dg x).getD k 0 - b) - (dg y).getD k 0]) (aB (by intros; (try have hx9 := hxk (by omega)); (try have hy9 := hyk (by omega)); (try simp only [cQ] at *); omega : ((es).length + (([[.i ((((dg x).getD k 0) - b) - ((dg y).getD k 0))]] : List (List D))).length) * (8 + 1) ≤ 140737488355328) (aD (by intros; (try have hx9 := hxk (by omega)); (try have hy9 := hyk (by omega)); (try simp only [cQ] at *); omega : inR ((k : Int) + 1)))) ?_ ?_
 (try dsimp only); omega
 rw [if_pos (by omega)] at hu1 hu2 hu3
 rw [if_pos (by omega)] at hv1 hv2 hv3
 refine ⟨by omega, by simp [ha], by rw [hes, cH], hD.snoc (by omega) (by omega), by omega, ?_⟩
 exact iE (e := ((dg x).getD k 0 - b) - (dg y).getD k 0) (b' := 0) ha hu1 hv1 (by omega) hI
 (try simp only [bY] at hc3)
 refine zC hG [] [1, 0, 1, 1, 1, 0, 0, 1] (decide ((((dg x).getD k 0) - b : Int) < 0)) (⟨[zM 0 1 (intsD (dg x)), zM 1 1 (intsD (dg y)), zN 4, zY 5 9001 0, zI 6 0, zI 7 (k : Int), zI 8 (((dg x).getD k 0) - b)], [(9001, .arr 0 3 1 (es))]⟩) aA (fun hc5 => ?_) (fun hc5 => ?_)
 (try simp only [bY] at hc5)
 refine zD hG [] (k + 1, 1, es ++ [[D.i (((dg x).getD k 0 - b) + 16777216)]], acc ++ [((dg x).getD k 0 - b) + 16777216]) (aB (by intros; (try have hx9 := hxk (by omega)); (try have hy9 := hyk (by omega)); (try simp only [cQ] at *); omega : inR ((((dg x).getD k 0) - b) + 16777216)) (aB (by intros; (try have hx9 := hxk (by omega)); (try have hy9 := hyk (by omega)); (try simp only [cQ] at *); omega : ((es).length + (([[.i ((((dg x).getD k 0) - b) + 16777216)]] : List (List D))).length) * (8 + 1) ≤ 140737488355328) (aD (by intros; (try have hx9 := hxk (by omega)); (try have hy9 := hyk (by omega)); (try simp only [cQ] at *); omega : inR ((k : Int) + 1))))) ?_ ?_
 (try dsimp only); omega
 rw [if_pos (by omega)] at hu1 hu2 hu3
 rw [if_neg (by omega)] at hv1 hv2 hv3
 refine ⟨by omega, by simp [ha], by rw [hes, cH], hD.snoc (by omega) (by omega), by omega, ?_⟩
 exact iE (e := ((dg x).getD k 0 - b) + 16777216) (b' := 1) ha hu1 hv1 (by omega) hI
 (try simp only [bY] at hc5)
 refine zD hG [] (k + 1, 0, es ++ [[D.i ((dg x).getD k 0 - b)]], acc ++ [(dg x).getD k 0 - b]) (aB (by intros; (try have hx9 := hxk (by omega)); (try have hy9 := hyk (by omega)); (try simp only [cQ] at *); omega : ((es).length + (([[.i (((dg x).getD k 0) - b)]] : List (List D))).length) * (8 + 1) ≤ 140737488355328) (aD (by intros; (try have hx9 := hxk (by omega)); (try have hy9 := hyk (by omega)); (try simp only [cQ] at *); omega : inR ((k : Int) + 1)))) ?_ ?_
 (try dsimp only); omega
 rw [if_pos (by omega)] at hu1 hu2 hu3
 rw [if_neg (by omega)] at hv1 hv2 hv3
 refine ⟨by omega, by simp [ha], by rw [hes, cH], hD.snoc (by omega) (by omega), by omega, ?_⟩
 exact iE (e := (dg x).getD k 0 - b) (b' := 0) ha hu1 hv1 (by omega) hI
 (try simp only [bY] at hc2)
 refine zE hG [] (.exit 0) (⟨[zN 4, zY 5 9001 0], [(9001, .arr 0 3 1 (es))]⟩) aA rfl ?_
 refine vV hG (⟨[zN 4, zM 5 1 (es)], []⟩) (by kernel_rfl) ?_
 exact zr hG [(14, 1, kC (.c (cM 1 (intsD (dg (x - y))))))] [] (aD ((tM (es := es) (l := acc) (n := x - y) hes hD (by
 have hk9 : k = (dg x).length := by omega
 have hz : vd ((dg x).drop k) = 0 := eQ (by omega)
 rw [hz] at hI
 exact aD4 ha hD (gR ((bH y).2.drop k)) hb.1 h hI) : SpG g _ _ _ _ _)))
theorem add_ok (x y : Nat) (hx : (nb x).length ≤ 900000000) (hy : (nb y).length ≤ 900000000) :
  SpG g 168 [.c (cS (S (nb x))), .c (cS (S (nb y)))] [] (.c (cS (S (nb (x + y))))) [] := by
 have lx := u9 (n := x) (k := 300000000) (by omega)
 have ly := u9 (n := y) (k := 300000000) (by omega)
 have hsx : 0 ≤ smV x 7 ∧ smV x 7 < 72057594037927936 := by unfold smV; split <;> omega
 have hsy : 0 ≤ smV y 7 ∧ smV y 7 < 72057594037927936 := by unfold smV; split <;> omega
 refine aL 83 Tryz.func168 (by kernel_rfl) fun fr hG => ?_
 refine zC hG [(1, 1, kC (y0 (smV x 7) (smK x 7))), (2, 1, kC (y0 (smV y 7) (smK y 7)))] [1, 0, 1, 1, 1] ((smK x 7) && (smK y 7)) (⟨[zS 0 (S (nb x)), zS 1 (S (nb y)), zS 4 (S []), zI 5 (smV x 7), zI 7 (smV y 7)], []⟩) (aB (lC x 7 (by decide) (by omega) : SpG g _ _ _ _ _) (aD (lC y 7 (by decide) (by omega) : SpG g _ _ _ _ _))) (fun hc1 => ?_) (fun hc1 => ?_)
 (try simp only [bY] at hc1)
 refine zR hG [(4, 3, kS (S (nb ((smV x 7) + (smV y 7)).toNat)))] [] (.c (cS (S (nb ((smV x 7) + (smV y 7)).toNat)))) [] (aB (by intros; (try have hx9 := hxk (by omega)); (try have hy9 := hyk (by omega)); (try simp only [cQ] at *); first | omega | (rw [bM] <;> omega) : inR ((smV x 7) + (smV y 7))) (aD (pR ((smV x 7) + (smV y 7)) (by omega) : SpG g _ _ _ _ _))) ?_ ?_
 have h1 : x < 256 ^ 7 ∧ y < 256 ^ 7 := by simpa [smK] using hc1
 have e1 : smV x 7 = x := if_pos h1.1
 have e2 : smV y 7 = y := if_pos h1.2
 rw [e1, e2, show ((x : Int) + y).toNat = x + y by omega]
 rfl
 (try simp only [bY] at hc1)
 refine zA hG [(5, 1, kC (.c (cM 1 (intsD (dg x))))), (6, 1, kC (.c (cM 1 (intsD (dg y)))))] [0, 1, 0, 1, 1, 1, 1, 1, 1, 1, 1] (⟨[zS 4 (S []), zM 9 1 (intsD (dg x)), zM 10 1 (intsD (dg y)), zN 11, zI 12 0, zI 13 0], []⟩) [(11, 9001, 3, 1)] [] (fun (zz : Nat × Int × List (List D) × List Int) => match zz with | (k, c, es, acc) => ((max (dg x).length (dg y).length) + 1 - k, ⟨[zS 4 (S []), zM 9 1 (intsD (dg x)), zM 10 1 (intsD (dg y)), zY 11 9001 0, zI 12 c, zI 13 (k : Int)], [(9001, .arr 0 3 1 (es))]⟩, k ≤ (max (dg x).length (dg y).length) + 1 ∧ (k = (max (dg x).length (dg y).length) + 1 → c = 0) ∧ acc.length = k ∧ es = intsD acc ∧ Dg acc ∧ (0 ≤ c ∧ c ≤ 1) ∧ vd acc + 16777216 ^ k * (c + vd ((dg x).drop k) + vd ((dg y).drop k)) = (x : Int) + y)) (0, 0, [], []) (aB (uF x (by omega) : SpG g _ _ _ _ _) (aD (uF y (by omega) : SpG g _ _ _ _ _))) ?_ ?_
 refine ⟨Nat.zero_le _, by omega, rfl, rfl, Dg.nil, by omega, ?_⟩
 rw [List.drop_zero, List.drop_zero, (bH y).1, (bH x).1, vd]; simp
 rintro ⟨k, c, es, acc⟩ ⟨hk, hkc, ha, hes, hD, hc, hI⟩
 have hlen : es.length = k := by rw [hes, aP, ha]
 obtain ⟨hu1, hu2, hu3⟩ := aCQ (bH x).2 k
 obtain ⟨hv1, hv2, hv3⟩ := aCQ (bH y).2 k
 have hxk : k < (dg x).length → 0 ≤ (dg x).getD k 0 ∧ (dg x).getD k 0 < 16777216 := fun h => (bH x).2.at h
 have hyk : k < (dg y).length → 0 ≤ (dg y).getD k 0 ∧ (dg y).getD k 0 < 16777216 := fun h => (bH y).2.at h
 refine zc hG [] [1, 0] (((decide (((k : Int) : Int) < ((intsD (dg x)).length : Int))) || (decide (((k : Int) : Int) < ((intsD (dg y)).length : Int)))) || (decide ((c : Int) > 0))) aA (fun hc3 => ?_) (fun hc3 => ?_)
 (try simp only [bY] at hc3)
 refine zC hG [] [1, 0, 1, 0, 0, 1] (decide (((k : Int) : Int) < ((intsD (dg x)).length : Int))) (⟨[zS 4 (S []), zM 9 1 (intsD (dg x)), zM 10 1 (intsD (dg y)), zY 11 9001 0, zI 12 c, zI 13 (k : Int), zI 14 c], [(9001, .arr 0 3 1 (es))]⟩) aA (fun hc4 => ?_) (fun hc4 => ?_)
 (try simp only [bY] at hc4)
 refine zC hG [(14, 3, .elem (intD ((dg x).getD k 0)))] [1, 0, 1, 1, 0, 0, 1] (decide (((k : Int) : Int) < ((intsD (dg y)).length : Int))) (⟨[zS 4 (S []), zM 9 1 (intsD (dg x)), zM 10 1 (intsD (dg y)), zY 11 9001 0, zI 12 c, zI 13 (k : Int), zI 14 (c + ((dg x).getD k 0))], [(9001, .arr 0 3 1 (es))]⟩) (aB (by intros; exact aT _ (by omega) (by (try simp only [zq8] at *); omega) : (0 : Int) ≤ (k : Int) ∧ (intsD (dg x))[k]? = some (intD ((dg x).getD k 0))) (aD (by intros; (try have hx9 := hxk (by omega)); (try have hy9 := hyk (by omega)); (try simp only [cQ] at *); first | omega | (rw [bM] <;> omega) : inR (c + ((dg x).getD k 0))))) (fun hc5 => ?_) (fun hc5 => ?_)
 (try simp only [bY] at hc5)
 refine zD hG [(16, 3, .elem (intD ((dg y).getD k 0)))] (k + 1, Int.tdiv ((c + (dg x).getD k 0) + (dg y).getD k 0) 16777216, es ++ [[D.i (Int.tmod ((c + (dg x).getD k 0) + (dg y).getD k 0) 16777216)]], acc ++ [Int.tmod ((c + (dg x).getD k 0) + (dg y).getD k 0) 16777216]) (aB (by intros; exact aT _ (by omega) (by (try simp only [zq8] at *); omega) : (0 : Int) ≤ (k : Int) ∧ (intsD (dg y))[k]? = some (intD ((dg y).getD k 0))) (aB (by intros; (try have hx9 := hxk (by omega)); (try have hy9 := hyk (by omega)); (try simp only [cQ] at *); first | omega | (rw [bM] <;> omega) : inR ((c + ((dg x).getD k 0)) + ((dg y).getD k 0))) (aB (by intros; (try have hx9 := hxk (by omega)); (try have hy9 := hyk (by omega)); (try simp only [cQ] at *); first | omega | (rw [bM] <;> omega) : 16777216 ≠ (0 : Int)) (aB (by intros; (try have hx9 := hxk (by omega)); (try have hy9 := hyk (by omega)); (try simp only [cQ] at *); first | omega | (rw [bM] <;> omega) : ((es).length + (([[.i (Int.tmod ((c + ((dg x).getD k 0)) + ((dg y).getD k 0)) 16777216)]] : List (List D))).length) * (8 + 1) ≤ 140737488355328) (aB (by intros; (try have hx9 := hxk (by omega)); (try have hy9 := hyk (by omega)); (try simp only [cQ] at *); first | omega | (rw [bM] <;> omega) : 16777216 ≠ (0 : Int) ∧ inR (Int.tdiv ((c + ((dg x).getD k 0)) + ((dg y).getD k 0)) 16777216)) (aD (by intros; (try have hx9 := hxk (by omega)); (try have hy9 := hyk (by omega)); (try simp only [cQ] at *); first | omega | (rw [bM] <;> omega) : inR ((k : Int) + 1)))))))) ?_ ?_
 (try dsimp only); omega
 rw [if_pos (by omega)] at hu1 hu2 hu3
 rw [if_pos (by omega)] at hv1 hv2 hv3
 have hm := pU (s := (c + (dg x).getD k 0) + (dg y).getD k 0) (by omega)
 have hq := (jS (s := (c + (dg x).getD k 0) + (dg y).getD k 0) (by omega)).2
 refine ⟨by omega, by omega, by simp [ha], by rw [hes, cH], hD.snoc hm.1 hm.2, by omega, ?_⟩
 have hst := gM (s := (c + (dg x).getD k 0) + (dg y).getD k 0) (X' := vd ((dg x).drop (k + 1)) + vd ((dg y).drop (k + 1))) ha (by omega) (by rw [hu1, hv1]; omega) hI
 rw [← Int.add_assoc] at hst; exact hst
 (try simp only [bY] at hc5)
 refine zD hG [] (k + 1, Int.tdiv (c + (dg x).getD k 0) 16777216, es ++ [[D.i (Int.tmod (c + (dg x).getD k 0) 16777216)]], acc ++ [Int.tmod (c + (dg x).getD k 0) 16777216]) (aB (by intros; (try have hx9 := hxk (by omega)); (try have hy9 := hyk (by omega)); (try simp only [cQ] at *); first | omega | (rw [bM] <;> omega) : 16777216 ≠ (0 : Int)) (aB (by intros; (try have hx9 := hxk (by omega)); (try have hy9 := hyk (by omega)); (try simp only [cQ] at *); first | omega | (rw [bM] <;> omega) : ((es).length + (([[.i (Int.tmod (c + ((dg x).getD k 0)) 16777216)]] : List (List D))).length) * (8 + 1) ≤ 140737488355328) (aB (by intros; (try have hx9 := hxk (by omega)); (try have hy9 := hyk (by omega)); (try simp only [cQ] at *); first | omega | (rw [bM] <;> omega) : 16777216 ≠ (0 : Int) ∧ inR (Int.tdiv (c + ((dg x).getD k 0)) 16777216)) (aD (by intros; (try have hx9 := hxk (by omega)); (try have hy9 := hyk (by omega)); (try simp only [cQ] at *); first | omega | (rw [bM] <;> omega) : inR ((k : Int) + 1)))))) ?_ ?_
 (try dsimp only); omega
 rw [if_pos (by omega)] at hu1 hu2 hu3
 rw [if_neg (by omega)] at hv1 hv2 hv3
 have hm := pU (s := c + (dg x).getD k 0) (by omega)
 have hq := (jS (s := c + (dg x).getD k 0) (by omega)).2
 refine ⟨by omega, by omega, by simp [ha], by rw [hes, cH], hD.snoc hm.1 hm.2, by omega, ?_⟩
 have hst := gM (s := c + (dg x).getD k 0) (X' := vd ((dg x).drop (k + 1)) + vd ((dg y).drop (k + 1))) ha (by omega) (by rw [hu1, hv1]; omega) hI
 rw [← Int.add_assoc] at hst; exact hst
 (try simp only [bY] at hc4)
 refine zc hG [] [1, 0, 1, 1, 0, 0, 1] (decide (((k : Int) : Int) < ((intsD (dg y)).length : Int))) aA (fun hc6 => ?_) (fun hc6 => ?_)
 (try simp only [bY] at hc6)
 refine zD hG [(16, 3, .elem (intD ((dg y).getD k 0)))] (k + 1, Int.tdiv (c + (dg y).getD k 0) 16777216, es ++ [[D.i (Int.tmod (c + (dg y).getD k 0) 16777216)]], acc ++ [Int.tmod (c + (dg y).getD k 0) 16777216]) (aB (by intros; exact aT _ (by omega) (by (try simp only [zq8] at *); omega) : (0 : Int) ≤ (k : Int) ∧ (intsD (dg y))[k]? = some (intD ((dg y).getD k 0))) (aB (by intros; (try have hx9 := hxk (by omega)); (try have hy9 := hyk (by omega)); (try simp only [cQ] at *); first | omega | (rw [bM] <;> omega) : inR (c + ((dg y).getD k 0))) (aB (by intros; (try have hx9 := hxk (by omega)); (try have hy9 := hyk (by omega)); (try simp only [cQ] at *); first | omega | (rw [bM] <;> omega) : 16777216 ≠ (0 : Int)) (aB (by intros; (try have hx9 := hxk (by omega)); (try have hy9 := hyk (by omega)); (try simp only [cQ] at *); first | omega | (rw [bM] <;> omega) : ((es).length + (([[.i (Int.tmod (c + ((dg y).getD k 0)) 16777216)]] : List (List D))).length) * (8 + 1) ≤ 140737488355328) (aB (by intros; (try have hx9 := hxk (by omega)); (try have hy9 := hyk (by omega)); (try simp only [cQ] at *); first | omega | (rw [bM] <;> omega) : 16777216 ≠ (0 : Int) ∧ inR (Int.tdiv (c + ((dg y).getD k 0)) 16777216)) (aD (by intros; (try have hx9 := hxk (by omega)); (try have hy9 := hyk (by omega)); (try simp only [cQ] at *); first | omega | (rw [bM] <;> omega) : inR ((k : Int) + 1)))))))) ?_ ?_
 (try dsimp only); omega
 rw [if_neg (by omega)] at hu1 hu2 hu3
 rw [if_pos (by omega)] at hv1 hv2 hv3
 have hm := pU (s := c + (dg y).getD k 0) (by omega)
 have hq := (jS (s := c + (dg y).getD k 0) (by omega)).2
 refine ⟨by omega, by omega, by simp [ha], by rw [hes, cH], hD.snoc hm.1 hm.2, by omega, ?_⟩
 have hst := gM (s := c + (dg y).getD k 0) (X' := vd ((dg x).drop (k + 1)) + vd ((dg y).drop (k + 1))) ha (by omega) (by rw [hu1, hv1]; omega) hI
 rw [← Int.add_assoc] at hst; exact hst
 (try simp only [bY] at hc6)
 refine zD hG [] (k + 1, Int.tdiv (c) 16777216, es ++ [[D.i (Int.tmod (c) 16777216)]], acc ++ [Int.tmod (c) 16777216]) (aB (by intros; (try have hx9 := hxk (by omega)); (try have hy9 := hyk (by omega)); (try simp only [cQ] at *); first | omega | (rw [bM] <;> omega) : 16777216 ≠ (0 : Int)) (aB (by intros; (try have hx9 := hxk (by omega)); (try have hy9 := hyk (by omega)); (try simp only [cQ] at *); first | omega | (rw [bM] <;> omega) : ((es).length + (([[.i (Int.tmod c 16777216)]] : List (List D))).length) * (8 + 1) ≤ 140737488355328) (aB (by intros; (try have hx9 := hxk (by omega)); (try have hy9 := hyk (by omega)); (try simp only [cQ] at *); first | omega | (rw [bM] <;> omega) : 16777216 ≠ (0 : Int) ∧ inR (Int.tdiv c 16777216)) (aD (by intros; (try have hx9 := hxk (by omega)); (try have hy9 := hyk (by omega)); (try simp only [cQ] at *); first | omega | (rw [bM] <;> omega) : inR ((k : Int) + 1)))))) ?_ ?_
 (try dsimp only); omega
 rw [if_neg (by omega)] at hu1 hu2 hu3
 rw [if_neg (by omega)] at hv1 hv2 hv3
 have hm := pU (s := c) (by omega)
 have hq := (jS (s := c) (by omega)).2
 refine ⟨by omega, by omega, by simp [ha], by rw [hes, cH], hD.snoc hm.1 hm.2, by omega, ?_⟩
 have hst := gM (s := c) (X' := vd ((dg x).drop (k + 1)) + vd ((dg y).drop (k + 1))) ha (by omega) (by rw [hu1, hv1]; omega) hI
 rw [← Int.add_assoc] at hst; exact hst
 (try simp only [bY] at hc3)
 refine zE hG [] (.exit 0) (⟨[zS 4 (S []), zY 11 9001 0], [(9001, .arr 0 3 1 (es))]⟩) aA rfl ?_
 refine zR hG [(19, 1, kS (S (nb (vd acc).toNat)))] [] (.c (cS (S (nb (vd acc).toNat)))) [] (aD (rZ hes hD (by omega) : SpG g _ _ _ _ _)) ?_ ?_
 have hz1 : vd ((dg x).drop k) = 0 := eQ (by omega)
 have hz2 : vd ((dg y).drop k) = 0 := eQ (by omega)
 rw [hz1, hz2, show c = 0 by omega] at hI
 rw [show (vd acc).toNat = x + y by omega]
 rfl
theorem aIH (x y : Nat) (h0 : 0 < y) (hq : x < y * 16777216) (hx : (dg x).length ≤ 400000000) (hy : (dg y).length ≤ 400000000) :
  SpG g 298 [.c (cM 1 (intsD (dg x))), .c (cM 1 (intsD (dg y)))] [] (.c (cI ((x / y : Nat) : Int))) [] := by
 refine aL 26 Tryz.func298 (by kernel_rfl) fun fr hG => ?_
 refine zL hG [] [0, 0, 1, 1, 1] (fun (zz : Int × Int) => match zz with | (lo, hi) => ((hi - lo).toNat, ⟨[zM 0 1 (intsD (dg x)), zM 1 1 (intsD (dg y)), zI 4 0, zI 5 lo, zI 6 hi], []⟩, 0 ≤ lo ∧ lo ≤ hi ∧ hi ≤ 16777215 ∧ y * lo.toNat ≤ x ∧ x < y * (hi.toNat + 1))) (0, 16777215) aA ?_ ?_
 exact ⟨by omega, by omega, by omega, by simp, by rw [show (16777215 : Int).toNat + 1 = 16777216 from rfl]; omega⟩
 rintro ⟨lo, hi⟩ ⟨h0, h1, h2, hlo, hhi⟩
 have hm : Int.tdiv ((lo + hi) + 1) 2 = (lo + hi + 1) / 2 := Int.tdiv_eq_ediv_of_nonneg (by omega)
 have hm2 : lo < hi → lo < Int.tdiv ((lo + hi) + 1) 2 ∧ Int.tdiv ((lo + hi) + 1) 2 ≤ hi := fun h => by rw [hm]; omega
 refine zc hG [] [1, 0] (decide ((lo : Int) < hi)) aA (fun hc2 => ?_) (fun hc2 => ?_)
 (try simp only [bY] at hc2)
 refine zC hG [(5, 2, kC (.c (cM 1 (intsD (dg (y * (Int.tdiv ((lo + hi) + 1) 2).toNat)))))), (5, 4, kI (cmpL (dg (y * (Int.tdiv ((lo + hi) + 1) 2).toNat)) (dg x)))] [1, 1, 0, 1] (decide ((cmpL (dg (y * (Int.tdiv ((lo + hi) + 1) 2).toNat)) (dg x) : Int) ≤ 0)) (⟨[zM 0 1 (intsD (dg x)), zM 1 1 (intsD (dg y)), zI 4 0, zI 5 lo, zI 6 hi, zI 7 (Int.tdiv ((lo + hi) + 1) 2)], []⟩) (aB (by intros; (try have h9 := hm2 (by omega)); (try simp only [decide_eq_true_eq, inR] at *); omega : inR (lo + hi)) (aB (by intros; (try have h9 := hm2 (by omega)); (try simp only [decide_eq_true_eq, inR] at *); omega : inR ((lo + hi) + 1)) (aB (by intros; (try have h9 := hm2 (by omega)); (try simp only [decide_eq_true_eq, inR] at *); omega : 2 ≠ (0 : Int) ∧ inR (Int.tdiv ((lo + hi) + 1) 2)) (aB (vR y (Int.tdiv ((lo + hi) + 1) 2) (by have := hm2 (by omega); omega) (by omega) : SpG g _ _ _ _ _) (aD (aCK (dg (y * (Int.tdiv ((lo + hi) + 1) 2).toNat)) (dg x) (bH _).2 (bH _).2 (by have h9 := hm2 (by omega); have := aIJ (y := y) (d := (Int.tdiv ((lo + hi) + 1) 2).toNat) (by omega); omega) (by omega) : SpG g _ _ _ _ _)))))) (fun hc3 => ?_) (fun hc3 => ?_)
 (try simp only [bY] at hc3)
 refine zD hG [] (Int.tdiv ((lo + hi) + 1) 2, hi) aA ?_ ?_
 (try dsimp only); have := hm2 (by omega); omega
 have h9 := hm2 (by omega)
 have hc := cmp_le.1 hc3
 exact ⟨by omega, by omega, by omega, hc, hhi⟩
 (try simp only [bY] at hc3)
 refine zD hG [] (lo, Int.tdiv ((lo + hi) + 1) 2 - 1) (aD (by intros; (try have h9 := hm2 (by omega)); (try simp only [decide_eq_true_eq, inR] at *); omega : inR ((Int.tdiv ((lo + hi) + 1) 2) - 1))) ?_ ?_
 (try dsimp only); have := hm2 (by omega); omega
 have h9 := hm2 (by omega)
 have hc : ¬ y * (Int.tdiv ((lo + hi) + 1) 2).toNat ≤ x := fun h => hc3 (cmp_le.2 h)
 refine ⟨by omega, by omega, by omega, hlo, ?_⟩
 rw [show (Int.tdiv ((lo + hi) + 1) 2 - 1).toNat + 1 = (Int.tdiv ((lo + hi) + 1) 2).toNat by omega]; omega
 (try simp only [bY] at hc2)
 refine zE hG [] (.exit 0) (⟨[zI 4 0, zI 5 lo], []⟩) aA rfl ?_
 refine zR hG [] [] (.c (cI lo)) [] aA ?_ ?_
 have e : x / y = lo.toNat := by
  have hh : hi = lo := by omega
  rw [hh] at hhi
  exact Nat.div_eq_of_lt_le (by rw [Nat.mul_comm]; exact hlo) (by rw [Nat.mul_comm]; exact hhi)
 rw [e, show ((lo.toNat : Nat) : Int) = lo by omega]
 rfl
def tH := And.intro @List.length_append.{0} (And.intro @List.length_cons.{0} (And.intro @List.length_nil.{0} (And.intro @List.length_set.{0} (And.intro @decide_eq_true_eq (And.intro @Go.Eng.inR.eq_1 (@aP))))))
abbrev y2 (a0 : ByteArray) (a1 : ByteArray) : SV := .tup [(false, [cS a0]), (false, [cS a1]), (false, [cB true])]
theorem quo_ok (x y : Nat) (h0 : 0 < y) (hx : (nb x).length ≤ 900000000) (hy : (nb y).length ≤ 900000000) :
  SpG g 220 [.c (cS (S (nb x))), .c (cS (S (nb y)))] [] (y2 (S (nb (x / y))) (S (nb (x % y)))) [] := by
 have lx := u9 (n := x) (k := 300000000) (by omega)
 have ly := u9 (n := y) (k := 300000000) (by omega)
 have hsx : 0 ≤ smV x 7 ∧ smV x 7 < 72057594037927936 := by unfold smV; split <;> omega
 have hsy : 0 ≤ smV y 7 ∧ smV y 7 < 72057594037927936 := by unfold smV; split <;> omega
 have hy0 := i7 y
 refine aL 87 Tryz.func220 (by kernel_rfl) fun fr hG => ?_
 refine zC hG [(1, 1, kS (S (nb y)))] [1, 0, 1, 1] (decide ((((S (nb y)).size : Int) : Int) = 0)) (⟨[zS 0 (S (nb x)), zS 1 (S (nb y)), zS 4 (S []), zS 5 (S []), zB 6 false], []⟩) (aD (iK y (by first | omega | (simp only [maxLen]; omega)) : SpG g _ _ _ _ _)) (fun hc1 => ?_) (fun hc1 => ?_)
 (try simp only [bY] at hc1)
 exfalso; omega
 (try simp only [bY] at hc1)
 refine zC hG [(4, 1, kC (y0 (smV x 7) (smK x 7))), (5, 1, kC (y0 (smV y 7) (smK y 7)))] [1, 0, 1, 1, 1, 1, 1] ((smK x 7) && (smK y 7)) (⟨[zS 0 (S (nb x)), zS 1 (S (nb y)), zS 4 (S []), zS 5 (S []), zB 6 false, zI 7 (smV x 7), zI 9 (smV y 7)], []⟩) (aB (lC x 7 (by decide) (by first | omega | (simp only [maxLen]; omega)) : SpG g _ _ _ _ _) (aD (lC y 7 (by decide) (by first | omega | (simp only [maxLen]; omega)) : SpG g _ _ _ _ _))) (fun hc2 => ?_) (fun hc2 => ?_)
 (try simp only [bY] at hc2)
 have hsm : x < 256 ^ 7 ∧ y < 256 ^ 7 := by simpa [smK] using hc2
 have e1 : smV x 7 = x := if_pos hsm.1
 have e2 : smV y 7 = y := if_pos hsm.2
 have eq1 : Int.tdiv (smV x 7) (smV y 7) = ((x / y : Nat) : Int) := by rw [e1, e2, Int.tdiv_eq_ediv_of_nonneg (by omega)]; rfl
 have eq2 : Int.tmod (smV x 7) (smV y 7) = ((x % y : Nat) : Int) := by rw [e1, e2, Int.tmod_eq_emod_of_nonneg (by omega)]; rfl
 have hqq : (0 ≤ Int.tdiv (smV x 7) (smV y 7) ∧ Int.tdiv (smV x 7) (smV y 7) ≤ x ∧ 0 ≤ Int.tmod (smV x 7) (smV y 7) ∧ Int.tmod (smV x 7) (smV y 7) ≤ y) := by
  rw [eq1, eq2]; have a1 := Nat.div_le_self x y; have a2 := Nat.mod_lt x h0; clear eq1 eq2; generalize x / y = q at *; generalize x % y = rr at *; omega
 refine zR hG [(7, 3, kS (S (nb (Int.tdiv (smV x 7) (smV y 7)).toNat))), (7, 7, kS (S (nb (Int.tmod (smV x 7) (smV y 7)).toNat)))] [] (y2 (S (nb (Int.tdiv (smV x 7) (smV y 7)).toNat)) (S (nb (Int.tmod (smV x 7) (smV y 7)).toNat))) [] (aB (by intros; first | (refine ⟨?_, rfl, ?_, ?_⟩ <;> (simp only [aP]; omega)) | skip; (try simp only [tH] at *); omega : (smV y 7) ≠ (0 : Int) ∧ inR (Int.tdiv (smV x 7) (smV y 7))) (aB (pR (Int.tdiv (smV x 7) (smV y 7)) (by have := hqq; omega) : SpG g _ _ _ _ _) (aB (by intros; first | (refine ⟨?_, rfl, ?_, ?_⟩ <;> (simp only [aP]; omega)) | skip; (try simp only [tH] at *); omega : (smV y 7) ≠ (0 : Int)) (aD (pR (Int.tmod (smV x 7) (smV y 7)) (by have := hqq; omega) : SpG g _ _ _ _ _))))) ?_ ?_
 rw [eq1, eq2, Int.toNat_natCast, Int.toNat_natCast]
 rfl
 (try simp only [bY] at hc2)
 refine rI hG fB [(8, 1, kC (.c (cM 1 (intsD (dg x))))), (9, 1, kC (.c (cM 1 (intsD (dg y))))), (10, 2, .mask [none])] [0, 1, 0, 1, 1, 1, 1, 1, 1, 1, 1, 1, 1] (⟨[zS 4 (S []), zS 5 (S []), zB 6 false, zM 11 1 (intsD (dg x)), zM 12 1 (intsD (dg y)), zY 13 1102 0, zN 14, zI 15 (((intsD (dg x)).length : Int) - 1)], [(1102, .arr 0 3 1 (List.replicate ((intsD (dg x)).length) [.i 0]))]⟩) _ (by kernel_rfl) (aB (uF x (by first | omega | (simp only [maxLen]; omega)) : SpG g _ _ _ _ _) (aB (uF y (by first | omega | (simp only [maxLen]; omega)) : SpG g _ _ _ _ _) (aB (by intros; first | (refine ⟨?_, rfl, ?_, ?_⟩ <;> (simp only [aP]; omega)) | skip; (try simp only [tH] at *); omega : (0 : Int) ≤ ((intsD (dg x)).length : Int) ∧ ((intsD (dg x)).length : Int) = ((intsD (dg x)).length : Int) ∧ ((8 : Nat) : Int) * ((intsD (dg x)).length : Int) ≤ 281474976710656 ∧ ((intsD (dg x)).length : Int) ≤ 9223372036854775807) (aD (by intros; first | (refine ⟨?_, rfl, ?_, ?_⟩ <;> (simp only [aP]; omega)) | skip; (try simp only [tH] at *); omega : inR (((intsD (dg x)).length : Int) - 1)))))) ?_
 refine stepA hG [(14, 9105, 3, 1)] [] (⟨[zS 4 (S []), zS 5 (S []), zB 6 false, zM 11 1 (intsD (dg x)), zM 12 1 (intsD (dg y)), zY 13 1102 0, zY 14 9105 0, zI 15 (((intsD (dg x)).length : Int) - 1)], [(1102, .arr 0 3 1 (List.replicate ((intsD (dg x)).length) [.i 0])), (9105, .arr 0 3 1 ([]))]⟩) (by kernel_rfl) ?_
 refine vV hG ((fun (zz : Int × Nat × List (List D) × List Int) => match zz with | (k, r, es, acc) => ⟨[zS 4 (S []), zS 5 (S []), zB 6 false, zM 11 1 (intsD (dg x)), zM 12 1 (intsD (dg y)), zY 13 1102 0, zM 14 1 (intsD (dg r)), zI 15 k], [(1102, .arr 0 3 1 (es))]⟩) (((intsD (dg x)).length : Int) - 1, 0, List.replicate ((intsD (dg x)).length) [.i 0], List.replicate (dg x).length 0)) (by kernel_rfl) ?_
 refine aBZ (σ := Int × Nat × List (List D) × List Int) (fun (zz : Int × Nat × List (List D) × List Int) => match zz with | (k, r, es, acc) => (k + 1).toNat) (fun (zz : Int × Nat × List (List D) × List Int) => match zz with | (k, r, es, acc) => ⟨[zS 4 (S []), zS 5 (S []), zB 6 false, zM 11 1 (intsD (dg x)), zM 12 1 (intsD (dg y)), zY 13 1102 0, zM 14 1 (intsD (dg r)), zI 15 k], [(1102, .arr 0 3 1 (es))]⟩) (fun (zz : Int × Nat × List (List D) × List Int) => match zz with | (k, r, es, acc) => -1 ≤ k ∧ k < (dg x).length ∧ es = intsD acc ∧ Dg acc ∧ acc.length = (dg x).length ∧ r < y ∧ (∀ p : Nat, (p : Int) ≤ k → acc.getD p 0 = 0) ∧ vd ((dg x).drop (k + 1).toNat) = vd (acc.drop (k + 1).toNat) * y + r) (((intsD (dg x)).length : Int) - 1, 0, List.replicate ((intsD (dg x)).length) [.i 0], List.replicate (dg x).length 0) (by kernel_rfl) ?_ ?_
 rw [aP]
 refine ⟨by omega, by omega, ?_, Dg.zeros _, by simp, h0, ?_, ?_⟩
 rw [← aF5]; (try congr 1)
 intro p _; rw [List.getD_eq_getElem?_getD, List.getElem?_replicate]; split <;> rfl
 rw [eQ (by omega), eQ (by rw [List.length_replicate]; omega)]; simp
 rintro ⟨k, r, es, acc⟩ ⟨hk1, hk2, hes, hD, ha, hr, hz, hI⟩
 have hlen : es.length = (dg x).length := by rw [hes, aP, ha]
 have hxk : 0 ≤ k → 0 ≤ (dg x).getD k.toNat 0 ∧ (dg x).getD k.toNat 0 < 16777216 := fun h => (bH x).2.at (by omega)
 have hR : 0 ≤ k → (r * 16777216 + ((dg x).getD k.toNat 0).toNat) < y * 16777216 := fun h => by have := hxk h; omega
 have hRl : 0 ≤ k → (dg (r * 16777216 + ((dg x).getD k.toNat 0).toNat)).length ≤ (dg y).length + 1 := fun h => dg_rem (hR h)
 have hq : 0 ≤ k → (r * 16777216 + ((dg x).getD k.toNat 0).toNat) / y < 16777216 := fun h => Nat.div_lt_of_lt_mul (hR h)
 have hrl : (dg r).length ≤ (dg y).length := aCG (by omega)
 refine zc hG [] [1, 0] (decide ((k : Int) ≥ 0)) aA (fun hc4 => ?_) (fun hc4 => ?_)
 (try simp only [bY] at hc4)
 refine zC hG [(15, 2, .elem (intD ((dg x).getD (k : Int).toNat 0))), (15, 6, .elem []), (15, 7, kC (.c (cM 1 (intsD (dg (r * 16777216 + ((dg x).getD k.toNat 0).toNat)))))), (16, 2, kI (cmpL (dg (r * 16777216 + ((dg x).getD k.toNat 0).toNat)) (dg y)))] [1, 1, 0, 0, 1] (decide ((cmpL (dg (r * 16777216 + ((dg x).getD k.toNat 0).toNat)) (dg y) : Int) ≥ 0)) (⟨[zS 4 (S []), zS 5 (S []), zB 6 false, zM 11 1 (intsD (dg x)), zM 12 1 (intsD (dg y)), zY 13 1102 0, zM 14 1 (intsD (dg (r * 16777216 + ((dg x).getD k.toNat 0).toNat))), zI 15 k], [(1102, .arr 0 3 1 (es))]⟩) (aB (by intros; exact aT _ (by omega) (by (try simp only [zq8] at *); omega) : (0 : Int) ≤ k ∧ (intsD (dg x))[(k : Int).toNat]? = some (intD ((dg x).getD (k : Int).toNat 0))) (aB (by intros; first | (refine ⟨?_, rfl, ?_, ?_⟩ <;> (simp only [aP]; omega)) | skip; (try simp only [tH] at *); omega : (([[.i ((dg x).getD (k : Int).toNat 0)]] : List (List D)).length + (intsD (dg r)).length) * (8 + 1) ≤ 140737488355328) (aB (tM (es := ([[.i ((dg x).getD (k : Int).toNat 0)]] : List (List D)) ++ (intsD (dg r))) (l := (dg x).getD k.toNat 0 :: dg r) (n := (r * 16777216 + ((dg x).getD k.toNat 0).toNat)) rfl (quo_dg (hxk (by omega)).1 (hxk (by omega)).2) (aDQ (hxk (by omega)).1) : SpG g _ _ _ _ _) (aD (aCK (dg (r * 16777216 + ((dg x).getD k.toNat 0).toNat)) (dg y) (bH _).2 (bH _).2 (by have := hRl (by omega); omega) (by omega) : SpG g _ _ _ _ _))))) (fun hc5 => ?_) (fun hc5 => ?_)
 (try simp only [bY] at hc5)
 refine zD hG [(17, 4, kI (((r * 16777216 + ((dg x).getD k.toNat 0).toNat) / y : Nat) : Int)), (18, 5, .elem ([.i (((r * 16777216 + ((dg x).getD k.toNat 0).toNat) / y : Nat) : Int)])), (18, 6, kC (.c (cM 1 (intsD (dg (y * (((r * 16777216 + ((dg x).getD k.toNat 0).toNat) / y : Nat) : Int).toNat)))))), (18, 7, kC (.c (cM 1 (intsD (dg ((r * 16777216 + ((dg x).getD k.toNat 0).toNat) - y * (((r * 16777216 + ((dg x).getD k.toNat 0).toNat) / y : Nat) : Int).toNat))))))] (k - 1, (r * 16777216 + ((dg x).getD k.toNat 0).toNat) - y * (((r * 16777216 + ((dg x).getD k.toNat 0).toNat) / y : Nat) : Int).toNat, (es).set (k : Int).toNat [.i (((r * 16777216 + ((dg x).getD k.toNat 0).toNat) / y : Nat) : Int)], acc.set (k : Int).toNat (((r * 16777216 + ((dg x).getD k.toNat 0).toNat) / y : Nat) : Int)) (aB (aIH (r * 16777216 + ((dg x).getD k.toNat 0).toNat) y h0 (hR (by omega)) (by have := hRl (by omega); omega) (by omega) : SpG g _ _ _ _ _) (aB (by intros; first | (refine ⟨?_, rfl, ?_, ?_⟩ <;> (simp only [aP]; omega)) | skip; (try simp only [tH] at *); omega : (0 : Int) ≤ k ∧ k < ((es).length : Int)) (aB (by intros; first | (refine ⟨?_, rfl, ?_, ?_⟩ <;> (simp only [aP]; omega)) | skip; (try simp only [tH] at *); omega : (0 : Int) ≤ k ∧ k < (((es).set (k : Int).toNat [.i (((r * 16777216 + ((dg x).getD k.toNat 0).toNat) / y : Nat) : Int)]).length : Int)) (aB (by intros; rw [List.getElem?_set_self (by (try simp only [List.length_set] at *); omega)] : ((es).set (k : Int).toNat [.i (((r * 16777216 + ((dg x).getD k.toNat 0).toNat) / y : Nat) : Int)])[(k : Int).toNat]? = some ([.i (((r * 16777216 + ((dg x).getD k.toNat 0).toNat) / y : Nat) : Int)])) (aB (vR y (((r * 16777216 + ((dg x).getD k.toNat 0).toNat) / y : Nat) : Int) ⟨Int.natCast_nonneg _, Int.ofNat_lt.2 (hq (by omega))⟩ (by omega) : SpG g _ _ _ _ _) (aB (aG8 (r * 16777216 + ((dg x).getD k.toNat 0).toNat) (y * (((r * 16777216 + ((dg x).getD k.toNat 0).toNat) / y : Nat) : Int).toNat) (by rw [Int.toNat_natCast]; exact Nat.mul_div_le _ _) (by have := hRl (by omega); omega) (by rw [Int.toNat_natCast]; have h1 := Nat.div_lt_of_lt_mul (hR (by omega)); have := aIJ (y := y) h1; omega) : SpG g _ _ _ _ _) (aD (by intros; first | (refine ⟨?_, rfl, ?_, ?_⟩ <;> (simp only [aP]; omega)) | skip; (try simp only [tH] at *); omega : inR (k - 1))))))))) ?_ ?_
 (try dsimp only); omega
 have hx9 := hxk (by omega)
 have hR9 := hR (by omega)
 have hq : (r * 16777216 + ((dg x).getD k.toNat 0).toNat) / y < 16777216 := Nat.div_lt_of_lt_mul hR9
 have hdm := Nat.div_add_mod (r * 16777216 + ((dg x).getD k.toNat 0).toNat) y
 have hml := Nat.mod_lt (r * 16777216 + ((dg x).getD k.toNat 0).toNat) h0
 have e1 : (k - 1 + 1).toNat = k.toNat := by omega
 have e2 : (k + 1).toNat = k.toNat + 1 := by omega
 refine ⟨by omega, by omega, by rw [hes, ints_set], hD.set (Int.natCast_nonneg _) (Int.ofNat_lt.2 hq), by simp [ha], ?_, fun p hp => ?_, ?_⟩
 rw [Int.toNat_natCast]; omega
 rw [aHY, if_neg (by omega)]; exact hz p (by omega)
 rw [e1, drop_at (by omega), vd_set (by omega), ← e2, hI, Int.toNat_natCast]
 rw [Int.natCast_sub (Nat.mul_div_le _ _), Int.natCast_mul, show (((r * 16777216 + ((dg x).getD k.toNat 0).toNat) : Nat) : Int) = r * 16777216 + (dg x).getD k.toNat 0 by omega]
 generalize (((r * 16777216 + ((dg x).getD k.toNat 0).toNat) / y : Nat) : Int) = q at *
 grind
 (try simp only [bY] at hc5)
 refine zD hG [] (k - 1, (r * 16777216 + ((dg x).getD k.toNat 0).toNat), es, acc) (aD (by intros; first | (refine ⟨?_, rfl, ?_, ?_⟩ <;> (simp only [aP]; omega)) | skip; (try simp only [tH] at *); omega : inR (k - 1))) ?_ ?_
 (try dsimp only); omega
 have hx9 := hxk (by omega)
 have e1 : (k - 1 + 1).toNat = k.toNat := by omega
 have e2 : (k + 1).toNat = k.toNat + 1 := by omega
 have hlt : ¬ y ≤ (r * 16777216 + ((dg x).getD k.toNat 0).toNat) := fun h => hc5 (cmp_ge.2 h)
 refine ⟨by omega, by omega, hes, hD, ha, by omega, fun p hp => hz p (by omega), ?_⟩
 rw [e1, drop_at (l := dg x) (k := k.toNat) (by omega), drop_at (l := acc) (k := k.toNat) (by omega), ← e2, hI, hz k.toNat (by omega)]
 rw [show (((r * 16777216 + ((dg x).getD k.toNat 0).toNat) : Nat) : Int) = r * 16777216 + (dg x).getD k.toNat 0 by omega]
 grind
 (try simp only [bY] at hc4)
 refine zE hG [] (.exit 0) (⟨[zS 4 (S []), zS 5 (S []), zB 6 false, zY 13 1102 0, zM 14 1 (intsD (dg r))], [(1102, .arr 0 3 1 (es))]⟩) aA rfl ?_
 refine zR hG [(19, 1, kS (S (nb (vd acc).toNat))), (19, 3, kS (S (nb r)))] [] (y2 (S (nb (vd acc).toNat)) (S (nb r))) [] (aB (rZ hes hD (by omega) : SpG g _ _ _ _ _) (aD (aDY r (by have := aCG (a := r) (b := y) (by omega); omega) : SpG g _ _ _ _ _))) ?_ ?_
 rw [show (k + 1).toNat = 0 by omega, List.drop_zero, List.drop_zero, (bH x).1] at hI
 have hv0 := gR hD
 have hx8 : x = y * (vd acc).toNat + r := by
  have : ((y * (vd acc).toNat + r : Nat) : Int) = x := by
   rw [hI]; push_cast; rw [show (((vd acc).toNat : Nat) : Int) = vd acc by omega]; grind
  omega
 have e1 : x / y = (vd acc).toNat := by rw [hx8, Nat.mul_add_div h0, Nat.div_eq_of_lt hr]; rfl
 have e2 : x % y = r := by rw [hx8, Nat.mul_add_mod, Nat.mod_eq_of_lt hr]
 rw [e1, e2]
 rfl
end Go.Proofs.YtdejnaokkdndeaaGreatDoor
namespace Go.Proofs.YtdejnaokkdndeaaGreatDoor
open Go.RowKit Go.V
open Go.Eng (inR byteAt u8 aU)
variable {g : Gv}
theorem nb10 : (nb 10).length = 1 := by rw [i6 (by decide), show 10 / 256 = 0 from rfl, dS]; rfl
theorem nb1 : (nb 1).length = 1 := by rw [i6 (by decide), show 1 / 256 = 0 from rfl, dS]; rfl
theorem aAA (n : Int) (h : inR n) :
  SpG g 165 [.c (cI n)] [] (.c (cS (S (nb n.natAbs)))) [] := by
 unfold inR at h
 have hw : n < 0 → IntKind.wrap .i64 (0 - (n + 1)) = -(n + 1) := fun h0 => by rw [wrap64 (by unfold inR; omega)]; omega
 refine aL 13 Tryz.func165 (by kernel_rfl) fun fr hG => ?_
 refine zP hG [] [1, 0, 1] ((n : Int) ≥ 0) (⟨[zI 0 n, zS 2 (S [])], []⟩) aA (fun hc1 => ?_) (fun hc1 => ?_)
 skip
 refine zR hG [(2, 1, kS (S (nb (n).toNat)))] [] (.c (cS (S (nb (n).toNat)))) [] (aD (pR (n) (by first | omega | (rw [hw (by omega)]; omega)) : SpG g _ _ _ _ _)) ?_ ?_
 rw [show n.toNat = n.natAbs by omega]
 rfl
 skip
 refine zR hG [(3, 3, kS (S (nb (IntKind.wrap .i64 (0 - (n + 1))).toNat))), (3, 4, kS (S (nb 1))), (3, 5, kS (S (nb (((IntKind.wrap .i64 (0 - (n + 1))).toNat) + 1))))] [] (.c (cS (S (nb (((IntKind.wrap .i64 (0 - (n + 1))).toNat) + 1))))) [] (aB (by intros; first | omega | ((try simp only [decide_eq_true_eq, inR, aJ] at *) <;> omega) : inR (n + 1)) (aB (pR (IntKind.wrap .i64 (0 - (n + 1))) (by first | omega | (rw [hw (by omega)]; omega)) : SpG g _ _ _ _ _) (aB (pR 1 (by decide) : SpG g _ _ _ _ _) (aD (add_ok ((IntKind.wrap .i64 (0 - (n + 1))).toNat) 1 (by rw [hw (by omega)]; exact Nat.le_trans (uG (k := 8) (by omega)) (by decide)) (by have := nb1; omega) : SpG g _ _ _ _ _))))) ?_ ?_
 rw [hw (by omega), show (-(n + 1)).toNat + 1 = n.natAbs by omega]
 rfl
end Go.Proofs.YtdejnaokkdndeaaGreatDoor
namespace Go.Proofs.YtdejnaokkdndeaaGreatDoor
open Go.RowKit Go.V
open Go.Eng (inR byteAt u8 aU)
variable {g : Gv}
theorem nb_mono {a b : Nat} (h : a ≤ b) : (nb a).length ≤ (nb b).length := by
 rcases Nat.lt_or_ge (nb b).length (nb a).length with h1 | h1
 have := z8 h1; omega
 exact h1
def k4 := And.intro @aJ (@blS)
abbrev y3 (a0 : Int) (a1 : Int) (a2 : Bool) : SV := .tup [(true, [cI a0, cI a1]), (false, [cB a2])]
abbrev y4 : SV := .tup [(true, [cI 0, cI 0]), (false, [cB false])]
abbrev y5 (a0 : Int) (a1 : Int) : SV := .tup [(true, [cI a0, cI a1]), (false, [cB true])]
theorem fit_ok (neg : Bool) (m0 : Nat) (s0 : Int) (h0 : (nb m0).length ≤ 900000000) (h1 : 0 ≤ s0) (h2 : s0 ≤ 1000000000000000000) :
  SpG g 164 [.agg [cB neg, cS (S (nb m0)), cI s0]] [] (y3 (fR neg m0 s0) (fQ m0 s0) (dP m0 s0)) [] := by
 refine aL 55 Tryz.func164 (by kernel_rfl) fun fr hG => ?_
 refine zL hG [] [0, 0, 1] (fun (zz : Nat × Int) => match zz with | (m, s) => (s.toNat, ⟨[zX 1 100 0, zX 2 101 0, zB 3 false], [(100, .box 155 [cB neg, cS (S (nb m)), cI s]), (101, .box 38 [cI 0, cI 0])]⟩, m ≤ m0 ∧ 0 ≤ s ∧ s ≤ s0 ∧ eJ m s.toNat = eJ m0 s0.toNat)) (m0, s0) aA ?_ ?_
 exact ⟨Nat.le_refl _, h1, Int.le_refl _, rfl⟩
 rintro ⟨m, s⟩ ⟨hm, hs0, hs1, hf⟩
 have hz := i7 (m % 10)
 have hml := nb_mono hm
 have h10 := nb10
 refine zc hG [] [1, 0] (decide ((s : Int) > 0)) aA (fun hc2 => ?_) (fun hc2 => ?_)
 (try simp only [k4, Bool.not_true, Bool.false_or] at hc2)
 refine zC hG [(2, 2, kS (S (nb 10))), (2, 3, kC (y2 (S (nb (m / 10))) (S (nb (m % 10)))))] [1, 0, 1, 0, 1] (decide ((((S (nb (m % 10))).size : Int) : Int) > 0)) (⟨[zX 1 100 0, zX 2 101 0, zB 3 false, zS 4 (S (nb (m / 10)))], [(100, .box 155 [cB neg, cS (S (nb m)), cI s]), (101, .box 38 [cI 0, cI 0])]⟩) (aB (pR 10 (by decide) : SpG g _ _ _ _ _) (aD (quo_ok m 10 (by omega) (by omega) (by omega) : SpG g _ _ _ _ _))) (fun hc3 => ?_) (fun hc3 => ?_)
 (try simp only [k4, Bool.not_true, Bool.false_or] at hc3)
 refine zE hG [] (.exit 0) (⟨[zX 1 100 0, zX 2 101 0, zB 3 false], [(100, .box 155 [cB neg, cS (S (nb m)), cI s]), (101, .box 38 [cI 0, cI 0])]⟩) aA rfl ?_
 refine zC hG [(6, 2, kC (y0 (fA m) (jE m)))] [1, 0, 1, 1, 1] (((!(jE m)) || (decide ((fA m : Int) > 1000000000000000))) || (decide ((s : Int) > 6))) (⟨[zX 1 100 0, zX 2 101 0, zB 3 false, zI 7 (fA m)], [(100, .box 155 [cB neg, cS (S (nb m)), cI s]), (101, .box 38 [cI 0, cI 0])]⟩) (aD (aAH m (by first | omega | (simp only [maxLen]; omega)) : SpG g _ _ _ _ _)) (fun hc4 => ?_) (fun hc4 => ?_)
 (try simp only [k4, Bool.not_true, Bool.false_or] at hc4)
 refine zR hG [] [] (y4) [] aA ?_ ?_
 have hL : eJ m s.toNat = (m, s.toNat) := dK hs0 (by omega)
 rw [hf] at hL
 have hb : dP m0 s0 = false := by unfold dP; rw [hL]; simp only [jE, fA, decide_eq_false_iff_not] at hc4 ⊢; rintro ⟨q1, q2⟩; rw [if_pos (by omega)] at hc4; omega
 rw [fR, fQ, hb]; rfl
 rfl
 (try simp only [k4, Bool.not_true, Bool.false_or] at hc4)
 refine zc hG [] [1, 0, 1, 1, 1, 1] (neg) aA (fun hc5 => ?_) (fun hc5 => ?_)
 (try simp only [k4, Bool.not_true, Bool.false_or] at hc5)
 refine zR hG [] [] (y5 (IntKind.wrap .i64 (0 - (fA m))) s) [] aA ?_ ?_
 have hL : eJ m s.toNat = (m, s.toNat) := dK hs0 (by omega)
 rw [hf] at hL
 have hk : m < 2 ^ 63 ∧ m ≤ 1000000000000000 ∧ s ≤ 6 := by
  have hc := hc4
  simp only [jE, fA, decide_eq_true_eq] at hc
  obtain ⟨⟨q1, q2⟩, q3⟩ := hc
  rw [if_pos q1] at q2; omega
 have hi : fA m = m := if_pos hk.1
 have hb : dP m0 s0 = true := by unfold dP; rw [hL]; simp; omega
 have hs : (s.toNat : Int) = s := by omega
 rw [fR, fQ, hb, hL, hi]
 simp only [if_true, hs]
 rw [vM (by omega)]; simp [hc5]
 rfl
 (try simp only [k4, Bool.not_true, Bool.false_or] at hc5)
 refine zR hG [] [] (y5 (fA m) s) [] aA ?_ ?_
 have hL : eJ m s.toNat = (m, s.toNat) := dK hs0 (by omega)
 rw [hf] at hL
 have hk : m < 2 ^ 63 ∧ m ≤ 1000000000000000 ∧ s ≤ 6 := by
  have hc := hc4
  simp only [jE, fA, decide_eq_true_eq] at hc
  obtain ⟨⟨q1, q2⟩, q3⟩ := hc
  rw [if_pos q1] at q2; omega
 have hi : fA m = m := if_pos hk.1
 have hb : dP m0 s0 = true := by unfold dP; rw [hL]; simp; omega
 have hs : (s.toNat : Int) = s := by omega
 rw [fR, fQ, hb, hL, hi]
 simp only [if_true, hs]
 simp [hc5]
 rfl
 (try simp only [k4, Bool.not_true, Bool.false_or] at hc3)
 refine zD hG [] (m / 10, s - 1) (aD (by intros; first | omega | ((try simp only [decide_eq_true_eq, inR, aJ] at *) <;> omega) : inR (s - 1))) ?_ ?_
 (try dsimp only); omega
 exact ⟨by omega, by omega, by omega, (sM (by omega) (by omega)).symm.trans hf⟩
 (try simp only [k4, Bool.not_true, Bool.false_or] at hc2)
 refine zE hG [] (.exit 0) (⟨[zX 1 100 0, zX 2 101 0, zB 3 false], [(100, .box 155 [cB neg, cS (S (nb m)), cI s]), (101, .box 38 [cI 0, cI 0])]⟩) aA rfl ?_
 refine zC hG [(6, 2, kC (y0 (fA m) (jE m)))] [1, 0, 1, 1, 1] (((!(jE m)) || (decide ((fA m : Int) > 1000000000000000))) || (decide ((s : Int) > 6))) (⟨[zX 1 100 0, zX 2 101 0, zB 3 false, zI 7 (fA m)], [(100, .box 155 [cB neg, cS (S (nb m)), cI s]), (101, .box 38 [cI 0, cI 0])]⟩) (aD (aAH m (by first | omega | (simp only [maxLen]; omega)) : SpG g _ _ _ _ _)) (fun hc6 => ?_) (fun hc6 => ?_)
 (try simp only [k4, Bool.not_true, Bool.false_or] at hc6)
 refine zR hG [] [] (y4) [] aA ?_ ?_
 have hL : eJ m s.toNat = (m, s.toNat) := dK hs0 (by omega)
 rw [hf] at hL
 have hb : dP m0 s0 = false := by unfold dP; rw [hL]; simp only [jE, fA, decide_eq_false_iff_not] at hc6 ⊢; rintro ⟨q1, q2⟩; rw [if_pos (by omega)] at hc6; omega
 rw [fR, fQ, hb]; rfl
 rfl
 (try simp only [k4, Bool.not_true, Bool.false_or] at hc6)
 refine zc hG [] [1, 0, 1, 1, 1, 1] (neg) aA (fun hc7 => ?_) (fun hc7 => ?_)
 (try simp only [k4, Bool.not_true, Bool.false_or] at hc7)
 refine zR hG [] [] (y5 (IntKind.wrap .i64 (0 - (fA m))) s) [] aA ?_ ?_
 have hL : eJ m s.toNat = (m, s.toNat) := dK hs0 (by omega)
 rw [hf] at hL
 have hk : m < 2 ^ 63 ∧ m ≤ 1000000000000000 ∧ s ≤ 6 := by
  have hc := hc6
  simp only [jE, fA, decide_eq_true_eq] at hc
  obtain ⟨⟨q1, q2⟩, q3⟩ := hc
  rw [if_pos q1] at q2; omega
 have hi : fA m = m := if_pos hk.1
 have hb : dP m0 s0 = true := by unfold dP; rw [hL]; simp; omega
 have hs : (s.toNat : Int) = s := by omega
 rw [fR, fQ, hb, hL, hi]
 simp only [if_true, hs]
 rw [vM (by omega)]; simp [hc7]
 rfl
 (try simp only [k4, Bool.not_true, Bool.false_or] at hc7)
 refine zR hG [] [] (y5 (fA m) s) [] aA ?_ ?_
 have hL : eJ m s.toNat = (m, s.toNat) := dK hs0 (by omega)
 rw [hf] at hL
 have hk : m < 2 ^ 63 ∧ m ≤ 1000000000000000 ∧ s ≤ 6 := by
  have hc := hc6
  simp only [jE, fA, decide_eq_true_eq] at hc
  obtain ⟨⟨q1, q2⟩, q3⟩ := hc
  rw [if_pos q1] at q2; omega
 have hi : fA m = m := if_pos hk.1
 have hb : dP m0 s0 = true := by unfold dP; rw [hL]; simp; omega
 have hs : (s.toNat : Int) = s := by omega
 rw [fR, fQ, hb, hL, hi]
 simp only [if_true, hs]
 simp [hc7]
 rfl
theorem aBY (n s : Int) (h0 : -72000000000000000 ≤ n) (h1 : n ≤ 72000000000000000) (h2 : 0 ≤ s) (h3 : s ≤ 18) :
  SpG g 86 [.c (cI n), .c (cI s)] [] (y3 (fR (decide (n < 0)) n.natAbs s) (fQ n.natAbs s) (dP n.natAbs s)) [] := by
 have hl := uG (n := n.natAbs) (k := 8) (by omega)
 refine aL 22 Tryz.func86 (by kernel_rfl) fun fr hG => ?_
 refine zC hG [] [1, 0, 1] ((decide ((s : Int) < 0)) || (decide ((s : Int) > 18))) (⟨[zI 0 n, zI 1 s, zX 4 100 0, zB 5 false], [(100, .box 38 [cI 0, cI 0])]⟩) aA (fun hc1 => ?_) (fun hc1 => ?_)
 (try simp only [blS] at hc1)
 exfalso; simp at hc1; omega
 (try simp only [blS] at hc1)
 exact zr hG [(3, 3, kS (S (nb n.natAbs))), (3, 6, kC (y3 (fR (decide ((n : Int) < 0)) n.natAbs s) (fQ n.natAbs s) (dP n.natAbs s)))] [] (aB (aAA n (by unfold inR; omega) : SpG g _ _ _ _ _) (aD (fit_ok (decide ((n : Int) < 0)) n.natAbs s (by omega) (by omega) (by omega) : SpG g _ _ _ _ _)))
end Go.Proofs.YtdejnaokkdndeaaGreatDoor
namespace Go.Proofs.YtdejnaokkdndeaaGreatDoor
open Go.RowKit Go.V
open Go.Eng (inR byteAt u8 aU)
variable {g : Gv}
def nxV (l : List Int) (k n : Int) : Int := if k ≥ l.length ∨ n < 1 then 0 else ((l.getD k.toNat 0).tmod n + n).tmod n
def nxK (l : List Int) (k n : Int) : Int := if k ≥ l.length ∨ n < 1 then k else k + 1
structure NumOk (l : List Int) (k : Int) : Prop where
 k0 : 0 ≤ k
 k1 : k ≤ l.length
 k2 : (l.length : Int) ≤ 9223372036854775807
theorem NumOk.next {l : List Int} {k : Int} (h : NumOk l k) (n : Int) : NumOk l (nxK l k n) := by
 have := h.k0; have := h.k1
 unfold nxK; split
 ·exact h
 ·exact ⟨by omega, by omega, h.k2⟩
theorem lB {x n : Int} (hn : 1 ≤ n) : -n < x.tmod n ∧ x.tmod n < n :=
 ⟨Int.lt_tmod_of_pos x (by omega), Int.tmod_lt_of_pos x (by omega)⟩
theorem c8 (l : List Int) (k : Int) {n : Int} (hn : 1 ≤ n) : 0 ≤ nxV l k n ∧ nxV l k n < n := by
 unfold nxV
 split
 omega
 have h1 := lB (x := l.getD k.toNat 0) hn
 refine ⟨Int.tmod_nonneg _ (by omega), Int.tmod_lt_of_pos _ (by omega)⟩
def wordsL : List (List UInt8) := [[], [97], [98], [97, 98], [105, 116, 39, 115], [50, 48, 50, 52, 45, 48, 49, 45, 51, 49], [49, 50], [45, 51, 46, 53], [65, 124, 66, 44, 91, 99, 93, 59], [78, 111, 114, 116, 104, 32, 55], [120, 32, 121], [39, 39], [97, 98, 99, 97, 98, 99], [48], [55, 46, 50, 53]]
def chM (l : List Int) : Nat → Int → List UInt8 × Int
 | 0, k => ([], k)
 | n + 1, k => (u8 (32 + nxV l k 95) :: (chM l n (nxK l k 95)).1, (chM l n (nxK l k 95)).2)
def txN (l : List Int) (k : Int) : Int := if nxV l k 18 = 17 then 190 + nxV l (nxK l (nxK l k 18) 9) 11 else nxV l (nxK l k 18) 9
def txK (l : List Int) (k : Int) : Int := if nxV l k 18 = 17 then nxK l (nxK l (nxK l k 18) 9) 11 else nxK l (nxK l k 18) 9
def txM (l : List Int) (k : Int) : List UInt8 × Int := if nxV l k 18 < 15 then (wordsL.getD (nxV l k 18).toNat [], nxK l k 18) else chM l (txN l k).toNat (txK l k)
theorem aCN {l : List Int} {N j : Nat} {kk : Int} (h : j < N) : chM l (N - j) kk = (u8 (32 + nxV l kk 95) :: (chM l (N - (j + 1)) (nxK l kk 95)).1, (chM l (N - (j + 1)) (nxK l kk 95)).2) := by
 have : N - j = (N - (j + 1)) + 1 := by omega
 rw [this, chM]
theorem aIV (l : List Int) : ∀ (n : Nat) (k : Int), (chM l n k).1.length = n
 | 0, k => rfl
 | n + 1, k => by simp [chM, aIV l n]
theorem txN_bd (l : List Int) (k : Int) : 0 ≤ txN l k ∧ txN l k ≤ 200 := by
 unfold txN
 have h1 := c8 l (nxK l (nxK l k 18) 9) (n := 11) (by decide)
 have h2 := c8 l (nxK l k 18) (n := 9) (by decide)
 split <;> omega
def dcN (l : List Int) (k : Int) : Int := if nxV l (nxK l k 2001) 8 = 7 then nxV l (nxK l (nxK l k 2001) 8) 2000000000000001 - 1000000000000000 else nxV l k 2001 - 1000
def dcK (l : List Int) (k : Int) : Int := if nxV l (nxK l k 2001) 8 = 7 then nxK l (nxK l (nxK l k 2001) 8) 2000000000000001 else nxK l (nxK l k 2001) 8
def dcM (l : List Int) (k : Int) : Int × Int × Int :=
 (fR (decide (dcN l k < 0)) (dcN l k).natAbs (nxV l (dcK l k) 4), fQ (dcN l k).natAbs (nxV l (dcK l k) 4), nxK l (dcK l k) 4)
def cvM (l : List Int) (k kind : Int) : Cl × Int :=
 if kind = 1 then (⟨1, (txM l k).1, 0, 0, 0⟩, (txM l k).2)
 else if kind = 2 then (⟨2, [], (dcM l k).1, (dcM l k).2.1, 0⟩, (dcM l k).2.2)
 else if kind = 3 then (if nxV l (nxK l k 1000) 8 = 7 then (⟨3, [], 0, 0, nxV l (nxK l (nxK l k 1000) 8) 3652059⟩, nxK l (nxK l (nxK l k 1000) 8) 3652059) else (⟨3, [], 0, 0, 738000 + nxV l k 1000⟩, nxK l (nxK l k 1000) 8))
 else if kind = 4 then (⟨4, [], 0, 0, nxV l k 2⟩, nxK l k 2)
 else (⟨0, [], 0, 0, nxV l k 100⟩, nxK l k 100)
def aFA := And.intro @List.length_map.{0, 0} (And.intro @Go.Eng.inR.eq_1 (And.intro @intsD.eq_1 (@maxLen.eq_1)))
abbrev y6 (a0 : List (List D)) (a1 : Int) : Ob := .box 53 [cM 1 a0, cI a1]
theorem cV (l : List Int) (k n : Int) (h : NumOk l k) (hn : n ≤ 1000000000000000001) :
  SpG g 39 [.c (.bx 0 0), .c (cI n)] [(0, y6 (intsD l) k)] (.c (cI (nxV l k n))) [(0, y6 (intsD l) (nxK l k n))] := by
 have h0 := h.k0; have h1 := h.k1; have h2 := h.k2
 have hk1 : k + 1 - 1 = k := by omega
 have hb : 1 ≤ n → -n < (l.getD k.toNat 0).tmod n ∧ (l.getD k.toNat 0).tmod n < n := lB
 refine aL 43 Tryz.func39 (by kernel_rfl) fun fr hG => ?_
 refine zC hG [] [1, 0, 1] ((decide ((k : Int) ≥ ((intsD l).length : Int))) || (decide ((n : Int) < 1))) (⟨[zX 0 0 0, zI 1 n, zI 4 0], [(0, y6 (intsD l) k)]⟩) aA (fun hc1 => ?_) (fun hc1 => ?_)
 (try simp only [blS, intsD, List.length_map] at hc1)
 refine zR hG [] [] (.c (cI 0)) [(0, y6 (intsD l) k)] aA ?_ ?_
 rw [nxV, if_pos hc1]
 rw [nxK, if_pos hc1]
 (try simp only [blS, intsD, List.length_map] at hc1)
 refine zR hG [(4, 9, .elem (intD ((l).getD ((k + 1) - 1 : Int).toNat 0)))] [] (.c (cI (Int.tmod ((Int.tmod ((l).getD ((k + 1) - 1 : Int).toNat 0) n) + n) n))) [(0, y6 (intsD l) (k + 1))] (aB (by intros; (try rw [hk1]); (try simp only [aFA] at *); omega : inR (k + 1)) (aB (by intros; (try rw [hk1]); (try simp only [aFA] at *); omega : inR ((k + 1) - 1)) (aB (by intros; exact aT _ (by omega) (by (try simp only [zq8] at *); omega) : (0 : Int) ≤ ((k + 1) - 1) ∧ (intsD l)[((k + 1) - 1 : Int).toNat]? = some (intD ((l).getD ((k + 1) - 1 : Int).toNat 0))) (aB (by intros; (try rw [hk1]); (try simp only [aFA] at *); omega : n ≠ (0 : Int)) (aB (by intros; (try rw [hk1]); (try simp only [aFA] at *); omega : inR ((Int.tmod ((l).getD ((k + 1) - 1 : Int).toNat 0) n) + n)) (aD (by intros; (try rw [hk1]); (try simp only [aFA] at *); omega : n ≠ (0 : Int)))))))) ?_ ?_
 rw [nxV, if_neg (by omega), hk1]
 rw [nxK, if_neg (by omega)]
theorem aFB  :
  SpG g 85 [] [] (.c (.ar 100 0)) [(100, .arr 0 9 1 (strs wordsL))] := by
 refine aL 2 Tryz.func85 (by kernel_rfl) fun fr hG => ?_
 exact zr hG [] [200] aA
def oP := And.intro @List.length_append.{0} (And.intro @List.length_cons.{0} (@List.length_nil.{0}))
theorem z6 (l : List Int) (k : Int) (h : NumOk l k) :
  SpG g 57 [.c (.bx 0 0)] [(0, y6 (intsD l) k)] (.c (cS (S (txM l k).1))) [(0, y6 (intsD l) ((txM l k).2))] := by
 have a1 := c8 l k (n := 18) (by decide)
 have a2 := c8 l (nxK l k 18) (n := 9) (by decide)
 have a3 := c8 l (nxK l (nxK l k 18) 9) (n := 11) (by decide)
 have hw : ((strs wordsL).length : Int) = 15 := rfl
 refine aL 40 Tryz.func57 (by kernel_rfl) fun fr hG => ?_
 refine zP hG [(1, 1, .call (.c (cI (nxV l k 18))) [] [[.sl 1 (intsD l), .i (nxK l k 18)]]), (2, 0, .call (.c (.ar 100 0)) [(100, .arr 0 9 1 (strs wordsL))] [])] [1, 0, 1, 1, 1] ((nxV l k 18 : Int) < ((strs wordsL).length : Int)) (⟨[zX 0 0 0, zS 2 (S []), zI 3 (nxV l k 18), zY 4 300 0], [(0, y6 (intsD l) (nxK l k 18)), (300, .arr 0 9 1 (strs wordsL))]⟩) (aB (cV l k 18 (by (repeat (first | assumption | apply NumOk.next))) (by decide) : SpG g _ _ _ _ _) (aD (aFB : SpG g _ _ _ _ _))) (fun hc1 => ?_) (fun hc1 => ?_)
 ·skip
  refine zR hG [(4, 3, .elem (mH ((wordsL).getD (nxV l k 18 : Int).toNat [])))] [] (.c (cS (S ((wordsL).getD (nxV l k 18 : Int).toNat [])))) [(0, y6 (intsD l) (nxK l k 18))] (aB (by intros; (try simp only [inR, maxLen] at *); (try simp only [oP] at *); omega : (0 : Int) ≤ (nxV l k 18) ∧ (nxV l k 18) < ((strs wordsL).length : Int)) (aD (by intros; exact dV _ (by (try simp only [zq4] at *); omega) : (strs wordsL)[(nxV l k 18 : Int).toNat]? = some (mH ((wordsL).getD (nxV l k 18 : Int).toNat []))))) ?_ ?_
  ·rw [txM, if_pos (by omega)]
  ·rw [txM, if_pos (by omega)]
 ·skip
  refine zP hG [(5, 1, .call (.c (cI (nxV l (nxK l k 18) 9))) [] [[.sl 1 (intsD l), .i (nxK l (nxK l k 18) 9)]])] [1, 0, 1, 1, 1, 1, 1] ((nxV l k 18 : Int) = 17) (⟨[zX 0 0 0, zS 2 (S []), zI 5 (nxV l (nxK l k 18) 9)], [(0, y6 (intsD l) (nxK l (nxK l k 18) 9))]⟩) (aD (cV l (nxK l k 18) 9 (by (repeat (first | assumption | apply NumOk.next))) (by decide) : SpG g _ _ _ _ _)) (fun hc2 => ?_) (fun hc2 => ?_)
  ·skip
   refine zA hG [(7, 1, .call (.c (cI (nxV l (nxK l (nxK l k 18) 9) 11))) [] [[.sl 1 (intsD l), .i (nxK l (nxK l (nxK l k 18) 9) 11)]])] [0, 1, 0, 1, 1, 1, 1, 1, 1, 1] (⟨[zX 0 0 0, zS 2 (S []), zI 5 (190 + (nxV l (nxK l (nxK l k 18) 9) 11)), zN 6, zI 7 0], [(0, y6 (intsD l) (nxK l (nxK l (nxK l k 18) 9) 11))]⟩) [(6, 9000, 5, 1)] [] (fun (zz : Nat × List (List D) × List UInt8 × Int) => match zz with | (j, es, acc, kk) => ((190 + (nxV l (nxK l (nxK l k 18) 9) 11)).toNat - j, ⟨[zX 0 0 0, zS 2 (S []), zI 5 (190 + (nxV l (nxK l (nxK l k 18) 9) 11)), zY 6 9000 0, zI 7 (j : Int)], [(0, y6 (intsD l) kk), (9000, .arr 0 5 1 (es))]⟩, j ≤ (190 + (nxV l (nxK l (nxK l k 18) 9) 11)).toNat ∧ NumOk l kk ∧ es = bytesD acc ∧ acc.length = j ∧ acc ++ (chM l ((190 + (nxV l (nxK l (nxK l k 18) 9) 11)).toNat - j) kk).1 = (chM l (190 + (nxV l (nxK l (nxK l k 18) 9) 11)).toNat (nxK l (nxK l (nxK l k 18) 9) 11)).1 ∧ (chM l ((190 + (nxV l (nxK l (nxK l k 18) 9) 11)).toNat - j) kk).2 = (chM l (190 + (nxV l (nxK l (nxK l k 18) 9) 11)).toNat (nxK l (nxK l (nxK l k 18) 9) 11)).2)) (0, [], [], nxK l (nxK l (nxK l k 18) 9) 11) (aB (cV l (nxK l (nxK l k 18) 9) 11 (by (repeat (first | assumption | apply NumOk.next))) (by decide) : SpG g _ _ _ _ _) (aD (by intros; (try simp only [inR, maxLen] at *); (try simp only [oP] at *); omega : inR (190 + (nxV l (nxK l (nxK l k 18) 9) 11))))) ?_ ?_
   ·exact ⟨Nat.zero_le _, (by (repeat (first | assumption | apply NumOk.next))), rfl, rfl, by simp, by simp⟩
   rintro ⟨j, es, acc, kk⟩ ⟨hj, hN, hes, ha, h3, h4⟩
   have hlen : es.length = j := by rw [hes, bG, ha]
   have hx := c8 l kk (n := 95) (by decide)
   refine zp hG [] [1, 0] (((j : Int) : Int) < (190 + (nxV l (nxK l (nxK l k 18) 9) 11))) aA (fun hc4 => ?_) (fun hc4 => ?_)
   ·skip
    refine zD hG [(12, 2, .call (.c (cI (nxV l kk 95))) [] [[.sl 1 (intsD l), .i (nxK l kk 95)]])] (j + 1, es ++ [[D.y (IntKind.wrap .u8 (32 + nxV l kk 95))]], acc ++ [u8 (32 + nxV l kk 95)], nxK l kk 95) (aB (cV l kk 95 (by (repeat (first | assumption | apply NumOk.next))) (by decide) : SpG g _ _ _ _ _) (aB (by intros; (try simp only [inR, maxLen] at *); (try simp only [oP] at *); omega : inR (32 + (nxV l kk 95))) (aB (by intros; (try simp only [inR, maxLen] at *); (try simp only [oP] at *); omega : ((es).length + ([[.y (IntKind.wrap .u8 (32 + (nxV l kk 95)))]] : List (List D)).length) * (1 + 1) ≤ 140737488355328) (aD (by intros; (try simp only [inR, maxLen] at *); (try simp only [oP] at *); omega : inR ((j : Int) + 1)))))) ?_ ?_
    ·(try dsimp only); omega
    ·have hjs := aCN (l := l) (kk := kk) (N := (190 + (nxV l (nxK l (nxK l k 18) 9) 11)).toNat) (j := j) (by omega)
     refine ⟨by omega, hN.next _, by rw [hes, eH], by simp [ha], ?_, ?_⟩
     ·rw [← h3, hjs]; simp
     ·rw [← h4, hjs]
   ·skip
    refine zE hG [] (.exit 0) (⟨[zS 2 (S []), zY 6 9000 0], [(0, y6 (intsD l) kk), (9000, .arr 0 5 1 (es))]⟩) aA rfl ?_
    refine zR hG [(13, 1, kS (S acc))] [] (.c (cS (S acc))) [(0, y6 (intsD l) kk)] (aD (by rw [hes, l8] : es = bytesD (S acc).data.toList)) ?_ ?_
    ·have e : txM l k = chM l (txN l k).toNat (txK l k) := by rw [txM, if_neg (by omega)]
     have e2 : txN l k = 190 + nxV l (nxK l (nxK l k 18) 9) 11 := by rw [txN, if_pos hc2]
     have e3 : txK l k = nxK l (nxK l (nxK l k 18) 9) 11 := by rw [txK, if_pos hc2]
     have hz : (190 + nxV l (nxK l (nxK l k 18) 9) 11).toNat - j = 0 := by omega
     rw [hz] at h3
     simp only [chM, List.append_nil] at h3
     rw [e, e2, e3, ← h3]
    ·have e : txM l k = chM l (txN l k).toNat (txK l k) := by rw [txM, if_neg (by omega)]
     have e2 : txN l k = 190 + nxV l (nxK l (nxK l k 18) 9) 11 := by rw [txN, if_pos hc2]
     have e3 : txK l k = nxK l (nxK l (nxK l k 18) 9) 11 := by rw [txK, if_pos hc2]
     have hz : (190 + nxV l (nxK l (nxK l k 18) 9) 11).toNat - j = 0 := by omega
     rw [hz] at h4
     simp only [chM] at h4
     rw [e, e2, e3, ← h4]
  ·skip
   refine zA hG [] [0, 1, 0, 1, 1, 1, 1, 1, 1, 1] (⟨[zX 0 0 0, zS 2 (S []), zI 5 (nxV l (nxK l k 18) 9), zN 6, zI 7 0], [(0, y6 (intsD l) (nxK l (nxK l k 18) 9))]⟩) [(6, 9000, 5, 1)] [] (fun (zz : Nat × List (List D) × List UInt8 × Int) => match zz with | (j, es, acc, kk) => ((nxV l (nxK l k 18) 9).toNat - j, ⟨[zX 0 0 0, zS 2 (S []), zI 5 (nxV l (nxK l k 18) 9), zY 6 9000 0, zI 7 (j : Int)], [(0, y6 (intsD l) kk), (9000, .arr 0 5 1 (es))]⟩, j ≤ (nxV l (nxK l k 18) 9).toNat ∧ NumOk l kk ∧ es = bytesD acc ∧ acc.length = j ∧ acc ++ (chM l ((nxV l (nxK l k 18) 9).toNat - j) kk).1 = (chM l (nxV l (nxK l k 18) 9).toNat (nxK l (nxK l k 18) 9)).1 ∧ (chM l ((nxV l (nxK l k 18) 9).toNat - j) kk).2 = (chM l (nxV l (nxK l k 18) 9).toNat (nxK l (nxK l k 18) 9)).2)) (0, [], [], nxK l (nxK l k 18) 9) aA ?_ ?_
   ·exact ⟨Nat.zero_le _, (by (repeat (first | assumption | apply NumOk.next))), rfl, rfl, by simp, by simp⟩
   rintro ⟨j, es, acc, kk⟩ ⟨hj, hN, hes, ha, h3, h4⟩
   have hlen : es.length = j := by rw [hes, bG, ha]
   have hx := c8 l kk (n := 95) (by decide)
   refine zp hG [] [1, 0] (((j : Int) : Int) < (nxV l (nxK l k 18) 9)) aA (fun hc6 => ?_) (fun hc6 => ?_)
   ·skip
    refine zD hG [(12, 2, .call (.c (cI (nxV l kk 95))) [] [[.sl 1 (intsD l), .i (nxK l kk 95)]])] (j + 1, es ++ [[D.y (IntKind.wrap .u8 (32 + nxV l kk 95))]], acc ++ [u8 (32 + nxV l kk 95)], nxK l kk 95) (aB (cV l kk 95 (by (repeat (first | assumption | apply NumOk.next))) (by decide) : SpG g _ _ _ _ _) (aB (by intros; (try simp only [inR, maxLen] at *); (try simp only [oP] at *); omega : inR (32 + (nxV l kk 95))) (aB (by intros; (try simp only [inR, maxLen] at *); (try simp only [oP] at *); omega : ((es).length + ([[.y (IntKind.wrap .u8 (32 + (nxV l kk 95)))]] : List (List D)).length) * (1 + 1) ≤ 140737488355328) (aD (by intros; (try simp only [inR, maxLen] at *); (try simp only [oP] at *); omega : inR ((j : Int) + 1)))))) ?_ ?_
    ·(try dsimp only); omega
    ·have hjs := aCN (l := l) (kk := kk) (N := (nxV l (nxK l k 18) 9).toNat) (j := j) (by omega)
     refine ⟨by omega, hN.next _, by rw [hes, eH], by simp [ha], ?_, ?_⟩
     ·rw [← h3, hjs]; simp
     ·rw [← h4, hjs]
   ·skip
    refine zE hG [] (.exit 0) (⟨[zS 2 (S []), zY 6 9000 0], [(0, y6 (intsD l) kk), (9000, .arr 0 5 1 (es))]⟩) aA rfl ?_
    refine zR hG [(13, 1, kS (S acc))] [] (.c (cS (S acc))) [(0, y6 (intsD l) kk)] (aD (by rw [hes, l8] : es = bytesD (S acc).data.toList)) ?_ ?_
    ·have e : txM l k = chM l (txN l k).toNat (txK l k) := by rw [txM, if_neg (by omega)]
     have e2 : txN l k = nxV l (nxK l k 18) 9 := by rw [txN, if_neg hc2]
     have e3 : txK l k = nxK l (nxK l k 18) 9 := by rw [txK, if_neg hc2]
     have hz : (nxV l (nxK l k 18) 9).toNat - j = 0 := by omega
     rw [hz] at h3
     simp only [chM, List.append_nil] at h3
     rw [e, e2, e3, ← h3]
    ·have e : txM l k = chM l (txN l k).toNat (txK l k) := by rw [txM, if_neg (by omega)]
     have e2 : txN l k = nxV l (nxK l k 18) 9 := by rw [txN, if_neg hc2]
     have e3 : txK l k = nxK l (nxK l k 18) 9 := by rw [txK, if_neg hc2]
     have hz : (nxV l (nxK l k 18) 9).toNat - j = 0 := by omega
     rw [hz] at h4
     simp only [chM] at h4
     rw [e, e2, e3, ← h4]
theorem aDZ (l : List Int) (k : Int) (h : NumOk l k) :
  SpG g 58 [.c (.bx 0 0)] [(0, y6 (intsD l) k)] (.agg [cI ((dcM l k).1), cI ((dcM l k).2.1)]) [(0, y6 (intsD l) ((dcM l k).2.2))] := by
 have a1 := c8 l k (n := 2001) (by decide)
 have a2 := c8 l (nxK l (nxK l k 2001) 8) (n := 2000000000000001) (by decide)
 have a3 := c8 l (nxK l (nxK l k 2001) 8) (n := 4) (by decide)
 have a4 := c8 l (nxK l (nxK l (nxK l k 2001) 8) 2000000000000001) (n := 4) (by decide)
 refine aL 23 Tryz.func58 (by kernel_rfl) fun fr hG => ?_
 refine zP hG [(1, 1, .call (.c (cI (nxV l k 2001))) [] [[.sl 1 (intsD l), .i (nxK l k 2001)]]), (2, 1, .call (.c (cI (nxV l (nxK l k 2001) 8))) [] [[.sl 1 (intsD l), .i (nxK l (nxK l k 2001) 8)]])] [1, 0, 1, 1] ((nxV l (nxK l k 2001) 8 : Int) = 7) (⟨[zX 0 0 0, zX 2 100 0, zI 3 ((nxV l k 2001) - 1000)], [(0, y6 (intsD l) (nxK l (nxK l k 2001) 8)), (100, .box 38 [cI 0, cI 0])]⟩) (aB (cV l k 2001 (by (repeat (first | assumption | apply NumOk.next))) (by decide) : SpG g _ _ _ _ _) (aB (by intros; (try simp only [inR, maxLen] at *); (try simp only [oP] at *); omega : inR ((nxV l k 2001) - 1000)) (aD (cV l (nxK l k 2001) 8 (by (repeat (first | assumption | apply NumOk.next))) (by decide) : SpG g _ _ _ _ _)))) (fun hc1 => ?_) (fun hc1 => ?_)
 ·skip
  refine zR hG [(3, 1, .call (.c (cI (nxV l (nxK l (nxK l k 2001) 8) 2000000000000001))) [] [[.sl 1 (intsD l), .i (nxK l (nxK l (nxK l k 2001) 8) 2000000000000001)]]), (4, 2, .call (.c (cI (nxV l (nxK l (nxK l (nxK l k 2001) 8) 2000000000000001) 4))) [] [[.sl 1 (intsD l), .i (nxK l (nxK l (nxK l (nxK l k 2001) 8) 2000000000000001) 4)]]), (4, 3, kC (y3 (fR (decide ((nxV l (nxK l (nxK l k 2001) 8) 2000000000000001) - 1000000000000000 < 0)) ((nxV l (nxK l (nxK l k 2001) 8) 2000000000000001) - 1000000000000000).natAbs (nxV l (nxK l (nxK l (nxK l k 2001) 8) 2000000000000001) 4)) (fQ ((nxV l (nxK l (nxK l k 2001) 8) 2000000000000001) - 1000000000000000).natAbs (nxV l (nxK l (nxK l (nxK l k 2001) 8) 2000000000000001) 4)) (dP ((nxV l (nxK l (nxK l k 2001) 8) 2000000000000001) - 1000000000000000).natAbs (nxV l (nxK l (nxK l (nxK l k 2001) 8) 2000000000000001) 4))))] [] (.agg [cI (fR (decide ((nxV l (nxK l (nxK l k 2001) 8) 2000000000000001) - 1000000000000000 < 0)) ((nxV l (nxK l (nxK l k 2001) 8) 2000000000000001) - 1000000000000000).natAbs (nxV l (nxK l (nxK l (nxK l k 2001) 8) 2000000000000001) 4)), cI (fQ ((nxV l (nxK l (nxK l k 2001) 8) 2000000000000001) - 1000000000000000).natAbs (nxV l (nxK l (nxK l (nxK l k 2001) 8) 2000000000000001) 4))]) [(0, y6 (intsD l) (nxK l (nxK l (nxK l (nxK l k 2001) 8) 2000000000000001) 4))] (aB (cV l (nxK l (nxK l k 2001) 8) 2000000000000001 (by (repeat (first | assumption | apply NumOk.next))) (by decide) : SpG g _ _ _ _ _) (aB (by intros; (try simp only [inR, maxLen] at *); (try simp only [oP] at *); omega : inR ((nxV l (nxK l (nxK l k 2001) 8) 2000000000000001) - 1000000000000000)) (aB (cV l (nxK l (nxK l (nxK l k 2001) 8) 2000000000000001) 4 (by (repeat (first | assumption | apply NumOk.next))) (by decide) : SpG g _ _ _ _ _) (aD (aBY ((nxV l (nxK l (nxK l k 2001) 8) 2000000000000001) - 1000000000000000) (nxV l (nxK l (nxK l (nxK l k 2001) 8) 2000000000000001) 4) (by omega) (by omega) (by omega) (by omega) : SpG g _ _ _ _ _))))) ?_ ?_
  ·simp [dcM, dcN, dcK, hc1]
  ·simp [dcM, dcN, dcK, hc1]
 ·skip
  refine zR hG [(4, 2, .call (.c (cI (nxV l (nxK l (nxK l k 2001) 8) 4))) [] [[.sl 1 (intsD l), .i (nxK l (nxK l (nxK l k 2001) 8) 4)]]), (4, 3, kC (y3 (fR (decide ((nxV l k 2001) - 1000 < 0)) ((nxV l k 2001) - 1000).natAbs (nxV l (nxK l (nxK l k 2001) 8) 4)) (fQ ((nxV l k 2001) - 1000).natAbs (nxV l (nxK l (nxK l k 2001) 8) 4)) (dP ((nxV l k 2001) - 1000).natAbs (nxV l (nxK l (nxK l k 2001) 8) 4))))] [] (.agg [cI (fR (decide ((nxV l k 2001) - 1000 < 0)) ((nxV l k 2001) - 1000).natAbs (nxV l (nxK l (nxK l k 2001) 8) 4)), cI (fQ ((nxV l k 2001) - 1000).natAbs (nxV l (nxK l (nxK l k 2001) 8) 4))]) [(0, y6 (intsD l) (nxK l (nxK l (nxK l k 2001) 8) 4))] (aB (cV l (nxK l (nxK l k 2001) 8) 4 (by (repeat (first | assumption | apply NumOk.next))) (by decide) : SpG g _ _ _ _ _) (aD (aBY ((nxV l k 2001) - 1000) (nxV l (nxK l (nxK l k 2001) 8) 4) (by omega) (by omega) (by omega) (by omega) : SpG g _ _ _ _ _))) ?_ ?_
  ·simp [dcM, dcN, dcK, hc1]
  ·simp [dcM, dcN, dcK, hc1]
abbrev y7 : Ob := .box 42 [cI 0, cS (S []), cI 0, cI 0, cI 0, cN, cN]
theorem pS (l : List Int) (k kind : Int) (h : NumOk l k) (hk : ¬ kind = 5) :
  SpG g 21 [.c (.bx 0 0), .c (cI kind)] [(0, y6 (intsD l) k)] (.agg [cI (((cvM l k kind).1).kind), cS (S ((cvM l k kind).1).s), cI (((cvM l k kind).1).dn), cI (((cvM l k kind).1).ds), cI (((cvM l k kind).1).n), cN, cN]) [(0, y6 (intsD l) ((cvM l k kind).2))] := by
 have a1 := c8 l k (n := 1000) (by decide)
 refine aL 45 Tryz.func21 (by kernel_rfl) fun fr hG => ?_
 refine zP hG [] [1, 0, 1, 0, 1] ((kind : Int) = 1) (⟨[zX 0 0 0, zI 1 kind, zX 4 100 0, zI 6 kind], [(0, y6 (intsD l) k), (100, y7)]⟩) aA (fun hc1 => ?_) (fun hc1 => ?_)
 ·skip
  refine zR hG [(3, 2, .call (.c (cS (S (txM l k).1))) [] [[.sl 1 (intsD l), .i ((txM l k).2)]])] [] (.agg [cI kind, cS (S (txM l k).1), cI 0, cI 0, cI 0, cN, cN]) [(0, y6 (intsD l) ((txM l k).2))] (aD (z6 l k (by (repeat (first | assumption | apply NumOk.next))) : SpG g _ _ _ _ _)) ?_ ?_
  ·simp [cvM, *]
  ·simp [cvM, *]
 ·skip
  refine zp hG [] [1, 1, 1, 0, 1, 0, 1] ((kind : Int) = 2) aA (fun hc2 => ?_) (fun hc2 => ?_)
  ·skip
   refine zR hG [(5, 2, .call (.agg [cI ((dcM l k).1), cI ((dcM l k).2.1)]) [] [[.sl 1 (intsD l), .i ((dcM l k).2.2)]])] [] (.agg [cI kind, cS (S []), cI ((dcM l k).1), cI ((dcM l k).2.1), cI 0, cN, cN]) [(0, y6 (intsD l) ((dcM l k).2.2))] (aD (aDZ l k (by (repeat (first | assumption | apply NumOk.next))) : SpG g _ _ _ _ _)) ?_ ?_
   ·simp [cvM, *]
   ·simp [cvM, *]
  ·skip
   refine zp hG [] [1, 1, 1, 1, 1, 0, 1, 0, 1] ((kind : Int) = 3) aA (fun hc3 => ?_) (fun hc3 => ?_)
   ·skip
    refine zP hG [(7, 1, .call (.c (cI (nxV l k 1000))) [] [[.sl 1 (intsD l), .i (nxK l k 1000)]]), (8, 1, .call (.c (cI (nxV l (nxK l k 1000) 8))) [] [[.sl 1 (intsD l), .i (nxK l (nxK l k 1000) 8)]])] [1, 0, 1, 0, 1, 1, 1, 1, 1, 0, 1, 0, 1] ((nxV l (nxK l k 1000) 8 : Int) = 7) (⟨[zX 0 0 0, zI 1 kind, zX 4 100 0, zI 5 (738000 + (nxV l k 1000))], [(0, y6 (intsD l) (nxK l (nxK l k 1000) 8)), (100, y7)]⟩) (aB (cV l k 1000 (by (repeat (first | assumption | apply NumOk.next))) (by decide) : SpG g _ _ _ _ _) (aB (by intros; (try simp only [inR, maxLen] at *); (try simp only [oP] at *); omega : inR (738000 + (nxV l k 1000))) (aD (cV l (nxK l k 1000) 8 (by (repeat (first | assumption | apply NumOk.next))) (by decide) : SpG g _ _ _ _ _)))) (fun hc4 => ?_) (fun hc4 => ?_)
    ·skip
     refine zR hG [(9, 1, .call (.c (cI (nxV l (nxK l (nxK l k 1000) 8) 3652059))) [] [[.sl 1 (intsD l), .i (nxK l (nxK l (nxK l k 1000) 8) 3652059)]])] [] (.agg [cI kind, cS (S []), cI 0, cI 0, cI (nxV l (nxK l (nxK l k 1000) 8) 3652059), cN, cN]) [(0, y6 (intsD l) (nxK l (nxK l (nxK l k 1000) 8) 3652059))] (aD (cV l (nxK l (nxK l k 1000) 8) 3652059 (by (repeat (first | assumption | apply NumOk.next))) (by decide) : SpG g _ _ _ _ _)) ?_ ?_
     ·simp [cvM, *]
     ·simp [cvM, *]
    ·skip
     refine zR hG [] [] (.agg [cI kind, cS (S []), cI 0, cI 0, cI (738000 + (nxV l k 1000)), cN, cN]) [(0, y6 (intsD l) (nxK l (nxK l k 1000) 8))] aA ?_ ?_
     ·simp [cvM, *]
     ·simp [cvM, *]
   ·skip
    refine zp hG [] [1, 1, 1, 1, 1, 1, 1, 0, 1, 0, 1] ((kind : Int) = 4) aA (fun hc5 => ?_) (fun hc5 => ?_)
    ·skip
     refine zR hG [(12, 2, .call (.c (cI (nxV l k 2))) [] [[.sl 1 (intsD l), .i (nxK l k 2)]])] [] (.agg [cI kind, cS (S []), cI 0, cI 0, cI (nxV l k 2), cN, cN]) [(0, y6 (intsD l) (nxK l k 2))] (aD (cV l k 2 (by (repeat (first | assumption | apply NumOk.next))) (by decide) : SpG g _ _ _ _ _)) ?_ ?_
     ·simp [cvM, *]
     ·simp [cvM, *]
    ·skip
     refine zP hG [] [1, 1, 1, 1, 1, 1, 1, 1, 1, 0, 1, 0, 1] ((kind : Int) = 5) (⟨[zX 0 0 0, zX 4 100 0], [(0, y6 (intsD l) k), (100, y7)]⟩) aA (fun hc6 => ?_) (fun hc6 => ?_)
     ·skip
      exact absurd hc6 hk
     ·skip
      refine zR hG [(15, 1, .call (.c (cI (nxV l k 100))) [] [[.sl 1 (intsD l), .i (nxK l k 100)]])] [] (.agg [cI 0, cS (S []), cI 0, cI 0, cI (nxV l k 100), cN, cN]) [(0, y6 (intsD l) (nxK l k 100))] (aD (cV l k 100 (by (repeat (first | assumption | apply NumOk.next))) (by decide) : SpG g _ _ _ _ _)) ?_ ?_
      ·simp [cvM, *]
      ·simp [cvM, *]
end Go.Proofs.YtdejnaokkdndeaaGreatDoor
namespace Go.Proofs.YtdejnaokkdndeaaGreatDoor
open Go.ChangeShapes Go.WideShapes Go.ChangeAt Go.RowKit Go.V
theorem own : ownKnob Tryz.prog.godebug = none := by kernel_rfl
theorem laidOut : laidOutB Tryz.prog = true := by kernel_rfl
theorem mG {W : World} {name : String} {b : Nat} {cs : Array Value} (hg : Tryz.prog.globalNamed name = some b) (h : W.var? Tryz.prog name = some cs) : ∃ ty fz, W.heap[b]? = some (.cells cs ty fz) := by
 unfold World.var? at h
 rw [hg, Option.bind_some] at h
 split at h
 rename_i c t f e
 cases h
 exact ⟨_, _, e⟩
 cases h
theorem sE {P : Program} {w : World} {r : Reach} {b : Nat} {t : TypeId} {v : Value} {k : IntKind} (h : P.underlying t = some (.int k)) (hc : Cell.ok P w r b t v) : ∃ n, v = .int k n := by
 unfold Cell.ok at hc
 rw [h] at hc
 cases v <;> simp at hc
 exact ⟨_, by rw [hc.1]⟩
theorem zero0 : ((begin Tryz.prog (fun _ _ => 0) default).world.heap[1]?).bind Obj.row? = some (#[.int .i64 0], 3) := by kernel_rfl
theorem int_var {P : Program} {W : World} {b : Nat} {t : TypeId} {zero : Array Value} (h : W.ShapedOpen P) (hb : b < P.globals.size) (hz : ((begin P (fun _ _ => 0) default).world.heap[b]?).bind Obj.row? = some (zero, t)) (h1 : zero.size = 1)
  (hB : P.buildable t = true) (hts : P.cellTypes P.depth t = some [t]) (hu : P.underlying t = some (.int .i64)) : ∃ n : Int, ∃ ty fz, W.heap[b]? = some (.cells #[.int .i64 n] ty fz) := by
 obtain ⟨cs, hb, hs, hr⟩ := h.1 b _ _ hb hz
 obtain ⟨ts, hts', _, hall⟩ := hr hB
 obtain rfl := Option.some.inj (hts.symm.trans hts')
 obtain ⟨l⟩ := cs
 rw [h1] at hs
 match l, hs, hb, hall with
 | [v], _, hb, hall =>
  obtain ⟨u, hu', hc⟩ := hall 0 v rfl
  obtain rfl : t = u := by simpa using hu'
  obtain ⟨n, rfl⟩ := sE hu hc
  exact ⟨n, _, _, hb⟩
theorem aD5 {W : World} (h : W.ShapedOpen Tryz.prog) : ∃ n : Int, ∃ ty fz, W.heap[1]? = some (.cells #[.int .i64 n] ty fz) :=
 int_var h (of_decide_eq_true (by kernel_rfl)) zero0 rfl (by kernel_rfl) (by kernel_rfl) (by kernel_rfl)
theorem pow_of {W : World} {r : List (String × DataW Unit)} (h : laidMet Tryz.prog (("internal/strconv.uint64pow10", Rows.laid_internal_strconv_uint64pow10) :: r) W) : ∃ ty fz, W.heap[10]? = some (.cells (powL.map (Value.int .u64)).toArray ty fz) :=
 mG (by kernel_rfl) (Lib.tabIs_of_head (k := .u64) (zs := powL) (t := 342) (e := 250) (n := 20) (g := 10) (by kernel_rfl) (by kernel_rfl) (by kernel_rfl) (by kernel_rfl) (by kernel_rfl) (by kernel_rfl) h)
theorem lens_of {W : World} {r : List (String × DataW Unit)} (h : laidMet Tryz.prog (("concord/date.lengths", Rows.laid_concord_date_lengths) :: r) W) : ∃ ty fz, W.heap[5]? = some (.cells (mlen.map (Value.int .i64)).toArray ty fz) :=
 mG (by kernel_rfl) (Lib.tabIs_of_head (k := .i64) (zs := mlen) (t := 322) (e := 3) (n := 12) (g := 5) (by kernel_rfl) (by kernel_rfl) (by kernel_rfl) (by kernel_rfl) (by kernel_rfl) (by kernel_rfl) h)
theorem tens_of {W : World} {r : List (String × DataW Unit)} (h : laidMet Tryz.prog (("concord/decimal.tens", Rows.laid_concord_decimal_tens) :: r) W) : ∃ ty fz, W.heap[0]? = some (.cells (tensL.map (Value.int .i64)).toArray ty fz) :=
 mG (by kernel_rfl) (Lib.tabIs_of_head (k := .i64) (zs := tensL) (t := 256) (e := 3) (n := 7) (g := 0) (by kernel_rfl) (by kernel_rfl) (by kernel_rfl) (by kernel_rfl) (by kernel_rfl) (by kernel_rfl) h)
def aJH (W : World) (g : Gv) : Prop := ∀ b cs, (b, cs) ∈ Gl g → ∃ ty fz, W.heap[b]? = some (.cells cs.toArray ty fz)
theorem starts9 {W : World} (hS : W.ShapedOpen Tryz.prog) (hL : laidMetH Tryz.prog Rows.operNumbersRow.laid W) : ∃ g : Gv, g.more = [(0, tensL.map (Value.int .i64))] ∧ aJH W g := by
 rw [MakeChecks.laidMetH_plain _ _ _ (by kernel_rfl)] at hL
 obtain ⟨n, h0⟩ := aD5 hS
 have h2 := pow_of (laidMet.tail (laidMet.tail hL))
 have h5 := lens_of (laidMet.tail (laidMet.tail (laidMet.tail (laidMet.tail (laidMet.tail (laidMet.tail hL))))))
 have h1 := tens_of (laidMet.tail (laidMet.tail (laidMet.tail (laidMet.tail (laidMet.tail (laidMet.tail (laidMet.tail hL)))))))
 refine ⟨⟨n, [(0, tensL.map (Value.int .i64))]⟩, rfl, fun b cs h => ?_⟩
 simp only [Gl, List.mem_cons, Prod.mk.injEq, List.not_mem_nil, or_false] at h
 rcases h with ⟨rfl, rfl⟩ | ⟨rfl, rfl⟩ | ⟨rfl, rfl⟩ | ⟨rfl, rfl⟩
 exact h0
 exact h2
 exact h5
 exact h1
def pl0 : Pl := ⟨fun _ => True, fun _ => 0, fun _ => (none, 0)⟩
theorem sh0 (b : Nat) : Sh pl0 (lookO []) b := ⟨trivial, fun i h => by simp [aI, lookO] at h⟩
theorem call_of {g : Gv} {f : FuncId} {ins : List SV} {W : World} {args : List Value} (hS : SpG g f ins [] (.c (cB true)) []) (hG : aJH W g)
  (ha : All2 (SvOk W pl0 (lookO [])) ins args) : Calls Tryz.prog f args.toArray W fun e W' => e = .returned (.bool true) ∧ Below W.heap.size W W' := by
 have fk : FrOk ⟨W, [], Gl g, fun _ => True, [], [], [], false⟩ := ⟨fun b cs h => ⟨hG b cs h, fun i h => by cases h⟩, fun i b h => (by cases h), fun i b h => (by cases h)⟩
 have m : Mem ⟨W, [], Gl g, fun _ => True, [], [], [], false⟩ (lookO []) W pl0 := by
  refine ⟨fk, fun b => ⟨fun _ => .inl trivial, fun _ => trivial⟩, fun i o h => (by cases h), fun i j b h => (by simp [aI, lookO] at h), fun i b h => (by simp [aI, lookO] at h), fun i b h => (by cases h), rfl, rfl, rfl, Nat.le_refl _, fun _ _ _ => rfl, fun i ty cs b h => (by cases h)⟩
 refine (hS ⟨W, [], Gl g, fun _ => True, [], [], [], false⟩ W pl0 args rfl ⟨rfl, rfl, fun _ => ⟨rfl, rfl⟩, rfl⟩ m ha).mono ?_
 rintro e W' ⟨v, pl', rfl, m', hv⟩
 have hv : Rd W' _ (.b true) v := hv
 obtain rfl := Rd.exact hv
 exact ⟨rfl, m'.os, m'.tape, m'.output, m'.grow, fun k hk => m'.keep k hk fun i h => by cases h⟩
section
variable {H : Type} {enc : TypeId × Value → H} {P : Program} {W : World}
theorem aFV {r : Reach} {b : Nat} {t e : TypeId} {v : Value} (ht : P.underlying t = some (.slice e)) (h : Cell.ok P W r b t v) :
  v = .slice none 0 0 ∨ ∃ bl off len cap c ty fz, v = .slice (some ⟨bl, off, none⟩) len cap ∧ W.heap[bl]? = some (.cells c ty fz) := by
 unfold Cell.ok at h
 rw [ht] at h
 cases v <;> simp at h
 rename_i a len cap
 cases a with
 | none =>
  left
  cases len <;> cases cap <;> simp at h
  rfl
 | some a =>
  obtain ⟨hl, hc, _, hs, row, cells, hsh, _⟩ := (show len ≤ cap ∧ (cap : Int) ≤ IntKind.i64.max ∧ W.has P r b a e cap from h)
  obtain ⟨bl, off, sp⟩ := a
  obtain rfl : sp = none := hs
  unfold World.shape? at hsh
  split at hsh
  rename_i c ty fz e; exact .inr ⟨bl, off, len, cap, c, ty, fz, rfl, e⟩
  cases hsh
theorem pF {fuel : Nat} {b : Nat} {t e : TypeId} {v : Value} {x : DataW H × List MemPlace} (ht : P.underlying t = some (.slice e)) (he : P.underlying e = some (.int .i64)) (hc : P.cellsOf e = 1)
  (hval : Cell.ok P W .any b t v) (hf : DataW.trod enc P W 0 (fun _ => true) true fuel t [v] = some x) : ∃ l : List Int, Rd W (Sh pl0 (lookO [])) (.sl 1 (intsD l)) v := by
 rcases open_ints ht he hc hf with ⟨h1, _⟩ | ⟨a, len, cap, zs, h1, _, hl, hm, hlen, _, hcell, _⟩
 simp only [List.cons.injEq, and_true] at h1
 subst h1
 exact ⟨[], Rd.nil 1⟩
 simp only [List.cons.injEq, and_true] at h1
 subst h1
 rcases aFV ht hval with h | ⟨bl, off, len', cap', c, ty, fz, h, hb⟩
 simp at h
 simp only [Value.slice.injEq, Option.some.injEq] at h
 obtain ⟨rfl, rfl, rfl⟩ := h
 simp only [if_true] at hlen
 have hlt : len ≤ zs.length := by omega
 have el : (intsD (zs.take len)).length = len := by simp [intsD]; omega
 refine ⟨zs.take len, ?_⟩
 have key : Rd W (Sh pl0 (lookO [])) (.sl 1 (intsD (zs.take len))) (.slice (some ⟨bl, off, none⟩) (intsD (zs.take len)).length cap) := by
  refine Rd.sl (us := fun i _ => .int .i64 (zs.getD i 0)) (sh0 _) hb (by rw [el]; exact hl) hm ?_ ?_ ?_
  intro ds hds
  simp only [intsD, List.mem_map] at hds
  obtain ⟨n, _, rfl⟩ := hds
  rfl
  intro i j ds d hi hj
  have hil : i < (zs.take len).length := by
   have := (List.getElem?_eq_some_iff.1 hi).1
   simpa [intsD] using this
  simp only [List.length_take] at hil
  have := hcell i (by omega)
  simp only [intsD, List.getElem?_map, Option.map_eq_some_iff] at hi
  obtain ⟨n, hn, rfl⟩ := hi
  match j, hj with
  | 0, hj =>
   have ea : Addr.add ⟨bl, off, none⟩ i = ⟨bl, off + i, none⟩ := by
    unfold Addr.add
    split <;> simp_all
   rw [ea] at this
   simp only [World.cell?, hb] at this
   simpa using this
  intro i j ds d hi hj
  simp only [intsD, List.getElem?_map, Option.map_eq_some_iff] at hi
  obtain ⟨n, hn, rfl⟩ := hi
  match j, hj with
  | 0, hj =>
   simp only [intD, List.getElem?_cons_zero, Option.some.injEq] at hj
   subst hj
   have hz : zs.getD i 0 = n := by
    rw [List.getElem?_take] at hn
    split at hn
    simp [hn]
    cases hn
   rw [hz]
   exact Rd.v _ rfl
 rw [el] at key
 exact key
theorem p5 {r : Reach} {b : Nat} {t : TypeId} {v : Value} {k : IntKind} (h : P.underlying t = some (.int k)) (hc : Cell.okWide P W r b t v) : ∃ n, v = .int k n := by
 unfold Cell.okWide at hc
 rw [h] at hc
 exact sE h hc
theorem aE6 {r : Reach} {b : Nat} {t e : TypeId} {v : Value} (ht : P.underlying t = some (.array 3 e)) (hc : P.cellsOf t = 3) (hts : P.cellTypes P.depth t = some [e, e, e]) (he : P.underlying e = some (.int .i64)) (h : Value.okWide P W r b t v) :
  ∃ x y z : Int, v = .agg #[.int .i64 x, .int .i64 y, .int .i64 z] := by
 unfold Value.okWide at h
 rw [ht] at h
 obtain ⟨cs, rfl, hs, ts, hts', _, hall⟩ := h
 obtain rfl := Option.some.inj (hts.symm.trans hts')
 rw [hc] at hs
 obtain ⟨l⟩ := cs
 match l, hs, hall with
 | [c0, c1, c2], _, hall =>
  obtain ⟨u0, h0, k0⟩ := hall 0 c0 rfl
  obtain ⟨u1, h1, k1⟩ := hall 1 c1 rfl
  obtain ⟨u2, h2, k2⟩ := hall 2 c2 rfl
  obtain rfl : e = u0 := by simpa using h0
  obtain rfl : e = u1 := by simpa using h1
  obtain rfl : e = u2 := by simpa using h2
  obtain ⟨x, rfl⟩ := p5 he k0
  obtain ⟨y, rfl⟩ := p5 he k1
  obtain ⟨z, rfl⟩ := p5 he k2
  exact ⟨x, y, z, rfl⟩
end
section
variable {P : Program} {W : World}
end
section
variable {H : Type} {enc : TypeId × Value → H} {P : Program} {W : World}
end
section
variable {H : Type} {enc : TypeId × Value → H} {P : Program} {W : World}
end
end Go.Proofs.YtdejnaokkdndeaaGreatDoor
namespace Go.Proofs.YtdejnaokkdndeaaGreatDoor
open Go.ChangeShapes Go.WideShapes Go.ChangeAt Go.RowKit Go.V
section
variable {H : Type} {enc : TypeId × Value → H} {P : Program} {W : World}
abbrev y8 (a0 : List (List D)) (a1 : List (List D)) (a2 : List (List D)) : SV := .agg [cM 1 a0, cM 1 a1, cM 1 a2]
theorem rd_3ints {b : Nat} {t s e : TypeId} {v : Value} {d : DataW H} {ps : List MemPlace} (ht : P.underlying t = some (.array 3 s)) (hc : P.cellsOf t = 3) (hcs : P.cellsOf s = 1) (hts : P.cellTypes P.depth t = some [s, s, s]) (hs : P.underlying s = some (.slice e)) (he : P.underlying e = some (.int .i64)) (hce : P.cellsOf e = 1)
  (h : Value.okWide P W .any b t v) (hd : DataW.Trod enc P W 0 (fun _ => true) true t v d ps) : ∃ x y z : List Int, (x.length ≤ maxLen ∧ y.length ≤ maxLen ∧ z.length ≤ maxLen) ∧ SvOk W pl0 (lookO []) (y8 (intsD x) (intsD y) (intsD z)) v := by
 unfold Value.okWide at h
 rw [ht] at h
 obtain ⟨cs, rfl, hsz, ts, hts', _, hall⟩ := h
 obtain rfl := Option.some.inj (hts.symm.trans hts')
 rw [hc] at hsz
 obtain ⟨l⟩ := cs
 match l, hsz, hall, hd with
 | [c0, c1, c2], _, hall, hd =>
  obtain ⟨u0, h0, k0⟩ := hall 0 c0 rfl
  obtain ⟨u1, h1, k1⟩ := hall 1 c1 rfl
  obtain ⟨u2, h2, k2⟩ := hall 2 c2 rfl
  obtain rfl : s = u0 := by simpa using h0
  obtain rfl : s = u1 := by simpa using h1
  obtain rfl : s = u2 := by simpa using h2
  have w0 : Cell.ok P W .any b s c0 := by unfold Cell.okWide at k0; rw [hs] at k0; exact k0
  have w1 : Cell.ok P W .any b s c1 := by unfold Cell.okWide at k1; rw [hs] at k1; exact k1
  have w2 : Cell.ok P W .any b s c2 := by unfold Cell.okWide at k2; rw [hs] at k2; exact k2
  obtain ⟨fuel, hf⟩ := hd
  obtain ⟨xs, m, _, _, _, hl, hi⟩ := DataW.trod_array ht hf
  have e0 := hi 0 (by decide)
  have e1 := hi 1 (by decide)
  have e2 := hi 2 (by decide)
  rw [hcs] at e0 e1 e2
  obtain ⟨x0, hx0⟩ : ∃ x, xs[0]? = some x := ⟨xs[0]'(by omega), List.getElem?_eq_getElem (by omega)⟩
  obtain ⟨x1, hx1⟩ : ∃ x, xs[1]? = some x := ⟨xs[1]'(by omega), List.getElem?_eq_getElem (by omega)⟩
  obtain ⟨x2, hx2⟩ : ∃ x, xs[2]? = some x := ⟨xs[2]'(by omega), List.getElem?_eq_getElem (by omega)⟩
  rw [hx0] at e0; rw [hx1] at e1; rw [hx2] at e2
  obtain ⟨a, ra⟩ := pF hs he hce w0 e0
  obtain ⟨b', rb⟩ := pF hs he hce w1 e1
  obtain ⟨c', rc⟩ := pF hs he hce w2 e2
  have hlen : ∀ {l : List Int} {v : Value}, Rd W (Sh pl0 (lookO [])) (.sl 1 (intsD l)) v → l.length ≤ maxLen := by
   intro l v h
   have e : (intsD l).length = l.length := by unfold intsD; simp
   rw [← e]
   generalize intsD l = es at h
   cases h with
   | nil => exact Nat.zero_le _
   | far => exact Nat.zero_le _
   | sl us hF hb hc hm => exact Nat.le_trans hc hm
  exact ⟨a, b', c', ⟨hlen ra, hlen rb, hlen rc⟩, [c0, c1, c2], rfl, All2.cons ra (All2.cons rb (All2.one rc))⟩
end
theorem rd_3int {P : Program} {W : World} {r : Reach} {b : Nat} {t e : TypeId} {v : Value} (ht : P.underlying t = some (.array 3 e)) (hc : P.cellsOf t = 3) (hts : P.cellTypes P.depth t = some [e, e, e]) (he : P.underlying e = some (.int .i64)) (h : Value.okWide P W r b t v) :
  ∃ x y z : Int, SvOk W pl0 (lookO []) (.agg [cI x, cI y, cI z]) v := by
 obtain ⟨x, y, z, rfl⟩ := aE6 ht hc hts he h
 exact ⟨x, y, z, [_, _, _], rfl, All2.cons (Rd.v _ rfl) (All2.cons (Rd.v _ rfl) (All2.one (Rd.v _ rfl)))⟩
end Go.Proofs.YtdejnaokkdndeaaGreatDoor
