/- Part 27 of the proof: texts M0, D0, M1, D1, D2, N0, N1, N2, N3, N4, D3. -/
import Derived.Test.YtdejnaokkdndeaaGreatDoorP26
import Derived.Test.YtdejnaokkdndeaaGreatDoorProg
import Derived.Lib.Small
set_option linter.all false
namespace Go.Proofs.YtdejnaokkdndeaaGreatDoor
open Go.RowKit
open Go.Eng (inR byteAt u8 bytesV)
abbrev bs (s : ByteArray) : List UInt8 := s.data.toList
theorem bs_length (s : ByteArray) : (bs s).length = s.size := by cases s; simp [ByteArray.size]
def bAt (s : ByteArray) (k : Nat) : UInt8 := (bs s).getD k 0
theorem bs_drop (s : ByteArray) (k : Nat) (h : k < s.size) : (bs s).drop k = bAt s k :: (bs s).drop (k + 1) := by
 have h' : k < (bs s).length := by rw [bs_length]; exact h
 rw [List.drop_eq_getElem_cons h', bAt, List.getD_eq_getElem?_getD, List.getElem?_eq_getElem h']; rfl
theorem str_beq (a b : ByteArray) : (a.toList == b.toList) = decide (a = b) := by
 rw [Bool.eq_iff_iff]; simp only [beq_iff_eq, decide_eq_true_eq, ByteArray.toList_eq]
 constructor
 ·intro h
  cases a; cases b
  exact congrArg ByteArray.mk (Array.toList_inj.1 h)
 ·rintro rfl; rfl
theorem empty_iff (a : ByteArray) : a = ⟨#[]⟩ ↔ a.size = 0 := by
 constructor
 ·rintro rfl; rfl
 ·intro h
  cases a with
  | mk d => simp only [ByteArray.size] at h; rw [Array.eq_empty_of_size_eq_zero h]
theorem bs_nil (s : ByteArray) (k : Nat) (h : s.size ≤ k) : (bs s).drop k = [] := List.drop_eq_nil_of_le (by rw [bs_length]; exact h)
theorem byteAt_nat (s : ByteArray) (k : Nat) : byteAt s (k : Int) = ((bAt s k).toNat : Int) := by simp [byteAt, bAt]
def isLetter (c : Int) : Bool := (decide (c ≥ 97) && decide (c ≤ 122)) || (decide (c ≥ 65) && decide (c ≤ 90))
def okByte (c : UInt8) : Bool := decide (32 ≤ (c.toNat : Int)) && decide ((c.toNat : Int) ≤ 126)
def isTextB (s : ByteArray) : Bool := (bs s).all okByte && decide ((s.size : Int) ≤ 200)
def tailByte (c : UInt8) : Bool := isLetter c.toNat || decide ((c.toNat : Int) = 95) || (decide (48 ≤ (c.toNat : Int)) && decide ((c.toNat : Int) ≤ 57))
def isNameB (s : ByteArray) : Bool := decide (1 ≤ s.size) && decide (s.size ≤ 20) && isLetter (bAt s 0).toNat && (bs s).all tailByte
theorem tail_of {x : Int} {b : Bool} (h : (b = true ∨ x = 95) ∨ ¬ x < 48 ∧ ¬ x > 57) : (b || decide (x = 95) || (decide (48 ≤ x) && decide (x ≤ 57))) = true := by
 rcases h with (h | h) | h
 ·simp [h]
 ·simp [h]
 ·have h1 : 48 ≤ x := by omega
  have h2 : x ≤ 57 := by omega
  simp [h1, h2]
theorem tail_not {x : Int} {b : Bool} (h : (b = false ∧ ¬ x = 95) ∧ (x < 48 ∨ x > 57)) : (b || decide (x = 95) || (decide (48 ≤ x) && decide (x ≤ 57))) = false := by
 obtain ⟨⟨h1, h2⟩, h3⟩ := h
 simp [h1, h2]; omega
theorem byteAt_zero (s : ByteArray) : byteAt s 0 = ((bAt s 0).toNat : Int) := byteAt_nat s 0
theorem nameB_yes {s : ByteArray} (h : (¬ s.size = 0 ∧ ¬ (s.size : Int) > 20) ∧ isLetter (byteAt s 0) = true) (ht : (bs s).all tailByte = true) : isNameB s = true := by
 obtain ⟨⟨h1, h2⟩, h3⟩ := h
 rw [byteAt_zero] at h3
 simp only [isNameB, h3, ht, Bool.and_true, Bool.and_eq_true, decide_eq_true_eq]; omega
theorem nameB_head {s : ByteArray} (h : (s.size = 0 ∨ (s.size : Int) > 20) ∨ isLetter (byteAt s 0) = false) : isNameB s = false := by
 rcases h with (h | h) | h
 ·simp [isNameB, h]
 ·have : ¬ s.size ≤ 20 := by omega
  simp [isNameB, this]
 ·rw [byteAt_zero] at h; simp [isNameB, h]
theorem nameB_not {s : ByteArray} (ht : (bs s).all tailByte = false) : isNameB s = false := by simp [isNameB, ht]
def decB (n s : Int) : Bool := decide (0 ≤ s) && decide (s ≤ 6) && decide (-1000000000000000 ≤ n) && decide (n ≤ 1000000000000000) && (decide (s = 0) || decide (n.tmod 10 ≠ 0))
def mlen : List Int := [31, 28, 31, 30, 31, 30, 31, 31, 30, 31, 30, 31]
def S (l : List UInt8) : ByteArray := ⟨l.toArray⟩
theorem S_app (a b : List UInt8) : S a ++ S b = S (a ++ b) := by
 have : (S a ++ S b).data = (S (a ++ b)).data := by simp [S]
 cases h1 : S a ++ S b; cases h2 : S (a ++ b); rw [h1, h2] at this; simpa using this
theorem S_size (l : List UInt8) : (S l).size = l.length := by simp [S, ByteArray.size]
def valB (l : List UInt8) : Nat := l.foldl (fun a b => 256 * a + b.toNat) 0
def canonL (l : List UInt8) : List UInt8 := l.dropWhile (· == 0)
def nb (n : Nat) : List UInt8 := if h : n = 0 then [] else nb (n / 256) ++ [UInt8.ofNat (n % 256)]
termination_by n
decreasing_by exact Nat.div_lt_self (Nat.pos_of_ne_zero h) (by decide)
theorem nb_zero : nb 0 = [] := by rw [nb]; simp
theorem nb_pos {n : Nat} (h : n ≠ 0) : nb n = nb (n / 256) ++ [UInt8.ofNat (n % 256)] := by rw [nb]; simp [h]
theorem valB_snoc (l : List UInt8) (x : UInt8) : valB (l ++ [x]) = 256 * valB l + x.toNat := by simp [valB, List.foldl_append]
theorem valB_nil : valB [] = 0 := rfl
theorem foldB (l : List UInt8) : ∀ a : Nat, l.foldl (fun a b => 256 * a + b.toNat) a = a * 256 ^ l.length + valB l := by
 induction l with
 | nil => intro a; simp [valB]
 | cons x t ih =>
  intro a
  have hv : valB (x :: t) = (256 * 0 + x.toNat) * 256 ^ t.length + valB t := ih (256 * 0 + x.toNat)
  rw [List.foldl_cons, ih, hv]
  simp only [List.length_cons, Nat.pow_succ, Nat.mul_zero, Nat.zero_add, Nat.add_mul]
  rw [Nat.mul_comm 256 a, Nat.mul_assoc, Nat.mul_comm 256 (256 ^ t.length)]
  omega
theorem valB_cons (x : UInt8) (t : List UInt8) : valB (x :: t) = x.toNat * 256 ^ t.length + valB t := by
 rw [valB, List.foldl_cons, foldB]; simp
theorem valB_app (a b : List UInt8) : valB (a ++ b) = valB a * 256 ^ b.length + valB b := by
 rw [valB, List.foldl_append, foldB]; rfl
theorem valB_lt (l : List UInt8) : valB l < 256 ^ l.length := by
 induction l with
 | nil => simp [valB]
 | cons x t ih =>
  rw [valB_cons, List.length_cons, Nat.pow_succ]
  have := x.toNat_lt
  have h : (x.toNat + 1) * 256 ^ t.length ≤ 256 * 256 ^ t.length := Nat.mul_le_mul_right _ (by omega)
  rw [Nat.add_mul] at h
  rw [Nat.mul_comm (256 ^ t.length) 256]
  omega
theorem valB_nb (n : Nat) : valB (nb n) = n := by
 induction n using Nat.strongRecOn with
 | ind n ih =>
  by_cases h : n = 0
  ·subst h; rw [nb_zero]; rfl
  ·rw [nb_pos h, valB_snoc, ih _ (Nat.div_lt_self (Nat.pos_of_ne_zero h) (by decide))]
   have : (UInt8.ofNat (n % 256)).toNat = n % 256 := by simp
   rw [this]; omega
theorem nb_mul {v : Nat} {x : UInt8} (h : ¬ (v = 0 ∧ x = 0)) : nb (256 * v + x.toNat) = nb v ++ [x] := by
 have hx := x.toNat_lt
 have hn : 256 * v + x.toNat ≠ 0 := by
  intro hz
  have hx0 : x.toNat = 0 := by omega
  exact h ⟨by omega, UInt8.toNat_inj.1 (by simpa using hx0)⟩
 rw [nb_pos hn]
 have h1 : (256 * v + x.toNat) / 256 = v := by omega
 have h2 : (256 * v + x.toNat) % 256 = x.toNat := by omega
 rw [h1, h2]; simp
theorem rev_ind {P : List UInt8 → Prop} (h0 : P []) (h1 : ∀ l x, P l → P (l ++ [x])) (l : List UInt8) : P l := by
 have : ∀ r : List UInt8, P r.reverse := by
  intro r
  induction r with
  | nil => exact h0
  | cons x t ih => rw [List.reverse_cons]; exact h1 _ _ ih
 have := this l.reverse
 rwa [List.reverse_reverse] at this
theorem dw_append (l : List UInt8) (x : UInt8) : canonL (l ++ [x]) = if canonL l = [] then (if x = 0 then [] else [x]) else canonL l ++ [x] := by
 induction l with
 | nil => simp [canonL, List.dropWhile_cons]
 | cons y t ih =>
  simp only [canonL, List.cons_append, List.dropWhile_cons] at ih ⊢
  by_cases hy : (y == 0) = true
  ·simp only [hy, if_true]; exact ih
  ·simp [hy]
theorem canon_nil (l : List UInt8) : canonL l = [] ↔ valB l = 0 := by
 refine rev_ind (P := fun l => canonL l = [] ↔ valB l = 0) ?_ ?_ l
 ·simp [canonL, valB]
 ·intro l x ih
  rw [dw_append, valB_snoc]
  by_cases h : canonL l = []
  ·rw [if_pos h, ih.1 h]
   by_cases hx : x = 0
   ·simp [hx]
   ·rw [if_neg hx]
    constructor
    ·intro h; simp at h
    ·intro h; exact absurd (UInt8.toNat_inj.1 (by simpa using h)) hx
  ·rw [if_neg h]
   have : valB l ≠ 0 := fun hz => h (ih.2 hz)
   constructor
   ·intro h; simp at h
   ·intro h; omega
theorem canon_nb (l : List UInt8) : canonL l = nb (valB l) := by
 refine rev_ind (P := fun l => canonL l = nb (valB l)) ?_ ?_ l
 ·simp [canonL, valB, nb_zero]
 ·intro l x ih
  rw [dw_append, valB_snoc]
  by_cases h : canonL l = []
  ·rw [if_pos h, (canon_nil l).1 h]
   by_cases hx : x = 0
   ·subst hx; simp [nb_zero]
   ·rw [if_neg hx, nb_mul (v := 0) (fun hh => hx hh.2), nb_zero]; rfl
  ·rw [if_neg h]
   have : valB l ≠ 0 := fun hz => h ((canon_nil l).2 hz)
   rw [nb_mul (fun hh => this hh.1), ih]
theorem nb_len {n k : Nat} (h : n < 256 ^ k) : (nb n).length ≤ k := by
 induction k generalizing n with
 | zero => simp at h; subst h; rw [nb_zero]; simp
 | succ k ih =>
  by_cases hn : n = 0
  ·subst hn; rw [nb_zero]; simp
  ·rw [nb_pos hn]; simp
   refine ih ?_
   rw [Nat.pow_succ] at h
   exact Nat.div_lt_of_lt_mul (by rw [Nat.mul_comm]; exact h)
theorem nb_len_ge {n k : Nat} (h : 256 ^ k ≤ n) : k < (nb n).length := by
 rcases Nat.lt_or_ge k (nb n).length with h1 | h1
 ·exact h1
 ·have := valB_lt (nb n)
  rw [valB_nb] at this
  have h2 := Nat.pow_le_pow_right (n := 256) (by decide) h1
  omega
theorem nb_len_zero (n : Nat) : (nb n).length = 0 ↔ n = 0 := by
 constructor
 ·intro h
  have := valB_nb n
  rw [List.length_eq_zero_iff.1 h] at this
  exact this.symm
 ·intro h; subst h; rw [nb_zero]; rfl
theorem nb_head {n : Nat} (h : n < 2 ^ 63) (hl : (nb n).length = 8) : ((nb n).getD 0 0).toNat ≤ 127 := by
 have hv := valB_nb n
 cases hn : nb n with
 | nil => rw [hn] at hl; simp at hl
 | cons x t =>
  rw [hn] at hl hv
  rw [valB_cons] at hv
  simp at hl
  rw [hl] at hv
  simp
  have : x.toNat * 256 ^ 7 < 2 ^ 63 := by omega
  omega
theorem valB_take_le (l : List UInt8) (k : Nat) : valB (l.take k) ≤ valB l := by
 have h := valB_app (l.take k) (l.drop k)
 rw [List.take_append_drop] at h
 have h1 : 1 ≤ 256 ^ (l.drop k).length := Nat.one_le_pow _ _ (by decide)
 have h2 := Nat.mul_le_mul_left (valB (l.take k)) h1
 omega
theorem valB_take_succ {l : List UInt8} {k : Nat} (h : k < l.length) : valB (l.take (k + 1)) = 256 * valB (l.take k) + (l.getD k 0).toNat := by
 rw [List.take_add_one, List.getElem?_eq_getElem h]
 simp only [Option.toList]
 rw [valB_snoc]
 simp [List.getD, h]
theorem byteAt_S (l : List UInt8) (i : Int) : byteAt (S l) i = ((l.getD i.toNat 0).toNat : Int) := by simp [byteAt, S]
theorem S_drop (l : List UInt8) (k : Nat) : (S l).extract k (S l).size = S (l.drop k) := by
 have h : ((S l).extract k (S l).size).data = (S (l.drop k)).data := by
  rw [ByteArray.data_extract, S_size]
  simp [S, List.take_of_length_le]
 cases h1 : (S l).extract k (S l).size; cases h2 : S (l.drop k); rw [h1, h2] at h; simpa using h
theorem canon_zero {l : List UInt8} {k : Nat} (h : k < l.length) (hz : (l.getD k 0).toNat = 0) : canonL (l.drop k) = canonL (l.drop (k + 1)) := by
 rw [List.drop_eq_getElem_cons h]
 have : l[k] = 0 := by
  simp [List.getD, h] at hz
  exact UInt8.toNat_inj.1 (by simpa using hz)
 simp [canonL, List.dropWhile_cons, this]
theorem canon_stop {l : List UInt8} {k : Nat} (h : ¬ (k < l.length ∧ (l.getD k 0).toNat = 0)) : canonL (l.drop k) = l.drop k := by
 rcases Nat.lt_or_ge k l.length with hk | hk
 ·rw [List.drop_eq_getElem_cons hk]
  have : ¬ (l[k] = 0) := by
   intro hz
   exact h ⟨hk, by simp [List.getD, hk, hz]⟩
  have h2 : (l[k] == 0) = false := by simpa using this
  rw [canonL, List.dropWhile_cons, h2]; rfl
 ·rw [List.drop_eq_nil_of_le hk]; rfl
theorem u8_toNat (x : Int) : ((u8 x).toNat : Int) = x % 256 := by
 have h1 := Int.emod_nonneg x (show (256 : Int) ≠ 0 by decide)
 have h2 := Int.emod_lt_of_pos x (show (0 : Int) < 256 by decide)
 rw [u8]; simp; omega
theorem wrap64 {x : Int} (h : inR x) : IntKind.wrap .i64 x = x := by
 unfold inR at h
 simp [IntKind.wrap, IntKind.bits, IntKind.signed]
 omega
theorem wrap64_byte (x : UInt8) : IntKind.wrap .i64 (x.toNat : Int) = (x.toNat : Int) := by
 have := x.toNat_lt
 exact wrap64 (by unfold inR; omega)
def fitL : Nat → Nat → Nat × Nat
 | m, 0 => (m, 0)
 | m, s + 1 => if m % 10 = 0 then fitL (m / 10) s else (m, s + 1)
theorem fitL_odd : ∀ (s m : Nat), (fitL m s).2 = 0 ∨ (fitL m s).1 % 10 ≠ 0
 | 0, m => by simp [fitL]
 | s + 1, m => by
  rw [fitL]
  split
  ·exact fitL_odd s (m / 10)
  ·rename_i h; exact .inr h
theorem fitL_step {m : Nat} {s : Int} (h : s > 0) (hm : m % 10 = 0) : fitL m s.toNat = fitL (m / 10) (s - 1).toNat := by
 obtain ⟨k, rfl⟩ : ∃ k : Nat, s = (k : Int) + 1 := ⟨(s - 1).toNat, by omega⟩
 have h1 : ((k : Int) + 1).toNat = k + 1 := by omega
 have h2 : ((k : Int) + 1 - 1).toNat = k := by omega
 rw [h1, h2, fitL, if_pos hm]
theorem fitL_stop {m : Nat} {s : Int} (h0 : 0 ≤ s) (h : s = 0 ∨ m % 10 ≠ 0) : fitL m s.toNat = (m, s.toNat) := by
 rcases h with rfl | h
 ·rfl
 ·rcases Nat.eq_zero_or_pos s.toNat with hz | hp
  ·rw [hz]; rfl
  ·obtain ⟨k, hk⟩ : ∃ k, s.toNat = k + 1 := ⟨s.toNat - 1, by omega⟩
   rw [hk, fitL, if_neg h]
def fitB (m : Nat) (s : Int) : Bool := decide ((fitL m s.toNat).1 ≤ 1000000000000000 ∧ (fitL m s.toNat).2 ≤ 6)
def fitN (neg : Bool) (m : Nat) (s : Int) : Int := if fitB m s then (if neg then -((fitL m s.toNat).1 : Int) else ((fitL m s.toNat).1 : Int)) else 0
def fitS (m : Nat) (s : Int) : Int := if fitB m s then ((fitL m s.toNat).2 : Int) else 0
theorem wrap_neg {m : Nat} (h : m ≤ 1000000000000000) : IntKind.wrap .i64 (0 - (m : Int)) = -(m : Int) := by
 rw [wrap64 (by unfold inR; omega)]; omega
def natD (n : Nat) : List UInt8 := if h : n = 0 then [] else natD (n / 10) ++ [u8 (48 + ((n % 10 : Nat) : Int))]
termination_by n
decreasing_by exact Nat.div_lt_self (Nat.pos_of_ne_zero h) (by decide)
theorem natD_zero : natD 0 = [] := by rw [natD]; simp
theorem natD_pos {n : Nat} (h : n ≠ 0) : natD n = natD (n / 10) ++ [u8 (48 + ((n % 10 : Nat) : Int))] := by rw [natD]; simp [h]
def natT (n : Nat) : List UInt8 := if n = 0 then [48] else natD n
theorem decB_bd {n s : Int} (h : decB n s = true) : 0 ≤ s ∧ s ≤ 6 ∧ -1000000000000000 ≤ n ∧ n ≤ 1000000000000000 ∧ (s = 0 ∨ n.tmod 10 ≠ 0) := by
 simp [decB] at h; omega
end Go.Proofs.YtdejnaokkdndeaaGreatDoor
namespace Go.Proofs.YtdejnaokkdndeaaGreatDoor
open Go.RowKit Go.V
open Go.Eng (inR byteAt u8 bytesV)
structure Gv where
 maxLen : Int
 more : List (Nat × List Value) := []
def tensL : List Int := [1, 10, 100, 1000, 10000, 100000, 1000000]
def powL : List Int := [1, 10, 100, 1000, 10000, 100000, 1000000, 10000000, 100000000, 1000000000, 10000000000, 100000000000, 1000000000000, 10000000000000, 100000000000000, 1000000000000000, 10000000000000000, 100000000000000000, 1000000000000000000, 10000000000000000000]
def Gl (g : Gv) : List (Nat × List Value) := (1, [.int .i64 g.maxLen]) :: (10, powL.map (Value.int .u64)) :: (5, mlen.map (Value.int .i64)) :: g.more
def SpG (g : Gv) (f : FuncId) (ins : List SV) (refs : OwnL) (out : SV) (post : OwnL) : Prop := V.Spec Tryz.prog (Gl g) f ins refs out post
theorem hmix : Tryz.prog.follows .mixedOrders = true := by kernel_rfl
section
variable {R : Wp Tryz.prog} {fr : Fr} {n : Nat} {root : Code} {Q : Exit → Act → World → Prop} {G : List (Nat × List Value)} {pids : List Nat} {now : Now} {st : V.St} {cs : List Prop}
theorem zC (hG : FrIs fr G pids) (hs : Hints) (pos : List Nat) (b : Bool) (st' : V.St) (h : goS Tryz.prog G pids n root hs 1000 now st st' = told (.cond pos b) st' cs) (hc : V.conj cs) (ht : b = true → W R fr n root Q (.code (0 :: pos)) st') (hf : b = false → W R fr n root Q (.code (1 :: pos)) st') : W R fr n root Q now st := stepC hG hmix hs pos b st' cs h hc ht hf
theorem zc (hG : FrIs fr G pids) (hs : Hints) (pos : List Nat) (b : Bool) (h : goS Tryz.prog G pids n root hs 1000 now st st = told (.cond pos b) st cs) (hc : V.conj cs) (ht : b = true → W R fr n root Q (.code (0 :: pos)) st) (hf : b = false → W R fr n root Q (.code (1 :: pos)) st) : W R fr n root Q now st := stepC hG hmix hs pos b st cs h hc ht hf
theorem zr {fn : Func} {out : SV} {post : OwnL} (hG : FrIs fr G []) (hs : Hints) (ids : List Nat) (h : goR Tryz.prog G n root hs 1000 now st fn ids = some (out, post, cs)) (hc : V.conj cs) : W R fr n root (bodyPost Tryz.prog fn (RetR fr out post)) now st := stepR' hG hmix hs ids out post h hc rfl rfl
theorem zR {fn : Func} {out : SV} {post : OwnL} (hG : FrIs fr G []) (hs : Hints) (ids : List Nat) (out' : SV) (post' : OwnL) (h : goR Tryz.prog G n root hs 1000 now st fn ids = some (out', post', cs)) (hc : V.conj cs) (ho : out' = out) (hp : post' = post) : W R fr n root (bodyPost Tryz.prog fn (RetR fr out post)) now st := stepR' hG hmix hs ids out' post' h hc ho hp
theorem zL {σ : Type} (hG : FrIs fr G pids) (hs : Hints) (pos : List Nat) (F : σ → Nat × V.St × Prop) (x0 : σ) (h : goS Tryz.prog G pids n root hs 1000 now st (F x0).2.1 = told (.loop pos) (F x0).2.1 cs) (hc : V.conj cs) (hl : isLoop root pos = true) (h0 : (F x0).2.2)
  (round : ∀ x, (F x).2.2 → W R fr n (loopBody root pos) (Exit.then (V.Handed fr n (fun x => (F x).1) (fun x => (F x).2.1) (fun x => (F x).2.2) x) (ctx R root Q pos)) (.code []) (F x).2.1) : W R fr n root Q now st :=
 stepL hG hmix hs pos (F x0).2.1 cs h hc (loopR (fun x => (F x).1) (fun x => (F x).2.1) (fun x => (F x).2.2) x0 hl h0 round)
theorem zA {σ : Type} (hG : FrIs fr G pids) (hs : Hints) (pos : List Nat) (st6 : V.St) (ss : List (Nat × Nat × Nat × Nat)) (cc : List (Nat × Nat × Nat × Nat × Nat)) (F : σ → Nat × V.St × Prop) (x0 : σ) (h : goS Tryz.prog G pids n root hs 1000 now st st6 = told (.loop pos) st6 cs) (hc : V.conj cs) (ha : adK pids ss cc st6 (F x0).2.1 = told (.loop []) (F x0).2.1 []) (hl : isLoop root pos = true) (h0 : (F x0).2.2)
  (round : ∀ x, (F x).2.2 → W R fr n (loopBody root pos) (Exit.then (V.Handed fr n (fun x => (F x).1) (fun x => (F x).2.1) (fun x => (F x).2.2) x) (ctx R root Q pos)) (.code []) (F x).2.1) : W R fr n root Q now st :=
 stepL hG hmix hs pos st6 cs h hc (stepA hG ss cc (F x0).2.1 ha (loopR (fun x => (F x).1) (fun x => (F x).2.1) (fun x => (F x).2.2) x0 hl h0 round))
theorem zD {σ : Type} {m : σ → Nat} {S : σ → V.St} {Inv : σ → Prop} {x : σ} {Q0 : Exit → Act → World → Prop} (hG : FrIs fr G pids) (hs : Hints) (y : σ) (h : goS Tryz.prog G pids n root hs 1000 now st (S y) = told (.done .normal) (S y) cs) (hc : V.conj cs) (hlt : m y < m x) (hI : Inv y) : W R fr n root (Exit.then (V.Handed fr n m S Inv x) Q0) now st := roundE hG hmix hs y cs h hc hlt hI
theorem zE {H : Act → World → Prop} {root' : Code} {pos : List Nat} (hG : FrIs fr G pids) (hs : Hints) (e : Ex) (st' : V.St) (h : goS Tryz.prog G pids n root hs 1000 now st st' = told (.done e) st' cs) (hc : V.conj cs) (he : e.isNormal = false) (hk : W R fr n root' Q (.exit pos e) st') : W R fr n root (Exit.then H (ctx R root' Q pos)) now st := leaveE hG hmix hs e st' cs h hc he hk
end
structure Cl where
 kind : Int
 s : List UInt8
 dn : Int
 ds : Int
 n : Int
 deriving DecidableEq
structure Vl where
 kind : Int
 s : List UInt8
 dn : Int
 ds : Int
 n : Int
 cols : List (List UInt8)
 rows : List (List Cl)
 deriving DecidableEq
def Cl.toV (c : Cl) : Vl := ⟨c.kind, c.s, c.dn, c.ds, c.n, [], []⟩
def strD (s : List UInt8) : List D := [.s (S s)]
def strs (l : List (List UInt8)) : List (List D) := l.map strD
def ClD (c : Cl) : List D := [.i c.kind, .s (S c.s), .i c.dn, .i c.ds, .i c.n, .sl 1 [], .sl 1 []]
def rowD (r : List Cl) : List (List D) := r.map ClD
def rows1 (r : List Cl) : List D := [.sl 7 (rowD r)]
def rowsD (l : List (List Cl)) : List (List D) := l.map rows1
def VlD (v : Vl) : List D := [.i v.kind, .s (S v.s), .i v.dn, .i v.ds, .i v.n, .sl 1 (strs v.cols), .sl 1 (rowsD v.rows)]
def valsD (l : List Vl) : List (List D) := l.map VlD
def vArg (v : Vl) : SV := .agg [.d (.i v.kind), .d (.s (S v.s)), .d (.i v.dn), .d (.i v.ds), .d (.i v.n), .d (.sl 1 (strs v.cols)), .d (.sl 1 (rowsD v.rows))]
def Cl.z : Cl := ⟨0, [], 0, 0, 0⟩
def Vl.z : Vl := ⟨0, [], 0, 0, 0, [], []⟩
theorem map_at {α β : Type} {f : α → β} {l : List α} {i : Int} (z : α) (h0 : 0 ≤ i) (h : i < (l.length : Int)) : 0 ≤ i ∧ (l.map f)[i.toNat]? = some (f (l.getD i.toNat z)) := by
 have : i.toNat < l.length := by omega
 exact ⟨h0, by simp [this]⟩
theorem map_nat {α β : Type} {f : α → β} {l : List α} {k : Nat} (z : α) (h : k < l.length) : (l.map f)[k]? = some (f (l.getD k z)) := by simp [h]
theorem S_inj {a b : List UInt8} : S a = S b ↔ a = b := by
 constructor
 ·intro h; have := congrArg (fun x => x.data.toList) h; simpa [S] using this
 ·rintro rfl; rfl
theorem S_beq (a b : List UInt8) : ((S a).toList == (S b).toList) = decide (a = b) := by rw [str_beq]; simp [S_inj]
theorem S_eqv {a b : List UInt8} : (((S a).toList == (S b).toList) = true) = (a = b) := by rw [S_beq]; simp
theorem S_eqf {a b : List UInt8} : (((S a).toList == (S b).toList) = false) = ¬ (a = b) := by rw [S_beq]; simp
section
variable {g : Gv}
theorem of_exact {f : FuncId} {ins : List SV} {out : SV} {args : List Value} {v : Value} (hi : exAll ins = some args) (ho : exT out = some v) (hk : okS out = true)
  (h : ∀ w : World, Calls Tryz.prog f args.toArray w fun e w' => e = .returned v ∧ w = w') : SpG g f ins [] out [] :=
 spec_of hi ho hk fun w _ => (h w).mono fun e w' ⟨h1, h2⟩ => ⟨h1, by subst h2; exact Below.refl _ _⟩
end
def intD (x : Int) : List D := [.i x]
def intsD (l : List Int) : List (List D) := l.map intD
theorem bytesD_snoc (acc : List UInt8) (x : Int) : bytesD acc ++ [[D.y (IntKind.wrap .u8 x)]] = bytesD (acc ++ [u8 x]) := by
 simp [bytesD, D.y, Eng.wrap_u8]
theorem bytesD_S (acc : List UInt8) : bytesD (S acc).data.toList = bytesD acc := by simp [S]
end Go.Proofs.YtdejnaokkdndeaaGreatDoor
namespace Go.Proofs.YtdejnaokkdndeaaGreatDoor
open Go.RowKit Go.V
open Go.Eng (inR byteAt u8 bytesV)
variable {g : Gv}
theorem sv_bool {a b : Bool} (h : a = b) : (SV.c (.d (.b a)) : SV) = .c (.d (.b b)) := by rw [h]
theorem empty_S (a : ByteArray) : a = S [] ↔ a.size = 0 := empty_iff a
theorem within_any (n : Int) :
  SpG g 82 [.c (.d (.i n))] [] (.c (.d (.b (decide ((-1000000000000000 : Int) ≤ n) && decide (n ≤ 1000000000000000))))) [] := by
 refine enterB 9 Tryz.func82 (by kernel_rfl) fun fr hG => ?_
 refine zR hG [] [] (.c (.d (.b ((decide ((n : Int) ≥ (-1000000000000000))) && (decide ((n : Int) ≤ 1000000000000000)))))) [] (by kernel_rfl) conj0 ?_ ?_
 ·refine sv_bool ?_
  rw [Bool.eq_iff_iff] <;> (try simp) <;> (try omega)
 ·rfl
theorem letter_any (c : Int) :
  SpG g 162 [.c (.d (.y c))] [] (.c (.d (.b (isLetter c)))) [] := by
 refine enterB 17 Tryz.func162 (by kernel_rfl) fun fr hG => ?_
 exact zr hG [] [] (by kernel_rfl) conj0
theorem decRight_ok (n s : Int) :
  SpG g 55 [.agg [.d (.i n), .d (.i s)]] [] (.c (.d (.b (decB n s)))) [] := by
 refine enterB 26 Tryz.func55 (by kernel_rfl) fun fr hG => ?_
 refine zC hG [(1, 11, .call (.c (.d (.b (decide ((-1000000000000000 : Int) ≤ n) && decide (n ≤ (1000000000000000 : Int)))))) [] [])] [1, 0, 1] (((decide ((s : Int) < 0)) || (decide ((s : Int) > 6))) || (!(decide ((-1000000000000000 : Int) ≤ n) && decide (n ≤ (1000000000000000 : Int))))) (⟨[(1, [], .c (.bx 100 0)), (2, [], .c (.d (.b false)))], [(100, .box 38 [.d (.i n), .d (.i s)])]⟩) (by kernel_rfl) (conj1 (fun (hg1 : ((decide ((s : Int) < 0)) || (decide ((s : Int) > 6))) = false) => ((within_any n : SpG g _ _ _ _ _)))) (fun hc1 => ?_) (fun hc1 => ?_)
 ·(try simp only [blS] at hc1)
  refine zR hG [] [] (.c (.d (.b false))) [] (by kernel_rfl) conj0 ?_ ?_
  ·refine sv_bool ?_
   simp only [decB]; rw [Bool.eq_iff_iff] <;> (try simp) <;> (try omega)
  ·rfl
 ·(try simp only [blS] at hc1)
  refine zR hG [] [] (.c (.d (.b ((decide ((s : Int) = 0)) || (!decide ((Int.tmod n 10 : Int) = 0)))))) [] (by kernel_rfl) (conj1 (show (decide ((s : Int) = 0)) = false → 10 ≠ (0 : Int) from (by intros; first | omega | decide | (simp only [inR, blS] at *; omega)))) ?_ ?_
  ·refine sv_bool ?_
   simp only [decB]; rw [Bool.eq_iff_iff] <;> (try simp) <;> (try omega)
  ·rfl
theorem isText_any (s : ByteArray) (hs : s.size ≤ maxLen) :
  SpG g 54 [.c (.d (.s s))] [] (.c (.d (.b (isTextB s)))) [] := by
 unfold maxLen at hs
 refine enterB 23 Tryz.func54 (by kernel_rfl) fun fr hG => ?_
 refine zL hG [] [0, 1, 0, 1] (fun (zz : Nat) => match zz with | k => (s.size - k, ⟨[(0, [], .c (.d (.s s))), (2, [], .c (.d (.b false))), (5, [], .c (.d (.i ((s).size : Int)))), (6, [], .c (.d (.i (k : Int))))], []⟩, k ≤ s.size ∧ (bs s).all okByte = ((bs s).drop k).all okByte)) 0 (by kernel_rfl) conj0 (by kernel_rfl) ?_ ?_
 ·exact ⟨Nat.zero_le _, rfl⟩
 rintro k ⟨hk, hall⟩
 refine zc hG [] [0, 1] (decide (((k : Int) : Int) < ((s).size : Int))) (by kernel_rfl) conj0 (fun hc2 => ?_) (fun hc2 => ?_)
 ·(try simp only [blS] at hc2)
  refine zc hG [] [1, 1, 0, 0, 1, 1] ((decide ((byteAt (s) (k : Int) : Int) < 32)) || (decide ((byteAt (s) (k : Int) : Int) > 126))) (by kernel_rfl) (conjC (show (0 : Int) ≤ (k : Int) ∧ (k : Int) < ((s).size : Int) from (by intros; first | omega | decide | (simp only [inR, blS] at *; omega))) (conj1 (show (decide ((byteAt (s) (k : Int) : Int) < 32)) = false → (0 : Int) ≤ (k : Int) ∧ (k : Int) < ((s).size : Int) from (by intros; first | omega | decide | (simp only [inR, blS] at *; omega))))) (fun hc3 => ?_) (fun hc3 => ?_)
  ·(try simp only [blS] at hc3)
   refine zE hG [] .ret (⟨[(0, [], .c (.d (.s s))), (2, [], .c (.d (.b false)))], []⟩) (by kernel_rfl) conj0 rfl ?_
   refine zR hG [] [] (.c (.d (.b false))) [] (by kernel_rfl) conj0 ?_ ?_
   ·refine sv_bool ?_
    rw [isTextB, hall, bs_drop s k (by omega)]; simp only [byteAt_nat] at hc3; simp [okByte]; omega
   ·rfl
  ·(try simp only [blS] at hc3)
   refine zD hG [] (k + 1) (by kernel_rfl) (conj1 (show inR ((k : Int) + 1) from (by intros; first | omega | decide | (simp only [inR, blS] at *; omega)))) ?_ ?_
   ·(try dsimp only); omega
   ·exact ⟨by omega, by rw [hall, bs_drop s k (by omega)]; simp only [byteAt_nat] at hc3; simp [okByte]; omega⟩
 ·(try simp only [blS] at hc2)
  refine zE hG [] (.exit 0) (⟨[(0, [], .c (.d (.s s))), (2, [], .c (.d (.b false)))], []⟩) (by kernel_rfl) conj0 rfl ?_
  refine zR hG [] [] (.c (.d (.b (decide ((((s).size : Int) : Int) ≤ 200))))) [] (by kernel_rfl) conj0 ?_ ?_
  ·refine sv_bool ?_
   rw [isTextB, hall, bs_nil s k (by omega)]; simp
  ·rfl
theorem isName_any (s : ByteArray) :
  SpG g 83 [.c (.d (.s s))] [] (.c (.d (.b (isNameB s)))) [] := by
 refine enterB 46 Tryz.func83 (by kernel_rfl) fun fr hG => ?_
 refine zC hG [(1, 10, .call (.c (.d (.b (isLetter (byteAt (s) 0))))) [] [])] [1, 0, 1] ((((s).toList == (S []).toList) || (decide ((((s).size : Int) : Int) > 20))) || (!(isLetter (byteAt (s) 0)))) (⟨[(0, [], .c (.d (.s s))), (2, [], .c (.d (.b false)))], []⟩) (by kernel_rfl) (conjC (show (((s).toList == (S []).toList) || (decide ((((s).size : Int) : Int) > 20))) = false → (0 : Int) ≤ 0 ∧ 0 < ((s).size : Int) from (by intros; first | omega | decide | (simp only [inR, blS, str_beq, empty_S] at *; omega))) (conj1 (fun (hg1 : (((s).toList == (S []).toList) || (decide ((((s).size : Int) : Int) > 20))) = false) => ((letter_any (byteAt (s) 0) : SpG g _ _ _ _ _))))) (fun hc1 => ?_) (fun hc1 => ?_)
 ·(try simp only [blS, str_beq, empty_S] at hc1)
  refine zR hG [] [] (.c (.d (.b false))) [] (by kernel_rfl) conj0 ?_ ?_
  ·exact sv_bool (nameB_head hc1).symm
  ·rfl
 ·(try simp only [blS, str_beq, empty_S] at hc1)
  refine zL hG [] [0, 1, 0, 1, 1] (fun (zz : Nat) => match zz with | k => (s.size - k, ⟨[(0, [], .c (.d (.s s))), (2, [], .c (.d (.b false))), (18, [], .c (.d (.i ((s).size : Int)))), (19, [], .c (.d (.i (k : Int))))], []⟩, k ≤ s.size ∧ (bs s).all tailByte = ((bs s).drop k).all tailByte)) 0 (by kernel_rfl) conj0 (by kernel_rfl) ?_ ?_
  ·exact ⟨Nat.zero_le _, rfl⟩
  rintro k ⟨hk, hall⟩
  refine zc hG [] [0, 1] (decide (((k : Int) : Int) < ((s).size : Int))) (by kernel_rfl) conj0 (fun hc3 => ?_) (fun hc3 => ?_)
  ·(try simp only [blS, str_beq, empty_S] at hc3)
   refine zc hG [(6, 3, .call (.c (.d (.b (isLetter (byteAt (s) (k : Int)))))) [] [])] [1, 1, 0, 0, 1, 1] (((!(isLetter (byteAt (s) (k : Int)))) && (!decide ((byteAt (s) (k : Int) : Int) = 95))) && ((decide ((byteAt (s) (k : Int) : Int) < 48)) || (decide ((byteAt (s) (k : Int) : Int) > 57)))) (by kernel_rfl) (conjC (show (0 : Int) ≤ (k : Int) ∧ (k : Int) < ((s).size : Int) from (by intros; first | omega | decide | (simp only [inR, blS, str_beq, empty_S] at *; omega))) (conjC ((letter_any (byteAt (s) (k : Int)) : SpG g _ _ _ _ _)) (conjC (show (!(isLetter (byteAt (s) (k : Int)))) = true → (0 : Int) ≤ (k : Int) ∧ (k : Int) < ((s).size : Int) from (by intros; first | omega | decide | (simp only [inR, blS, str_beq, empty_S] at *; omega))) (conjC (show ((!(isLetter (byteAt (s) (k : Int)))) && (!decide ((byteAt (s) (k : Int) : Int) = 95))) = true → (0 : Int) ≤ (k : Int) ∧ (k : Int) < ((s).size : Int) from (by intros; first | omega | decide | (simp only [inR, blS, str_beq, empty_S] at *; omega))) (conj1 (show (decide ((byteAt (s) (k : Int) : Int) < 48)) = false → ((!(isLetter (byteAt (s) (k : Int)))) && (!decide ((byteAt (s) (k : Int) : Int) = 95))) = true → (0 : Int) ≤ (k : Int) ∧ (k : Int) < ((s).size : Int) from (by intros; first | omega | decide | (simp only [inR, blS, str_beq, empty_S] at *; omega)))))))) (fun hc4 => ?_) (fun hc4 => ?_)
   ·(try simp only [blS, str_beq, empty_S] at hc4)
    refine zE hG [] .ret (⟨[(2, [], .c (.d (.b false)))], []⟩) (by kernel_rfl) conj0 rfl ?_
    refine zR hG [] [] (.c (.d (.b false))) [] (by kernel_rfl) conj0 ?_ ?_
    ·refine sv_bool (nameB_not ?_).symm
     rw [hall, bs_drop s k (by omega)]
     simp only [byteAt_nat] at hc4
     rw [List.all_cons, tailByte, tail_not hc4, Bool.false_and]
    ·rfl
   ·(try simp only [blS, str_beq, empty_S] at hc4)
    refine zD hG [] (k + 1) (by kernel_rfl) (conj1 (show inR ((k : Int) + 1) from (by intros; first | omega | decide | (simp only [inR, blS, str_beq, empty_S] at *; omega)))) ?_ ?_
    ·(try dsimp only); omega
    ·refine ⟨by omega, ?_⟩
     rw [hall, bs_drop s k (by omega)]
     simp only [byteAt_nat] at hc4
     rw [List.all_cons, tailByte, tail_of hc4, Bool.true_and]
  ·(try simp only [blS, str_beq, empty_S] at hc3)
   refine zE hG [] (.exit 0) (⟨[(2, [], .c (.d (.b false)))], []⟩) (by kernel_rfl) conj0 rfl ?_
   refine zR hG [] [] (.c (.d (.b true))) [] (by kernel_rfl) conj0 ?_ ?_
   ·exact sv_bool (nameB_yes hc1 (by rw [hall, bs_nil s k (by omega)]; rfl)).symm
   ·rfl
end Go.Proofs.YtdejnaokkdndeaaGreatDoor
namespace Go.Proofs.YtdejnaokkdndeaaGreatDoor
open Go.RowKit Go.V
open Go.Eng (inR byteAt u8 bytesV)
variable {g : Gv}
def errI (v : Vl) : Int := if v.kind = 0 then (if v.n = 0 then 16 else v.n) else 0
def bareB (v : Vl) : Bool := decide (v.s = []) && (v.dn == 0 && v.ds == 0) && decide (v.n = 0) && decide (v.cols = []) && decide (v.rows = [])
def isNameL (l : List UInt8) : Bool := isNameB (S l)
def isTextL (l : List UInt8) : Bool := isTextB (S l)
theorem isName_ok (l : List UInt8) : SpG g 83 [.c (.d (.s (S l)))] [] (.c (.d (.b (isNameL l)))) [] := isName_any (S l)
theorem isText_ok (l : List UInt8) (h : l.length ≤ maxLen) : SpG g 54 [.c (.d (.s (S l)))] [] (.c (.d (.b (isTextL l)))) [] := isText_any (S l) (by rw [S_size]; exact h)
def idxI (l : List (List UInt8)) (x : List UInt8) : Int := match l.findIdx? (fun y => decide (x = y)) with
 | some k => (k : Int)
 | none => -1
theorem idxI_at {l : List (List UInt8)} {k : Nat} {x : List UInt8} (hk : k < l.length) (hn : ∀ j, j < k → x ≠ l.getD j []) (hx : x = l.getD k []) : idxI l x = (k : Int) := by
 have : l.findIdx? (fun y => decide (x = y)) = some k := by
  rw [List.findIdx?_eq_some_iff_getElem]
  refine ⟨hk, by simpa [hk] using hx, fun j hj => ?_⟩
  have := hn j hj
  simpa [show j < l.length by omega] using this
 rw [idxI, this]
theorem idxI_none {l : List (List UInt8)} {x : List UInt8} (hn : ∀ j, j < l.length → x ≠ l.getD j []) : idxI l x = -1 := by
 have : l.findIdx? (fun y => decide (x = y)) = none := by
  rw [List.findIdx?_eq_none_iff]
  intro y hy
  obtain ⟨j, hj, rfl⟩ := List.mem_iff_getElem.1 hy
  have := hn j hj
  simpa [hj] using this
 rw [idxI, this]
theorem idxI_nonneg {l : List (List UInt8)} {x : List UInt8} : decide (idxI l x ≥ 0) = decide (x ∈ l) := by
 unfold idxI
 cases h : l.findIdx? (fun y => decide (x = y)) with
 | none =>
  rw [List.findIdx?_eq_none_iff] at h
  have : x ∉ l := fun hm => by have := h x hm; simp at this
  simp [this]
 | some k =>
  obtain ⟨hk, h1, _⟩ := List.findIdx?_eq_some_iff_getElem.1 h
  simp only [decide_eq_true_eq] at h1
  have : x ∈ l := by rw [h1]; exact List.getElem_mem hk
  simp [this]
def allR (n : Nat) (p : Nat → Bool) : Bool := (List.range n).all p
theorem allR_true {n : Nat} {p : Nat → Bool} (h : ∀ i, i < n → p i = true) : allR n p = true := by
 simp only [allR, List.all_eq_true, List.mem_range]; exact h
theorem allR_false {n : Nat} {p : Nat → Bool} {i : Nat} (hi : i < n) (h : p i = false) : allR n p = false := by
 cases hh : allR n p with
 | false => rfl
 | true => simp only [allR, List.all_eq_true, List.mem_range] at hh; rw [hh i hi] at h; cases h
theorem allR_get {n : Nat} {p : Nat → Bool} (h : allR n p = true) {i : Nat} (hi : i < n) : p i = true := by
 simp only [allR, List.all_eq_true, List.mem_range] at h; exact h i hi
theorem below_succ {k : Nat} {q : Nat → Prop} (h : ∀ j, j < k → q j) (hk : q k) : ∀ j, j < k + 1 → q j := fun j hj => by
 rcases Nat.lt_succ_iff_lt_or_eq.1 hj with h' | h'
 ·exact h j h'
 ·rw [h']; exact hk
def rightK (T : Bool) (v : Vl) : Bool :=
 if v.kind = 0 then decide (0 ≤ v.n) && decide (v.n ≤ 99) && bareB { v with n := 0 }
 else if v.kind = 1 then isTextL v.s && bareB { v with s := [] }
 else if v.kind = 2 then decB v.dn v.ds && bareB { v with dn := 0, ds := 0 }
 else if v.kind = 3 then decide (0 ≤ v.n) && decide (v.n ≤ 3652058) && bareB { v with n := 0 }
 else if v.kind = 4 then (decide (v.n = 0) || decide (v.n = 1)) && bareB { v with n := 0 }
 else if v.kind = 5 then T && bareB { v with cols := [], rows := [] }
 else false
def nameAt (cols : List (List UInt8)) (i : Nat) : Bool := isNameL (cols.getD i []) && !decide (cols.getD i [] ∈ cols.take i)
def cellAt (r : List Cl) (j : Nat) : Bool := !decide ((r.getD j Cl.z).kind = 5) && rightK false (r.getD j Cl.z).toV
def rowAt (cols : List (List UInt8)) (rows : List (List Cl)) (i : Nat) : Bool := decide ((rows.getD i []).length = cols.length) && allR (rows.getD i []).length (cellAt (rows.getD i []))
def tableB (cols : List (List UInt8)) (rows : List (List Cl)) : Bool := decide (cols.length ≤ 8) && decide (rows.length ≤ 100) && allR cols.length (nameAt cols) && allR rows.length (rowAt cols rows)
def rightB (v : Vl) : Bool := rightK (tableB v.cols v.rows) v
structure Vl.fit (v : Vl) : Prop where
 s : v.s.length ≤ maxLen
 cols : ∀ t, t ∈ v.cols → t.length ≤ maxLen
 cells : ∀ r, r ∈ v.rows → ∀ c, c ∈ r → c.s.length ≤ maxLen
def clArg (c : Cl) : SV := .agg [.d (.i c.kind), .d (.s (S c.s)), .d (.i c.dn), .d (.i c.ds), .d (.i c.n), .d (.sl 1 []), .d (.sl 1 [])]
theorem getD_mem {α : Type} {l : List α} {k : Nat} {z : α} (h : k < l.length) : l.getD k z ∈ l := by simp [h]
theorem tableB_long {cols : List (List UInt8)} {rows : List (List Cl)} (h : (cols.length : Int) > 8 ∨ (rows.length : Int) > 100) : tableB cols rows = false := by
 have : (decide (cols.length ≤ 8) && decide (rows.length ≤ 100)) = false := by
  rcases h with h | h
  ·simp; omega
  ·simp; omega
 simp only [tableB, this, Bool.false_and]
theorem tableB_name {cols : List (List UInt8)} {rows : List (List Cl)} {k : Nat} (hk : k < cols.length) (h : nameAt cols k = false) : tableB cols rows = false := by
 rw [tableB, allR_false hk h]; simp
theorem tableB_row {cols : List (List UInt8)} {rows : List (List Cl)} {k : Nat} (hk : k < rows.length) (h : rowAt cols rows k = false) : tableB cols rows = false := by
 rw [tableB, allR_false (p := rowAt cols rows) hk h]; simp
theorem tableB_ok {cols : List (List UInt8)} {rows : List (List Cl)} (h : ¬ (cols.length : Int) > 8 ∧ ¬ (rows.length : Int) > 100) (hn : ∀ j, j < cols.length → nameAt cols j = true) (hr : ∀ j, j < rows.length → rowAt cols rows j = true) : tableB cols rows = true := by
 rw [tableB, allR_true hn, allR_true hr]; simp; omega
theorem rowAt_len {cols : List (List UInt8)} {rows : List (List Cl)} {i : Nat} (h : ¬ ((rows.getD i []).length : Int) = (cols.length : Int)) : rowAt cols rows i = false := by
 have : ¬ (rows.getD i []).length = cols.length := by omega
 simp only [rowAt, this, decide_false, Bool.false_and]
theorem rowAt_cell {cols : List (List UInt8)} {rows : List (List Cl)} {i m : Nat} (hm : m < (rows.getD i []).length) (h : cellAt (rows.getD i []) m = false) : rowAt cols rows i = false := by
 rw [rowAt, allR_false hm h]; simp
theorem error_ok (v : Vl) :
  SpG g 49 [.agg [.d (.i v.kind), .d (.s (S v.s)), .d (.i v.dn), .d (.i v.ds), .d (.i v.n), .d (.sl 1 (strs v.cols)), .d (.sl 1 (rowsD v.rows))]] [] (.c (.d (.i (errI v)))) [] := by
 refine enterB 13 Tryz.func49 (by kernel_rfl) fun fr hG => ?_
 refine zC hG [] [1, 0, 0, 1] (!decide ((v.kind : Int) = 0)) (⟨[(1, [], .c (.bx 100 0)), (2, [], .c (.d (.i 0)))], [(100, .box 42 [.d (.i v.kind), .d (.s (S v.s)), .d (.i v.dn), .d (.i v.ds), .d (.i v.n), .d (.sl 1 (strs v.cols)), .d (.sl 1 (rowsD v.rows))])]⟩) (by kernel_rfl) conj0 (fun hc1 => ?_) (fun hc1 => ?_)
 ·(try simp only [blS] at hc1)
  refine zR hG [] [] (.c (.d (.i 0))) [] (by kernel_rfl) conj0 ?_ ?_
  ·simp [errI, hc1]
  ·rfl
 ·(try simp only [blS] at hc1)
  refine zc hG [] [1, 1, 1, 0, 0, 1] (decide ((v.n : Int) = 0)) (by kernel_rfl) conj0 (fun hc2 => ?_) (fun hc2 => ?_)
  ·(try simp only [blS] at hc2)
   refine zR hG [] [] (.c (.d (.i 16))) [] (by kernel_rfl) conj0 ?_ ?_
   ·simp [errI, hc2, hc1]
   ·rfl
  ·(try simp only [blS] at hc2)
   refine zR hG [] [] (.c (.d (.i v.n))) [] (by kernel_rfl) conj0 ?_ ?_
   ·simp [errI, hc2, hc1]
   ·rfl
theorem bare_ok (v : Vl) :
  SpG g 53 [.agg [.d (.i v.kind), .d (.s (S v.s)), .d (.i v.dn), .d (.i v.ds), .d (.i v.n), .d (.sl 1 (strs v.cols)), .d (.sl 1 (rowsD v.rows))]] [] (.c (.d (.b (bareB v)))) [] := by
 refine enterB 29 Tryz.func53 (by kernel_rfl) fun fr hG => ?_
 refine zR hG [] [] (.c (.d (.b ((((((S v.s).toList == (S []).toList) && (((v.dn : Int) == 0) && ((v.ds : Int) == 0))) && (decide ((v.n : Int) = 0))) && (decide ((((strs v.cols).length : Int) : Int) = 0))) && (decide ((((rowsD v.rows).length : Int) : Int) = 0)))))) [] (by kernel_rfl) conj0 ?_ ?_
 ·rw [S_beq]; simp [bareB, strs, rowsD]
 ·rfl
def zq0 := And.intro @List.length_map.{0, 0} (And.intro @S_eqf (And.intro @S_eqv (And.intro @blS (And.intro @rowD.eq_1 (And.intro @rowsD.eq_1 (And.intro @strs.eq_1 (@valsD.eq_1)))))))
def zq1 := And.intro @List.length_map.{0, 0} (@strs.eq_1)
theorem index_ok (l : List (List UInt8)) (x : List UInt8) :
  SpG g 163 [.c (.d (.sl 1 (strs l))), .c (.d (.s (S x)))] [] (.c (.d (.i (idxI l x)))) [] := by
 refine enterB 19 Tryz.func163 (by kernel_rfl) fun fr hG => ?_
 refine stepLen 0 rfl fun hl => ?_
 refine zL hG [] [0, 1, 0, 1] (fun (zz : Nat) => match zz with | k => (l.length - k, ⟨[(0, [], .c (.d (.sl 1 (strs l)))), (1, [], .c (.d (.s (S x)))), (4, [], .c (.d (.i 0))), (7, [], .c (.d (.i ((strs l).length : Int)))), (8, [], .c (.d (.i (k : Int))))], []⟩, k ≤ l.length ∧ ∀ j, j < k → x ≠ l.getD j [])) 0 (by kernel_rfl) conj0 (by kernel_rfl) ?_ ?_
 ·exact ⟨Nat.zero_le _, fun j hj => by omega⟩
 rintro k ⟨hk, hn⟩
 refine zc hG [] [0, 1] (decide (((k : Int) : Int) < ((strs l).length : Int))) (by kernel_rfl) conj0 (fun hc2 => ?_) (fun hc2 => ?_)
 ·(try simp only [zq0] at hc2)
  refine zC hG [(4, 3, .elem (strD ((l).getD k [])))] [1, 1, 0, 0, 1, 1] ((S x).toList == (S ((l).getD k [])).toList) (⟨[(0, [], .c (.d (.sl 1 (strs l)))), (1, [], .c (.d (.s (S x)))), (4, [], .c (.d (.i 0))), (5, [], .c (.d (.i (k : Int)))), (7, [], .c (.d (.i ((strs l).length : Int)))), (8, [], .c (.d (.i (k : Int))))], []⟩) (by kernel_rfl) (conj1 (show (0 : Int) ≤ (k : Int) ∧ (strs l)[k]? = some (strD ((l).getD k [])) from (by intros; exact map_at [] (by omega) (by (try simp only [zq1] at *); omega)))) (fun hc3 => ?_) (fun hc3 => ?_)
  ·(try simp only [zq0] at hc3)
   refine zE hG [] .ret (⟨[(4, [], .c (.d (.i (k : Int))))], []⟩) (by kernel_rfl) conj0 rfl ?_
   refine zR hG [] [] (.c (.d (.i (k : Int)))) [] (by kernel_rfl) conj0 ?_ ?_
   ·rw [idxI_at (by omega) hn (by simpa using hc3)]
   ·rfl
  ·(try simp only [zq0] at hc3)
   refine zD hG [] (k + 1) (by kernel_rfl) (conj1 (show inR ((k : Int) + 1) from (by (try simp only [strs, List.length_map, inR, maxLen] at *); omega))) ?_ ?_
   ·(try simp only [zq1] at *); (try dsimp only); omega
   ·exact ⟨by omega, fun j hj => by rcases Nat.lt_succ_iff_lt_or_eq.1 hj with h | h; (· exact hn j h); rw [h]; simpa using hc3⟩
 ·(try simp only [zq0] at hc2)
  refine zE hG [] (.exit 0) (⟨[(4, [], .c (.d (.i 0)))], []⟩) (by kernel_rfl) conj0 rfl ?_
  refine zR hG [] [] (.c (.d (.i (-1)))) [] (by kernel_rfl) conj0 ?_ ?_
  ·rw [idxI_none (fun j hj => hn j (by omega))]
  ·rfl
theorem contains_ok (l : List (List UInt8)) (x : List UInt8) :
  SpG g 84 [.c (.d (.sl 1 (strs l))), .c (.d (.s (S x)))] [] (.c (.d (.b (decide (x ∈ l))))) [] := by
 refine enterB 9 Tryz.func84 (by kernel_rfl) fun fr hG => ?_
 refine zR hG [(1, 2, .call (.c (.d (.i (idxI (l) (x))))) [] [])] [] (.c (.d (.b (decide ((idxI (l) (x) : Int) ≥ 0))))) [] (by kernel_rfl) (conj1 ((index_ok (l) (x) : SpG g _ _ _ _ _))) ?_ ?_
 ·rw [idxI_nonneg]
 ·rfl
theorem contains_at {es : List (List D)} {l : List (List UInt8)} (h : es = strs l) (x : List UInt8) : SpG g 84 [.c (.d (.sl 1 es)), .c (.d (.s (S x)))] [] (.c (.d (.b (decide (x ∈ l))))) [] := by subst h; exact contains_ok l x
theorem right_of (v : Vl) (T : Bool) (hs : v.s.length ≤ maxLen) (hT : SpG g 56 [.c (.d (.sl 1 (strs v.cols))), .c (.d (.sl 1 (rowsD v.rows)))] [] (.c (.d (.b T))) []) :
  SpG g 20 [.agg [.d (.i v.kind), .d (.s (S v.s)), .d (.i v.dn), .d (.i v.ds), .d (.i v.n), .d (.sl 1 (strs v.cols)), .d (.sl 1 (rowsD v.rows))]] [] (.c (.d (.b (rightK T v)))) [] := by
 refine enterB 86 Tryz.func20 (by kernel_rfl) fun fr hG => ?_
 refine zC hG [] [1, 0, 1, 0, 1, 1] (decide ((v.kind : Int) = 0)) (⟨[(1, [], .c (.bx 100 0)), (2, [], .c (.d (.b false))), (3, [], .c (.bx 201 0)), (6, [], .c (.d (.i v.kind)))], [(100, .box 42 [.d (.i v.kind), .d (.s (S v.s)), .d (.i v.dn), .d (.i v.ds), .d (.i v.n), .d (.sl 1 (strs v.cols)), .d (.sl 1 (rowsD v.rows))]), (201, .box 42 [.d (.i v.kind), .d (.s (S v.s)), .d (.i v.dn), .d (.i v.ds), .d (.i v.n), .d (.sl 1 (strs v.cols)), .d (.sl 1 (rowsD v.rows))])]⟩) (by kernel_rfl) conj0 (fun hc1 => ?_) (fun hc1 => ?_)
 ·(try simp only [blS] at hc1)
  refine zR hG [(5, 10, .call (.c (.d (.b (bareB (⟨v.kind, v.s, v.dn, v.ds, 0, v.cols, v.rows⟩ : Vl))))) [] [])] [] (.c (.d (.b (((decide ((v.n : Int) ≥ 0)) && (decide ((v.n : Int) ≤ 99))) && (bareB (⟨v.kind, v.s, v.dn, v.ds, 0, v.cols, v.rows⟩ : Vl)))))) [] (by kernel_rfl) (conj1 (fun (hg1 : ((decide ((v.n : Int) ≥ 0)) && (decide ((v.n : Int) ≤ 99))) = true) => ((bare_ok (⟨v.kind, v.s, v.dn, v.ds, 0, v.cols, v.rows⟩ : Vl) : SpG g _ _ _ _ _)))) ?_ ?_
  ·simp [rightK, *]
  ·rfl
 ·(try simp only [blS] at hc1)
  refine zc hG [] [1, 1, 1, 0, 1, 0, 1, 1] (decide ((v.kind : Int) = 1)) (by kernel_rfl) conj0 (fun hc2 => ?_) (fun hc2 => ?_)
  ·(try simp only [blS] at hc2)
   refine zR hG [(8, 2, .call (.c (.d (.b (isTextL (v.s))))) [] []), (8, 5, .call (.c (.d (.b (bareB (⟨v.kind, [], v.dn, v.ds, v.n, v.cols, v.rows⟩ : Vl))))) [] [])] [] (.c (.d (.b ((isTextL (v.s)) && (bareB (⟨v.kind, [], v.dn, v.ds, v.n, v.cols, v.rows⟩ : Vl)))))) [] (by kernel_rfl) (conjC ((isText_ok (v.s) (by assumption) : SpG g _ _ _ _ _)) (conj1 (fun (hg1 : (isTextL (v.s)) = true) => ((bare_ok (⟨v.kind, [], v.dn, v.ds, v.n, v.cols, v.rows⟩ : Vl) : SpG g _ _ _ _ _))))) ?_ ?_
   ·simp [rightK, *]
   ·rfl
  ·(try simp only [blS] at hc2)
   refine zc hG [] [1, 1, 1, 1, 1, 0, 1, 0, 1, 1] (decide ((v.kind : Int) = 2)) (by kernel_rfl) conj0 (fun hc3 => ?_) (fun hc3 => ?_)
   ·(try simp only [blS] at hc3)
    refine zR hG [(11, 2, .call (.c (.d (.b (decB v.dn v.ds)))) [] []), (11, 5, .call (.c (.d (.b (bareB (⟨v.kind, v.s, 0, 0, v.n, v.cols, v.rows⟩ : Vl))))) [] [])] [] (.c (.d (.b ((decB v.dn v.ds) && (bareB (⟨v.kind, v.s, 0, 0, v.n, v.cols, v.rows⟩ : Vl)))))) [] (by kernel_rfl) (conjC ((decRight_ok v.dn v.ds : SpG g _ _ _ _ _)) (conj1 (fun (hg1 : (decB v.dn v.ds) = true) => ((bare_ok (⟨v.kind, v.s, 0, 0, v.n, v.cols, v.rows⟩ : Vl) : SpG g _ _ _ _ _))))) ?_ ?_
    ·simp [rightK, *]
    ·rfl
   ·(try simp only [blS] at hc3)
    refine zc hG [] [1, 1, 1, 1, 1, 1, 1, 0, 1, 0, 1, 1] (decide ((v.kind : Int) = 3)) (by kernel_rfl) conj0 (fun hc4 => ?_) (fun hc4 => ?_)
    ·(try simp only [blS] at hc4)
     refine zR hG [(14, 10, .call (.c (.d (.b (bareB (⟨v.kind, v.s, v.dn, v.ds, 0, v.cols, v.rows⟩ : Vl))))) [] [])] [] (.c (.d (.b (((decide ((v.n : Int) ≥ 0)) && (decide ((v.n : Int) ≤ 3652058))) && (bareB (⟨v.kind, v.s, v.dn, v.ds, 0, v.cols, v.rows⟩ : Vl)))))) [] (by kernel_rfl) (conj1 (fun (hg1 : ((decide ((v.n : Int) ≥ 0)) && (decide ((v.n : Int) ≤ 3652058))) = true) => ((bare_ok (⟨v.kind, v.s, v.dn, v.ds, 0, v.cols, v.rows⟩ : Vl) : SpG g _ _ _ _ _)))) ?_ ?_
     ·simp [rightK, *]
     ·rfl
    ·(try simp only [blS] at hc4)
     refine zc hG [] [1, 1, 1, 1, 1, 1, 1, 1, 1, 0, 1, 0, 1, 1] (decide ((v.kind : Int) = 4)) (by kernel_rfl) conj0 (fun hc5 => ?_) (fun hc5 => ?_)
     ·(try simp only [blS] at hc5)
      refine zR hG [(17, 10, .call (.c (.d (.b (bareB (⟨v.kind, v.s, v.dn, v.ds, 0, v.cols, v.rows⟩ : Vl))))) [] [])] [] (.c (.d (.b (((decide ((v.n : Int) = 0)) || (decide ((v.n : Int) = 1))) && (bareB (⟨v.kind, v.s, v.dn, v.ds, 0, v.cols, v.rows⟩ : Vl)))))) [] (by kernel_rfl) (conj1 (fun (hg1 : ((decide ((v.n : Int) = 0)) || (decide ((v.n : Int) = 1))) = true) => ((bare_ok (⟨v.kind, v.s, v.dn, v.ds, 0, v.cols, v.rows⟩ : Vl) : SpG g _ _ _ _ _)))) ?_ ?_
      ·simp [rightK, *]
      ·rfl
     ·(try simp only [blS] at hc5)
      refine zC hG [] [1, 1, 1, 1, 1, 1, 1, 1, 1, 1, 1, 0, 1, 0, 1, 1] (decide ((v.kind : Int) = 5)) (⟨[(1, [], .c (.bx 100 0)), (2, [], .c (.d (.b false))), (3, [], .c (.bx 201 0))], [(100, .box 42 [.d (.i v.kind), .d (.s (S v.s)), .d (.i v.dn), .d (.i v.ds), .d (.i v.n), .d (.sl 1 (strs v.cols)), .d (.sl 1 (rowsD v.rows))]), (201, .box 42 [.d (.i v.kind), .d (.s (S v.s)), .d (.i v.dn), .d (.i v.ds), .d (.i v.n), .d (.sl 1 (strs v.cols)), .d (.sl 1 (rowsD v.rows))])]⟩) (by kernel_rfl) conj0 (fun hc6 => ?_) (fun hc6 => ?_)
      ·(try simp only [blS] at hc6)
       refine zR hG [(20, 4, .call (.c (.d (.b T))) [] []), (20, 7, .call (.c (.d (.b (bareB (⟨v.kind, v.s, v.dn, v.ds, v.n, [], []⟩ : Vl))))) [] [])] [] (.c (.d (.b (T && (bareB (⟨v.kind, v.s, v.dn, v.ds, v.n, [], []⟩ : Vl)))))) [] (by kernel_rfl) (conjC ((hT : SpG g _ _ _ _ _)) (conj1 (fun (hg1 : T = true) => ((spec_mask (ins := [.agg [.d (.i v.kind), .d (.s (S v.s)), .d (.i v.dn), .d (.i v.ds), .d (.i v.n), .d (.nil), .d (.nil)]]) [[none, none, none, none, none, some 1, some 1]] (bare_ok (⟨v.kind, v.s, v.dn, v.ds, v.n, [], []⟩ : Vl)) : SpG g _ _ _ _ _))))) ?_ ?_
       ·simp [rightK, *]
       ·rfl
      ·(try simp only [blS] at hc6)
       refine zR hG [] [] (.c (.d (.b false))) [] (by kernel_rfl) conj0 ?_ ?_
       ·simp [rightK, *]
       ·rfl
def zq2 := And.intro @List.length_map.{0, 0} (And.intro @Go.Eng.inR.eq_1 (And.intro @maxLen.eq_1 (And.intro @rowD.eq_1 (And.intro @rowsD.eq_1 (@strs.eq_1)))))
def zq3 := And.intro @List.length_map.{0, 0} (And.intro @rowD.eq_1 (And.intro @rowsD.eq_1 (And.intro @strs.eq_1 (@valsD.eq_1))))
theorem rightTable_of (cols : List (List UInt8)) (rows : List (List Cl)) (hR : ∀ c : Cl, (∃ r ∈ rows, c ∈ r) → ¬ c.kind = 5 → SpG g 20 [clArg c] [] (.c (.d (.b (rightK false c.toV)))) []) :
  SpG g 56 [.c (.d (.sl 1 (strs cols))), .c (.d (.sl 1 (rowsD rows)))] [] (.c (.d (.b (tableB cols rows)))) [] := by
 refine enterB 64 Tryz.func56 (by kernel_rfl) fun fr hG => ?_
 refine stepLen 0 rfl fun hl0 => ?_
 refine stepLen 1 rfl fun hl1 => ?_
 refine zC hG [] [1, 0, 1] ((decide ((((strs cols).length : Int) : Int) > 8)) || (decide ((((rowsD rows).length : Int) : Int) > 100))) (⟨[(0, [], .c (.d (.sl 1 (strs cols)))), (1, [], .c (.d (.sl 1 (rowsD rows)))), (4, [], .c (.d (.b false)))], []⟩) (by kernel_rfl) conj0 (fun hc1 => ?_) (fun hc1 => ?_)
 ·(try simp only [zq0] at hc1)
  refine zR hG [] [] (.c (.d (.b false))) [] (by kernel_rfl) conj0 ?_ ?_
  ·rw [tableB_long hc1]
  ·rfl
 ·(try simp only [zq0] at hc1)
  refine zL hG [] [0, 1, 0, 1, 1] (fun (zz : Nat) => match zz with | k => (cols.length - k, ⟨[(0, [], .c (.d (.sl 1 (strs cols)))), (1, [], .c (.d (.sl 1 (rowsD rows)))), (4, [], .c (.d (.b false))), (19, [], .c (.d (.sl 1 (strs cols)))), (20, [], .c (.d (.i ((strs cols).length : Int)))), (21, [], .c (.d (.i (k : Int))))], []⟩, k ≤ cols.length ∧ ∀ j, j < k → nameAt cols j = true)) 0 (by kernel_rfl) conj0 (by kernel_rfl) ?_ ?_
  ·exact ⟨Nat.zero_le _, fun j hj => by omega⟩
  rintro k ⟨hk, hn⟩
  refine zc hG [] [0, 1] (decide (((k : Int) : Int) < ((strs cols).length : Int))) (by kernel_rfl) conj0 (fun hc3 => ?_) (fun hc3 => ?_)
  ·(try simp only [zq0] at hc3)
   refine zc hG [(5, 1, .elem (strD ((cols).getD k []))), (6, 1, .call (.c (.d (.b (isNameL ((cols).getD k []))))) [] []), (6, 8, .call (.c (.d (.b (decide (((cols).getD k []) ∈ (((cols).take k).drop 0)))))) [] [])] [1, 1, 0, 0, 1, 1] ((!(isNameL ((cols).getD k []))) || (decide (((cols).getD k []) ∈ (((cols).take k).drop 0)))) (by kernel_rfl) (conjC (show (0 : Int) ≤ (k : Int) ∧ (strs cols)[k]? = some (strD ((cols).getD k [])) from (by intros; exact map_at [] (by omega) (by (try simp only [zq1] at *); omega))) (conjC ((isName_ok ((cols).getD k []) : SpG g _ _ _ _ _)) (conjC (show (!(isNameL ((cols).getD k []))) = false → (0 : Int) ≤ 0 ∧ (0 : Int) ≤ (k : Int) ∧ (k : Int) ≤ ((strs cols).length : Int) from (by (try simp only [zq2] at *); omega)) (conj1 (fun (hg1 : (!(isNameL ((cols).getD k []))) = false) => ((contains_at (es := ((strs cols).take k).drop 0) (l := ((cols).take k).drop 0) (by simp only [strs, List.map_take, List.map_drop]) ((cols).getD k []) : SpG g _ _ _ _ _))))))) (fun hc4 => ?_) (fun hc4 => ?_)
   ·(try simp only [zq0] at hc4)
    refine zE hG [] .ret (⟨[(0, [], .c (.d (.sl 1 (strs cols)))), (1, [], .c (.d (.sl 1 (rowsD rows)))), (4, [], .c (.d (.b false)))], []⟩) (by kernel_rfl) conj0 rfl ?_
    refine zR hG [] [] (.c (.d (.b false))) [] (by kernel_rfl) conj0 ?_ ?_
    ·rw [tableB_name (k := k) (by omega) ?_]
     simp only [nameAt, Bool.and_eq_false_iff, Bool.not_eq_false', decide_eq_true_eq]
     exact hc4
    ·rfl
   ·(try simp only [zq0] at hc4)
    refine zD hG [] (k + 1) (by kernel_rfl) (conj1 (show inR ((k : Int) + 1) from (by (try simp only [zq2] at *); omega))) ?_ ?_
    ·(try dsimp only); omega
    ·refine ⟨by omega, below_succ hn ?_⟩
     simp only [nameAt, Bool.and_eq_true, Bool.not_eq_true', decide_eq_false_iff_not]
     exact hc4
  ·(try simp only [zq0] at hc3)
   refine zE hG [] (.exit 0) (⟨[(0, [], .c (.d (.sl 1 (strs cols)))), (1, [], .c (.d (.sl 1 (rowsD rows)))), (4, [], .c (.d (.b false)))], []⟩) (by kernel_rfl) conj0 rfl ?_
   refine zL hG [] [0, 1, 0, 1, 1, 1] (fun (zz : Nat) => match zz with | i => (rows.length - i, ⟨[(0, [], .c (.d (.sl 1 (strs cols)))), (4, [], .c (.d (.b false))), (37, [], .c (.d (.sl 1 (rowsD rows)))), (38, [], .c (.d (.i ((rowsD rows).length : Int)))), (39, [], .c (.d (.i (i : Int))))], []⟩, i ≤ rows.length ∧ ∀ j, j < i → rowAt cols rows j = true)) 0 (by kernel_rfl) conj0 (by kernel_rfl) ?_ ?_
   ·exact ⟨Nat.zero_le _, fun j hj => by omega⟩
   rintro i ⟨hi, hr⟩
   refine zc hG [] [0, 1] (decide (((i : Int) : Int) < ((rowsD rows).length : Int))) (by kernel_rfl) conj0 (fun hc6 => ?_) (fun hc6 => ?_)
   ·(try simp only [zq0] at hc6)
    refine zC hG [(11, 0, .elem (rows1 ((rows).getD i [])))] [1, 0, 1, 0, 0, 1, 1] (!decide ((((rowD ((rows).getD i [])).length : Int) : Int) = ((strs cols).length : Int))) (⟨[(0, [], .c (.d (.sl 1 (strs cols)))), (4, [], .c (.d (.b false))), (8, [], .c (.d (.sl 7 (rowD ((rows).getD i []))))), (37, [], .c (.d (.sl 1 (rowsD rows)))), (38, [], .c (.d (.i ((rowsD rows).length : Int)))), (39, [], .c (.d (.i (i : Int))))], []⟩) (by kernel_rfl) (conj1 (show (0 : Int) ≤ (i : Int) ∧ (rowsD rows)[i]? = some (rows1 ((rows).getD i [])) from (by intros; exact map_at _ (by omega) (by (try simp only [zq3] at *); omega)))) (fun hc7 => ?_) (fun hc7 => ?_)
    ·(try simp only [zq0] at hc7)
     refine zE hG [] .ret (⟨[(4, [], .c (.d (.b false)))], []⟩) (by kernel_rfl) conj0 rfl ?_
     refine zR hG [] [] (.c (.d (.b false))) [] (by kernel_rfl) conj0 ?_ ?_
     ·rw [tableB_row (k := i) (by omega) (rowAt_len hc7)]
     ·rfl
    ·(try simp only [zq0] at hc7)
     refine zL hG [] [0, 1, 1, 1, 0, 0, 1, 1] (fun (zz : Nat) => match zz with | m => ((rows.getD i []).length - m, ⟨[(0, [], .c (.d (.sl 1 (strs cols)))), (4, [], .c (.d (.b false))), (37, [], .c (.d (.sl 1 (rowsD rows)))), (38, [], .c (.d (.i ((rowsD rows).length : Int)))), (39, [], .c (.d (.i (i : Int)))), (48, [], .c (.d (.sl 7 (rowD ((rows).getD i []))))), (49, [], .c (.d (.i ((rowD ((rows).getD i [])).length : Int)))), (50, [], .c (.d (.i (m : Int))))], []⟩, m ≤ (rows.getD i []).length ∧ ∀ j, j < m → cellAt (rows.getD i []) j = true)) 0 (by kernel_rfl) conj0 (by kernel_rfl) ?_ ?_
     ·exact ⟨Nat.zero_le _, fun j hj => by omega⟩
     rintro m ⟨hm, hcl⟩
     refine zc hG [] [0, 1] (decide (((m : Int) : Int) < ((rowD ((rows).getD i [])).length : Int))) (by kernel_rfl) conj0 (fun hc9 => ?_) (fun hc9 => ?_)
     ·(try simp only [zq0] at hc9)
      refine zc hG [(16, 0, .elem (ClD (((rows).getD i []).getD m Cl.z))), (17, 5, .call (.c (.d (.b (rightK false (((rows).getD i []).getD m Cl.z).toV)))) [] [])] [1, 1, 0, 0, 1, 1] ((decide (((((rows).getD i []).getD m Cl.z).kind : Int) = 5)) || (!(rightK false (((rows).getD i []).getD m Cl.z).toV))) (by kernel_rfl) (conjC (show (0 : Int) ≤ (m : Int) ∧ (rowD ((rows).getD i []))[m]? = some (ClD (((rows).getD i []).getD m Cl.z)) from (by intros; exact map_at _ (by omega) (by (try simp only [zq3] at *); omega))) (conj1 (fun (hg1 : (decide (((((rows).getD i []).getD m Cl.z).kind : Int) = 5)) = false) => ((hR (((rows).getD i []).getD m Cl.z) ⟨rows.getD i [], getD_mem (by omega), getD_mem (by (try simp only [rowD, List.length_map] at *); omega)⟩ (by simpa using hg1) : SpG g _ _ _ _ _))))) (fun hc10 => ?_) (fun hc10 => ?_)
      ·(try simp only [zq0] at hc10)
       refine zE hG [] .ret (⟨[(0, [], .c (.d (.sl 1 (strs cols)))), (4, [], .c (.d (.b false))), (37, [], .c (.d (.sl 1 (rowsD rows)))), (38, [], .c (.d (.i ((rowsD rows).length : Int)))), (39, [], .c (.d (.i (i : Int))))], []⟩) (by kernel_rfl) conj0 rfl ?_
       refine zE hG [] .ret (⟨[(4, [], .c (.d (.b false)))], []⟩) (by kernel_rfl) conj0 rfl ?_
       refine zR hG [] [] (.c (.d (.b false))) [] (by kernel_rfl) conj0 ?_ ?_
       ·rw [tableB_row (k := i) (by omega) (rowAt_cell (m := m) (by omega) ?_)]
        simp only [cellAt, Bool.and_eq_false_iff, Bool.not_eq_false', decide_eq_true_eq]
        exact hc10
       ·rfl
      ·(try simp only [zq0] at hc10)
       refine zD hG [] (m + 1) (by kernel_rfl) (conj1 (show inR ((m : Int) + 1) from (by (try simp only [zq2] at *); omega))) ?_ ?_
       ·(try dsimp only); omega
       ·refine ⟨by omega, below_succ hcl ?_⟩
        simp only [cellAt, Bool.and_eq_true, Bool.not_eq_true', decide_eq_false_iff_not]
        exact hc10
     ·(try simp only [zq0] at hc9)
      refine zE hG [] (.exit 4) (⟨[(0, [], .c (.d (.sl 1 (strs cols)))), (4, [], .c (.d (.b false))), (37, [], .c (.d (.sl 1 (rowsD rows)))), (38, [], .c (.d (.i ((rowsD rows).length : Int)))), (39, [], .c (.d (.i (i : Int))))], []⟩) (by kernel_rfl) conj0 rfl ?_
      refine zD hG [] (i + 1) (by kernel_rfl) (conj1 (show inR ((i : Int) + 1) from (by (try simp only [zq2] at *); omega))) ?_ ?_
      ·(try dsimp only); omega
      ·refine ⟨by omega, below_succ hr ?_⟩
       have : m = (rows.getD i []).length := by omega
       subst this
       simp only [rowAt, Bool.and_eq_true, decide_eq_true_eq]
       exact ⟨by omega, allR_true hcl⟩
   ·(try simp only [zq0] at hc6)
    refine zE hG [] (.exit 2) (⟨[(4, [], .c (.d (.b false)))], []⟩) (by kernel_rfl) conj0 rfl ?_
    refine zR hG [] [] (.c (.d (.b true))) [] (by kernel_rfl) conj0 ?_ ?_
    ·rw [tableB_ok hc1 (fun j hj => hn j (by omega)) (fun j hj => hr j (by omega))]
    ·rfl
theorem cell_right (c : Cl) (hs : c.s.length ≤ maxLen) (hk : ¬ c.kind = 5) : SpG g 20 [clArg c] [] (.c (.d (.b (rightK false c.toV)))) [] := by
 have h := right_of (g := g) c.toV _ hs (rightTable_of [] [] (fun c ⟨r, hr, _⟩ => by cases hr))
 have e : rightK (tableB [] []) c.toV = rightK false c.toV := by
  have : c.toV.kind = c.kind := rfl
  simp [rightK, this, hk]
 rw [e] at h
 exact h
theorem right_ok (v : Vl) (h : v.fit) : SpG g 20 [vArg v] [] (.c (.d (.b (rightB v)))) [] :=
 right_of v _ h.s (rightTable_of v.cols v.rows fun c ⟨r, hr, hc⟩ hk => cell_right c (h.cells r hr c hc) hk)
end Go.Proofs.YtdejnaokkdndeaaGreatDoor
namespace Go.Proofs.YtdejnaokkdndeaaGreatDoor
open Go.RowKit Go.V
open Go.Eng (inR byteAt u8 bytesV)
variable {g : Gv}
end Go.Proofs.YtdejnaokkdndeaaGreatDoor
namespace Go.Proofs.YtdejnaokkdndeaaGreatDoor
open Go.RowKit Go.V
open Go.Eng (inR byteAt u8 bytesV)
def vd : List Int → Int
 | [] => 0
 | d :: r => d + 16777216 * vd r
def Dg (l : List Int) : Prop := ∀ d, d ∈ l → 0 ≤ d ∧ d < 16777216
def dg (n : Nat) : List Int := if h : n = 0 then [] else ((n % 16777216 : Nat) : Int) :: dg (n / 16777216)
 termination_by n
 decreasing_by omega
theorem dg_zero : dg 0 = [] := by rw [dg]; simp
theorem dg_pos {n : Nat} (h : n ≠ 0) : dg n = ((n % 16777216 : Nat) : Int) :: dg (n / 16777216) := by rw [dg]; simp [h]
theorem vd_app : ∀ a b : List Int, vd (a ++ b) = vd a + 16777216 ^ a.length * vd b
 | [], b => by simp [vd]
 | x :: a, b => by
  rw [List.cons_append, vd, vd_app a b, vd, List.length_cons, Int.pow_succ]
  grind
theorem vd_snoc (a : List Int) (x : Int) : vd (a ++ [x]) = vd a + 16777216 ^ a.length * x := by rw [vd_app]; simp [vd]
theorem Dg.nil : Dg [] := fun d h => by cases h
theorem Dg.cons {x : Int} {l : List Int} (h0 : 0 ≤ x) (h1 : x < 16777216) (h : Dg l) : Dg (x :: l) := fun d hd => by
 rcases List.mem_cons.1 hd with rfl | hd
 ·exact ⟨h0, h1⟩
 ·exact h d hd
theorem Dg.tail {x : Int} {l : List Int} (h : Dg (x :: l)) : Dg l := fun d hd => h d (List.mem_cons_of_mem _ hd)
theorem Dg.head {x : Int} {l : List Int} (h : Dg (x :: l)) : 0 ≤ x ∧ x < 16777216 := h x (by simp)
theorem Dg.app {a b : List Int} (ha : Dg a) (hb : Dg b) : Dg (a ++ b) := fun d hd => (List.mem_append.1 hd).elim (ha d) (hb d)
theorem Dg.snoc {a : List Int} {x : Int} (ha : Dg a) (h0 : 0 ≤ x) (h1 : x < 16777216) : Dg (a ++ [x]) := ha.app (Dg.cons h0 h1 Dg.nil)
theorem Dg.take {l : List Int} (h : Dg l) (k : Nat) : Dg (l.take k) := fun d hd => h d (List.mem_of_mem_take hd)
theorem Dg.drop {l : List Int} (h : Dg l) (k : Nat) : Dg (l.drop k) := fun d hd => h d (List.mem_of_mem_drop hd)
theorem Dg.at {l : List Int} (h : Dg l) {k : Nat} (hk : k < l.length) : 0 ≤ l.getD k 0 ∧ l.getD k 0 < 16777216 := h _ (by simp [hk])
theorem vd_nonneg : ∀ {l : List Int}, Dg l → 0 ≤ vd l
 | [], _ => by simp [vd]
 | d :: r, h => by
  have := vd_nonneg h.tail; have := h.head
  rw [vd]; omega
theorem pw (k : Nat) : ((16777216 ^ k : Nat) : Int) = (16777216 : Int) ^ k := by rw [Int.natCast_pow]; rfl
theorem powB_pos (k : Nat) : (0 : Int) < 16777216 ^ k := Int.pow_pos (by decide)
theorem vd_lt : ∀ {l : List Int}, Dg l → vd l < 16777216 ^ l.length
 | [], _ => by simp [vd]
 | d :: r, h => by
  have := vd_lt h.tail; have := h.head
  rw [vd, List.length_cons, Int.pow_succ]; omega
theorem vd_dg : ∀ n : Nat, vd (dg n) = (n : Int) ∧ Dg (dg n) := by
 intro n
 induction n using Nat.strongRecOn with
 | ind n ih =>
  by_cases h : n = 0
  ·subst h; rw [dg_zero]; exact ⟨rfl, Dg.nil⟩
  ·obtain ⟨h1, h2⟩ := ih (n / 16777216) (by omega)
   rw [dg_pos h, vd, h1]
   exact ⟨by omega, Dg.cons (by omega) (by omega) h2⟩
def Trim (l : List Int) : Prop := l = [] ∨ ¬ l.getD (l.length - 1) 0 = 0
theorem dg_of : ∀ {l : List Int}, Dg l → Trim l → l = dg (vd l).toNat
 | [], _, _ => by rw [show vd [] = 0 from rfl]; exact dg_zero.symm
 | d :: r, h, ht => by
  have hd := h.head
  have hr := vd_nonneg h.tail
  have hne : ¬ d + 16777216 * vd r = 0 := by
   intro h0
   have d0 : d = 0 := by omega
   have r0 : vd r = 0 := by omega
   rcases ht with ht | ht
   ·cases ht
   ·cases r with
    | nil => simp at ht; exact ht d0
    | cons x r =>
     have ht' : Trim (x :: r) := .inr (by simpa using ht)
     have := dg_of h.tail ht'
     rw [r0, show (0 : Int).toNat = 0 from rfl, dg_zero] at this
     cases this
  have hp : (d + 16777216 * vd r).toNat ≠ 0 := by omega
  rw [vd, dg_pos hp]
  have e1 : ((d + 16777216 * vd r).toNat % 16777216 : Nat) = d.toNat := by omega
  have e2 : (d + 16777216 * vd r).toNat / 16777216 = (vd r).toNat := by omega
  have ht' : Trim r := by
   cases r with
   | nil => exact .inl rfl
   | cons x r =>
    rcases ht with ht | ht
    ·cases ht
    ·exact .inr (by simpa using ht)
  rw [e1, e2, ← dg_of h.tail ht']
  congr 1; omega
theorem dg_trim (n : Nat) : Trim (dg n) := by
 induction n using Nat.strongRecOn with
 | ind n ih =>
  by_cases h : n = 0
  ·subst h; exact .inl dg_zero
  ·have := ih (n / 16777216) (by omega)
   rw [dg_pos h]
   by_cases h2 : n / 16777216 = 0
   ·rw [h2, dg_zero]; right; simp; omega
   ·rw [dg_pos h2] at this ⊢
    rcases this with hh | hh
    ·cases hh
    ·right; simpa using hh
theorem getD_last {l : List Int} (h : 0 < l.length) : l.take (l.length - 1) ++ [l.getD (l.length - 1) 0] = l := by
 have hk : l.length - 1 < l.length := by omega
 have : l.take (l.length - 1 + 1) = l.take (l.length - 1) ++ [l.getD (l.length - 1) 0] := by
  rw [List.take_add_one, List.getD_eq_getElem?_getD, List.getElem?_eq_getElem hk]; rfl
 rw [← this, show l.length - 1 + 1 = l.length by omega, List.take_length]
theorem trim_step {l : List Int} (h : 0 < l.length) (hz : l.getD (l.length - 1) 0 = 0) : vd (l.take (l.length - 1)) = vd l := by
 have e := getD_last h
 rw [hz] at e
 conv => rhs; rw [← e]
 rw [vd_snoc]; simp
theorem drop_at {l : List Int} {k : Nat} (h : k < l.length) : vd (l.drop k) = l.getD k 0 + 16777216 * vd (l.drop (k + 1)) := by
 rw [List.drop_eq_getElem_cons h, vd]; simp [h]
theorem drop_end {l : List Int} {k : Nat} (h : l.length ≤ k) : vd (l.drop k) = 0 := by rw [List.drop_eq_nil_of_le h]; rfl
theorem dg_len {n k : Nat} (h : (nb n).length ≤ 3 * k) : (dg n).length ≤ k := by
 induction k generalizing n with
 | zero =>
  have := (nb_len_zero n).1 (by omega)
  subst this; rw [dg_zero]; simp
 | succ k ih =>
  by_cases h0 : n = 0
  ·subst h0; rw [dg_zero]; simp
  ·rw [dg_pos h0, List.length_cons]
   have : (nb (n / 16777216)).length ≤ 3 * k := by
    by_cases h1 : n / 256 = 0
    ·rw [show n / 16777216 = 0 by omega, nb_zero]; simp
    ·by_cases h2 : n / 65536 = 0
     ·rw [show n / 16777216 = 0 by omega, nb_zero]; simp
     ·by_cases h3 : n / 16777216 = 0
      ·rw [h3, nb_zero]; simp
      ·have e1 := congrArg List.length (nb_pos h0)
       have e2 := congrArg List.length (nb_pos (n := n / 256) h1)
       have e3 := congrArg List.length (nb_pos (n := n / 256 / 256) (by omega))
       rw [List.length_append] at e1 e2 e3
       have e4 : n / 256 / 256 / 256 = n / 16777216 := by omega
       rw [e4] at e3
       simp only [List.length_cons, List.length_nil] at e1 e2 e3
       omega
   have := ih this
   omega
theorem nb_first {n : Nat} {x : UInt8} {t : List UInt8} (h : nb n = x :: t) : ¬ x = 0 := by
 intro h0
 have e : canonL (nb n) = nb n := by rw [canon_nb, valB_nb]
 rw [h, h0] at e
 have h1 : canonL (0 :: t) = canonL t := by simp [canonL]
 rw [h1] at e
 have : (canonL t).length ≤ t.length := by unfold canonL; exact (List.dropWhile_sublist _).length_le
 rw [e, List.length_cons] at this; omega
theorem nb_take_pos {n e : Nat} (he : 0 < e) (hl : e ≤ (nb n).length) : valB ((nb n).take e) ≠ 0 := by
 cases h : nb n with
 | nil => rw [h] at hl; simp at hl; omega
 | cons x t =>
  have hx := nb_first h
  obtain ⟨k, rfl⟩ : ∃ k, e = k + 1 := ⟨e - 1, by omega⟩
  rw [List.take_succ_cons, valB_cons]
  have : 0 < x.toNat := by
   rcases Nat.eq_zero_or_pos x.toNat with h0 | h0
   ·exact absurd (UInt8.toNat_inj.1 (by simpa using h0)) hx
   ·exact h0
  have h2 : 0 < x.toNat * 256 ^ (t.take k).length := Nat.mul_pos this (Nat.pow_pos (by decide))
  omega
theorem valB_split {a : List UInt8} {s e : Nat} (h : s ≤ e) (he : e ≤ a.length) : valB (a.take e) = valB (a.take s) * 256 ^ (e - s) + valB ((a.take e).drop s) := by
 have e1 : a.take e = a.take s ++ (a.take e).drop s := by
  have := List.take_append_drop s (a.take e)
  rw [List.take_take, Nat.min_eq_left h] at this
  exact this.symm
 conv => lhs; rw [e1]
 rw [valB_app, List.length_drop, List.length_take, Nat.min_eq_left he]
theorem of_step {n e : Nat} (he : 0 < e) (hl : e ≤ (nb n).length) : dg (valB ((nb n).take e)) = (valB (((nb n).take e).drop (e - 3)) : Int) :: dg (valB ((nb n).take (e - 3))) := by
 rw [dg_pos (nb_take_pos he hl)]
 have hs := valB_split (a := nb n) (s := e - 3) (e := e) (by omega) hl
 have hlt := valB_lt (((nb n).take e).drop (e - 3))
 rw [List.length_drop, List.length_take, Nat.min_eq_left hl] at hlt
 by_cases h3 : 3 ≤ e
 ·rw [show e - (e - 3) = 3 by omega] at hs hlt
  rw [hs]
  have h1 : (valB ((nb n).take (e - 3)) * 256 ^ 3 + valB (((nb n).take e).drop (e - 3))) % 16777216 = valB (((nb n).take e).drop (e - 3)) := by omega
  have h2 : (valB ((nb n).take (e - 3)) * 256 ^ 3 + valB (((nb n).take e).drop (e - 3))) / 16777216 = valB ((nb n).take (e - 3)) := by omega
  rw [h1, h2]
 ·have h0 : e - 3 = 0 := by omega
  have hz : valB ((nb n).take (e - 3)) = 0 := by rw [h0]; rfl
  have hlt' : valB (((nb n).take e).drop (e - 3)) < 16777216 := by
   have : 256 ^ (e - (e - 3)) ≤ 256 ^ 3 := Nat.pow_le_pow_right (by decide) (by omega)
   omega
  rw [hz] at hs ⊢
  rw [Nat.zero_mul, Nat.zero_add] at hs
  rw [hs, Nat.mod_eq_of_lt hlt', Nat.div_eq_of_lt hlt']
theorem number_step {acc : List UInt8} {d : Int} (h0 : 0 ≤ d) (h1 : d < 16777216) : (valB (acc ++ [u8 (Int.fdiv d 65536)] ++ [u8 (Int.fdiv d 256)] ++ [u8 d]) : Int) = valB acc * 16777216 + d := by
 rw [valB_snoc, valB_snoc, valB_snoc]
 have f1 : Int.fdiv d 65536 = d / 65536 := Int.fdiv_eq_ediv_of_nonneg _ (by decide)
 have f2 : Int.fdiv d 256 = d / 256 := Int.fdiv_eq_ediv_of_nonneg _ (by decide)
 rw [f1, f2]
 have h2 := u8_toNat (d / 65536)
 have h3 := u8_toNat (d / 256)
 have h4 := u8_toNat d
 omega
theorem nat_step {acc : List UInt8} {n j : Nat} (hj : j < 8) (hv : valB acc = n / 2 ^ (64 - 8 * j)) : valB (acc ++ [u8 (Int.fdiv (n : Int) (2 ^ (56 - 8 * j)))]) = n / 2 ^ (64 - 8 * (j + 1)) := by
 rw [valB_snoc, hv]
 have e : ((u8 (Int.fdiv (n : Int) (2 ^ (56 - 8 * j)))).toNat : Int) = ((n / 2 ^ (56 - 8 * j) % 256 : Nat) : Int) := by
  rw [u8_toNat, Int.fdiv_eq_ediv_of_nonneg _ (Int.le_of_lt (Int.pow_pos (by decide)))]
  rw [Int.natCast_emod, Int.natCast_ediv, Int.natCast_pow]; rfl
 have e' : (u8 (Int.fdiv (n : Int) (2 ^ (56 - 8 * j)))).toNat = n / 2 ^ (56 - 8 * j) % 256 := Int.ofNat.inj e
 rw [e', show 64 - 8 * (j + 1) = 56 - 8 * j by omega, show 64 - 8 * j = (56 - 8 * j) + 8 by omega, Nat.pow_add, ← Nat.div_div_eq_div_mul]
 generalize n / 2 ^ (56 - 8 * j) = q
 omega
def td : List Int → List Int → Int
 | a :: u, b :: v => if td u v = 0 then a - b else td u v
 | _, _ => 0
def cmpL (u v : List Int) : Int := if u.length = v.length then td u v else (u.length : Int) - v.length
theorem td_drop : ∀ (k : Nat) {u v : List Int}, ¬ td (u.drop k) (v.drop k) = 0 → td u v = td (u.drop k) (v.drop k)
 | 0, u, v, _ => by simp
 | k + 1, [], v, h => by simp [td] at h
 | k + 1, a :: u, [], h => by simp [td] at h
 | k + 1, a :: u, b :: v, h => by
  simp only [List.drop_succ_cons] at h ⊢
  have := td_drop k h
  rw [td, this, if_neg h]
theorem td_at {u v : List Int} {k : Nat} (hu : k < u.length) (hv : k < v.length) (h : td (u.drop (k + 1)) (v.drop (k + 1)) = 0) : td (u.drop k) (v.drop k) = u.getD k 0 - v.getD k 0 := by
 rw [List.drop_eq_getElem_cons hu, List.drop_eq_getElem_cons hv, td, if_pos h]; simp [hu, hv]
theorem td_sign : ∀ {u v : List Int}, u.length = v.length → Dg u → Dg v → (td u v < 0 ↔ vd u < vd v) ∧ (td u v = 0 ↔ vd u = vd v)
 | [], [], _, _, _ => by simp [td, vd]
 | [], _ :: _, h, _, _ => by simp at h
 | _ :: _, [], h, _, _ => by simp at h
 | a :: u, b :: v, h, hu, hv => by
  obtain ⟨h1, h2⟩ := td_sign (by simpa using h) hu.tail hv.tail
  have ha := hu.head; have hb := hv.head
  rw [td, vd, vd]
  by_cases h0 : td u v = 0
  ·rw [if_pos h0]
   have := h2.1 h0
   constructor <;> constructor <;> intro <;> omega
  ·rw [if_neg h0]
   constructor <;> constructor <;> intro <;> omega
theorem dg_len_lt {x y : Nat} (h : (dg x).length < (dg y).length) : x < y := by
 have hx := vd_lt (vd_dg x).2
 rw [(vd_dg x).1] at hx
 have hy : (16777216 : Int) ^ ((dg y).length - 1) ≤ (y : Int) := by
  have e := getD_last (l := dg y) (by omega)
  have ht : ¬ (dg y).getD ((dg y).length - 1) 0 = 0 := by
   rcases dg_trim y with h0 | h0
   ·rw [h0] at h; simp at h
   ·exact h0
  have hd := (vd_dg y).2.at (k := (dg y).length - 1) (by omega)
  have hv := congrArg vd e
  rw [vd_snoc, (vd_dg y).1, List.length_take, Nat.min_eq_left (by omega)] at hv
  have h0 := vd_nonneg ((vd_dg y).2.take ((dg y).length - 1))
  have h1 : (16777216 : Int) ^ ((dg y).length - 1) * 1 ≤ 16777216 ^ ((dg y).length - 1) * (dg y).getD ((dg y).length - 1) 0 := Int.mul_le_mul_of_nonneg_left (by omega) (Int.le_of_lt (powB_pos _))
  omega
 have hp : (16777216 : Int) ^ (dg x).length ≤ 16777216 ^ ((dg y).length - 1) := by
  have := Nat.pow_le_pow_right (n := 16777216) (by decide) (show (dg x).length ≤ (dg y).length - 1 by omega)
  have h := Int.ofNat_le.2 this
  rw [pw, pw] at h; exact h
 omega
theorem cmpL_sign (x y : Nat) : (cmpL (dg x) (dg y) < 0 ↔ x < y) ∧ (cmpL (dg x) (dg y) = 0 ↔ x = y) := by
 unfold cmpL
 by_cases h : (dg x).length = (dg y).length
 ·rw [if_pos h]
  obtain ⟨h1, h2⟩ := td_sign h (vd_dg x).2 (vd_dg y).2
  rw [(vd_dg x).1, (vd_dg y).1] at h1 h2
  exact ⟨by rw [h1]; omega, by rw [h2]; omega⟩
 ·rw [if_neg h]
  rcases Nat.lt_or_gt_of_ne h with h' | h'
  ·have := dg_len_lt h'; omega
  ·have := dg_len_lt h'; omega
theorem vd_set {l : List Int} {k : Nat} (h : k < l.length) (x : Int) : vd ((l.set k x).drop k) = x + 16777216 * vd (l.drop (k + 1)) := by
 rw [drop_at (by simpa using h)]
 simp [h, List.drop_set_of_lt]
theorem Dg.set {l : List Int} (h : Dg l) {k : Nat} {x : Int} (h0 : 0 ≤ x) (h1 : x < 16777216) : Dg (l.set k x) := fun d hd => by
 rcases List.mem_or_eq_of_mem_set hd with h' | rfl
 ·exact h d h'
 ·exact ⟨h0, h1⟩
theorem Dg.zeros (n : Nat) : Dg (List.replicate n 0) := fun d hd => by rw [(List.mem_replicate.1 hd).2]; decide
end Go.Proofs.YtdejnaokkdndeaaGreatDoor
namespace Go.Proofs.YtdejnaokkdndeaaGreatDoor
open Go.RowKit Go.V
open Go.Eng (inR byteAt u8 bytesV)
variable {g : Gv}
theorem ints_snoc (acc : List Int) (x : Int) : intsD acc ++ [[D.i x]] = intsD (acc ++ [x]) := by simp [intsD, intD]
theorem ints_take (l : List Int) (k : Nat) : ((intsD l).take k).drop 0 = intsD (l.take k) := by simp [intsD]
theorem ints_len (l : List Int) : (intsD l).length = l.length := by simp [intsD]
theorem bytes_snoc3 (acc : List UInt8) (x y z : Int) : bytesD acc ++ [[D.y (IntKind.wrap .u8 x)], [D.y (IntKind.wrap .u8 y)], [D.y (IntKind.wrap .u8 z)]] = bytesD (acc ++ [u8 x] ++ [u8 y] ++ [u8 z]) := by
 rw [← bytesD_snoc, ← bytesD_snoc, ← bytesD_snoc]; simp
theorem mid_step {a : List UInt8} {s k : Nat} (hs : s ≤ k) (hk : k < a.length) : valB ((a.take (k + 1)).drop s) = 256 * valB ((a.take k).drop s) + (a.getD k 0).toNat := by
 have e : a.take (k + 1) = a.take k ++ [a.getD k 0] := by
  rw [List.take_add_one, List.getD_eq_getElem?_getD, List.getElem?_eq_getElem hk]; rfl
 rw [e, List.drop_append_of_le_length (by rw [List.length_take]; omega), valB_snoc]
theorem mid_bd {a : List UInt8} {s k : Nat} (hs : s ≤ k) (hk : k ≤ a.length) (h3 : k ≤ s + 3) : valB ((a.take k).drop s) < 16777216 ∧ (k ≤ s + 2 → valB ((a.take k).drop s) < 65536) := by
 have h := valB_lt ((a.take k).drop s)
 rw [List.length_drop, List.length_take, Nat.min_eq_left hk] at h
 have h1 : 256 ^ (k - s) ≤ 256 ^ 3 := Nat.pow_le_pow_right (by decide) (by omega)
 refine ⟨by omega, fun h2 => ?_⟩
 have h1 : 256 ^ (k - s) ≤ 256 ^ 2 := Nat.pow_le_pow_right (by decide) (by omega)
 omega
theorem byte_lt (l : List UInt8) (i : Int) : 0 ≤ byteAt (S l) i ∧ byteAt (S l) i < 256 := by
 rw [byteAt_S]; have := (l.getD i.toNat 0).toNat_lt; omega
theorem byte_wrap (l : List UInt8) (i : Int) : IntKind.wrap .i64 (byteAt (S l) i) = byteAt (S l) i := by rw [byteAt_S, wrap64_byte]
theorem nb_ge {n k : Nat} : k < (nb n).length ↔ 256 ^ k ≤ n := by
 refine ⟨fun h => ?_, nb_len_ge⟩
 rcases Nat.lt_or_ge n (256 ^ k) with h1 | h1
 ·have := nb_len h1; omega
 ·exact h1
theorem int_big {n : Nat} (h : (nb n).length > 8 ∨ ((nb n).length = 8 ∧ ((nb n).getD 0 0).toNat > 127)) : ¬ n < 2 ^ 63 := by
 intro hn
 rcases h with h | ⟨h, h'⟩
 ·have := nb_len (n := n) (k := 8) (by omega); omega
 ·have := nb_head hn h; omega
theorem int_fits {n : Nat} (h1 : ¬ (nb n).length > 8) (h2 : (nb n).length = 8 → ¬ ((nb n).getD 0 0).toNat > 127) : n < 2 ^ 63 := by
 rcases Nat.lt_or_ge n (2 ^ 63) with h | h
 ·exact h
 ·exfalso
  have hl : (nb n).length = 8 := by
   have := nb_len_ge (n := n) (k := 7) (by omega); omega
  have h3 := h2 hl
  have e : n = valB (nb n) := (valB_nb n).symm
  cases hb : nb n with
  | nil => rw [hb] at hl; simp at hl
  | cons x t =>
   rw [hb] at hl h3 e
   rw [valB_cons] at e
   have ht : t.length = 7 := by simpa using hl
   have h4 := valB_lt t
   rw [ht] at e h4
   have : x.toNat ≤ 127 := by simpa using h3
   have h5 : x.toNat * 256 ^ 7 ≤ 127 * 256 ^ 7 := Nat.mul_le_mul_right _ this
   omega
def intV (n : Nat) : Int := if n < 2 ^ 63 then (n : Int) else 0
def intK (n : Nat) : Bool := decide (n < 2 ^ 63)
def smV (n k : Nat) : Int := if n < 256 ^ k then (n : Int) else 0
def smK (n k : Nat) : Bool := decide (n < 256 ^ k)
theorem sm_int {n k : Nat} (hk : k ≤ 7) (h : n < 256 ^ k) : intV n = smV n k ∧ intK n = smK n k := by
 have h1 : 256 ^ k ≤ 256 ^ 7 := Nat.pow_le_pow_right (by decide) hk
 have h2 : n < 2 ^ 63 := by omega
 simp [intV, intK, smV, smK, h, h2]
def zq4 := And.intro @List.length_append.{0} (And.intro @List.length_cons.{0} (And.intro @List.length_map.{0, 0} (And.intro @List.length_nil.{0} (And.intro @S_size (And.intro @decide_eq_true_eq (And.intro @Go.Eng.inR.eq_1 (And.intro @intsD.eq_1 (@maxLen.eq_1))))))))
def zq5 := And.intro @List.length_map.{0, 0} (And.intro @S_size (And.intro @blS (And.intro @byteAt_S (@intsD.eq_1))))
theorem canon_ok (l : List UInt8) (hl : l.length ≤ maxLen) :
  SpG g 226 [.c (.d (.s (S l)))] [] (.c (.d (.s (S (nb (valB l)))))) [] := by
 refine enterB 19 Tryz.func226 (by kernel_rfl) fun fr hG => ?_
 refine zL hG [] [0, 0, 1, 1] (fun (zz : Nat) => match zz with | k => (l.length - k, ⟨[(0, [], .c (.d (.s (S l)))), (2, [], .c (.d (.s (S [])))), (3, [], .c (.d (.i (k : Int))))], []⟩, k ≤ l.length ∧ canonL (l.drop k) = canonL l)) 0 (by kernel_rfl) conj0 (by kernel_rfl) ?_ ?_
 ·exact ⟨Nat.zero_le _, rfl⟩
 rintro k ⟨hk, hn⟩
 refine zc hG [] [1, 0] ((decide (((k : Int) : Int) < ((S l).size : Int))) && (decide ((byteAt (S l) (k : Int) : Int) = 0))) (by kernel_rfl) (conj1 (show (decide (((k : Int) : Int) < ((S l).size : Int))) = true → (0 : Int) ≤ (k : Int) ∧ (k : Int) < ((S l).size : Int) from (by intros; (try simp only [zq4] at *); omega))) (fun hc2 => ?_) (fun hc2 => ?_)
 ·(try simp only [zq5] at hc2)
  refine zD hG [] (k + 1) (by kernel_rfl) (conj1 (show inR ((k : Int) + 1) from (by intros; (try simp only [zq4] at *); omega))) ?_ ?_
  ·(try dsimp only); omega
  ·refine ⟨by omega, ?_⟩
   rw [← hn, canon_zero (k := k) (by omega) (by have := hc2.2; simp only [Int.toNat_natCast] at this; omega)]
 ·(try simp only [zq5] at hc2)
  refine zE hG [] (.exit 0) (⟨[(0, [], .c (.d (.s (S l)))), (2, [], .c (.d (.s (S [])))), (3, [], .c (.d (.i (k : Int))))], []⟩) (by kernel_rfl) conj0 rfl ?_
  refine zR hG [] [] (.c (.d (.s ((S l).extract k (S l).size)))) [] (by kernel_rfl) (conj1 (show (0 : Int) ≤ (k : Int) ∧ ((k : Int) : Int) ≤ ((S l).size : Int) ∧ ((S l).size : Int) ≤ ((S l).size : Int) from (by intros; (try simp only [zq4] at *); omega))) ?_ ?_
  ·have h0 : ¬ (k < l.length ∧ (l.getD k 0).toNat = 0) := by
    rintro ⟨h1, h2⟩
    rcases hc2 with h | h
    ·omega
    ·simp only [Int.toNat_natCast] at h; omega
   rw [S_drop, ← canon_nb, ← hn, canon_stop h0]
  ·rfl
theorem canonNb_ok (n : Nat) (hl : (nb n).length ≤ maxLen) : SpG g 226 [.c (.d (.s (S (nb n))))] [] (.c (.d (.s (S (nb n))))) [] := by
 have h := canon_ok (g := g) (nb n) hl
 rw [valB_nb] at h
 exact h
theorem of_ok (n : Int) (h : 0 ≤ n ∧ n ≤ 9223372036854775807) :
  SpG g 170 [.c (.d (.i n))] [] (.c (.d (.s (S (nb n.toNat))))) [] := by
 refine enterB 23 Tryz.func170 (by kernel_rfl) fun fr hG => ?_
 refine zA hG [] [0, 1, 0, 1, 1] (⟨[(0, [], .c (.d (.i n))), (2, [], .c (.d (.s (S [])))), (3, [], .c (.d (.nil))), (4, [], .c (.d (.i 56)))], []⟩) [(3, 9001, 5, 1)] [] (fun (zz : Nat × Int × List (List D) × List UInt8) => match zz with | (j, kk, es, acc) => (8 - j, ⟨[(0, [], .c (.d (.i n))), (2, [], .c (.d (.s (S [])))), (3, [], .c (.ar 9001 0)), (4, [], .c (.d (.i kk)))], [(9001, .arr 0 5 1 (es))]⟩, j ≤ 8 ∧ kk = 56 - 8 * (j : Int) ∧ es = bytesD acc ∧ acc.length = j ∧ valB acc = n.toNat / 2 ^ (64 - 8 * j))) (0, 56, [], []) (by kernel_rfl) conj0 (by kernel_rfl) (by kernel_rfl) ?_ ?_
 ·refine ⟨Nat.zero_le _, rfl, rfl, rfl, ?_⟩
  rw [valB_nil, Nat.div_eq_of_lt (by omega)]
 rintro ⟨j, kk, es, acc⟩ ⟨hj, hkk, hes, ha, hv⟩
 have hlen : es.length = j := by rw [hes, bytesD_len, ha]
 have e0 : ((n.toNat : Nat) : Int) = n := by omega
 refine zc hG [] [1, 0] ((decide ((kk : Int) ≥ 0)) && (decide ((n : Int) > 0))) (by kernel_rfl) conj0 (fun hc2 => ?_) (fun hc2 => ?_)
 ·(try simp only [zq5] at hc2)
  refine zD hG [] (j + 1, kk - 8, es ++ [[D.y (IntKind.wrap .u8 (Int.fdiv n (2 ^ min (kk : Int).toNat 64)))]], acc ++ [u8 (Int.fdiv n (2 ^ min (kk : Int).toNat 64))]) (by kernel_rfl) (conjC (show (0 : Int) ≤ kk from (by intros; (try simp only [zq4] at *); omega)) (conjC (show ((es).length + (([[.y (IntKind.wrap .u8 (Int.fdiv n (2 ^ min (kk : Int).toNat 64)))]] : List (List D))).length) * (1 + 1) ≤ 140737488355328 from (by intros; (try simp only [zq4] at *); omega)) (conj1 (show inR (kk - 8) from (by intros; (try simp only [zq4] at *); omega))))) ?_ ?_
  ·(try dsimp only); omega
  ·have e1 : min (kk : Int).toNat 64 = 56 - 8 * j := by omega
   refine ⟨by omega, by omega, by rw [hes, bytesD_snoc], by simp [ha], ?_⟩
   rw [e1]
   have h := nat_step (acc := acc) (n := n.toNat) (j := j) (by omega) hv
   rw [e0] at h; exact h
 ·(try simp only [zq5] at hc2)
  refine zE hG [] (.exit 0) (⟨[(2, [], .c (.d (.s (S [])))), (3, [], .c (.ar 9001 0))], [(9001, .arr 0 5 1 (es))]⟩) (by kernel_rfl) conj0 rfl ?_
  refine zR hG [(6, 1, .call (.c (.d (.s (S acc)))) [] []), (6, 2, .call (.c (.d (.s (S (nb (valB (acc))))))) [] [])] [] (.c (.d (.s (S (nb (valB (acc))))))) [] (by kernel_rfl) (conjC (show es = bytesD (S acc).data.toList from (by rw [hes, bytesD_S])) (conj1 ((canon_ok (acc) (by simp only [maxLen]; omega) : SpG g _ _ _ _ _)))) ?_ ?_
  ·have e : valB acc = n.toNat := by
    rw [hv]
    rcases hc2 with h | h
    ·rw [show 64 - 8 * j = 0 by omega]; simp
    ·rw [show n.toNat = 0 by omega]; simp
   rw [e]
  ·rfl
def zq6 := And.intro @List.length_append.{0} (And.intro @List.length_cons.{0} (And.intro @List.length_nil.{0} (And.intro @S_size (And.intro @Go.Eng.inR.eq_1 (@maxLen.eq_1)))))
theorem ofD_ok (n : Nat) (h : (nb n).length ≤ 1000000000) :
  SpG g 224 [.c (.d (.s (S (nb n))))] [] (.c (.d (.sl 1 (intsD (dg n))))) [] := by
 refine enterB 35 Tryz.func224 (by kernel_rfl) fun fr hG => ?_
 refine zA hG [(1, 1, .call (.c (.d (.s (S (nb n))))) [] [])] [0, 1, 0, 1, 1, 1] (⟨[(0, [], .c (.d (.s (S (nb n))))), (2, [], .c (.d (.nil))), (3, [], .c (.d (.nil))), (4, [], .c (.d (.i ((S (nb n)).size : Int))))], []⟩) [(3, 9001, 3, 1)] [] (fun (zz : Int × List (List D) × List Int) => match zz with | (e, es, acc) => ((e + 3).toNat, ⟨[(0, [], .c (.d (.s (S (nb n))))), (2, [], .c (.d (.nil))), (3, [], .c (.ar 9001 0)), (4, [], .c (.d (.i e)))], [(9001, .arr 0 3 1 (es))]⟩, e ≤ (nb n).length ∧ -3 < e ∧ es = intsD acc ∧ acc.length ≤ (nb n).length ∧ (acc.length : Int) + e ≤ (nb n).length ∧ acc ++ dg (valB ((nb n).take e.toNat)) = dg n)) (((S (nb n)).size : Int), [], []) (by kernel_rfl) (conj1 ((canonNb_ok n (by simp only [maxLen]; omega) : SpG g _ _ _ _ _))) (by kernel_rfl) (by kernel_rfl) ?_ ?_
 ·rw [S_size]
  refine ⟨by omega, by omega, rfl, by simp, by simp, ?_⟩
  rw [Int.toNat_natCast, List.take_length, valB_nb]; rfl
 rintro ⟨e, es, acc⟩ ⟨he, hm, hes, ha, hae, hv⟩
 have hlen : es.length = acc.length := by rw [hes, ints_len]
 refine zc hG [] [1, 0] (decide ((e : Int) > 0)) (by kernel_rfl) conj0 (fun hc2 => ?_) (fun hc2 => ?_)
 ·(try simp only [zq5] at hc2)
  refine zL hG [] [0, 1, 0, 1, 0, 0, 1] (fun (zz : Int × Int) => match zz with | (d, k) => ((e - k).toNat, ⟨[(0, [], .c (.d (.s (S (nb n))))), (2, [], .c (.d (.nil))), (3, [], .c (.ar 9001 0)), (4, [], .c (.d (.i e))), (5, [], .c (.d (.i d))), (6, [], .c (.d (.i k)))], [(9001, .arr 0 3 1 (es))]⟩, ((e.toNat - 3 : Nat) : Int) ≤ k ∧ k ≤ e ∧ d = valB (((nb n).take k.toNat).drop (e.toNat - 3)))) (0, (if (0 : Int) > (e - 3) then 0 else (e - 3))) (by kernel_rfl) (conj1 (show inR (e - 3) from (by intros; (try rw [hw]); (try have hm4 := hm3.2 (by omega)); (try simp only [zq6] at *); omega))) (by kernel_rfl) ?_ ?_
  ·refine ⟨by split <;> omega, by split <;> omega, ?_⟩
   rw [List.drop_eq_nil_of_le]
   ·rfl
   ·rw [List.length_take]; split <;> omega
  rintro ⟨d, k⟩ ⟨hk1, hk2, hd⟩
  have hb := byte_lt (nb n) k
  have hw := byte_wrap (nb n) k
  have hm3 := mid_bd (a := nb n) (s := e.toNat - 3) (k := k.toNat) (by omega) (by omega) (by omega)
  refine zc hG [] [1, 0] (decide ((k : Int) < e)) (by kernel_rfl) conj0 (fun hc4 => ?_) (fun hc4 => ?_)
  ·(try simp only [zq5] at hc4)
   refine zD hG [] (d * 256 + IntKind.wrap .i64 (byteAt (S (nb n)) k), k + 1) (by kernel_rfl) (conjC (show inR (d * 256) from (by intros; (try rw [hw]); (try have hm4 := hm3.2 (by omega)); (try simp only [zq6] at *); omega)) (conjC (show (0 : Int) ≤ k ∧ k < ((S (nb n)).size : Int) from (by intros; (try rw [hw]); (try have hm4 := hm3.2 (by omega)); (try simp only [zq6] at *); omega)) (conjC (show inR ((d * 256) + (IntKind.wrap .i64 (byteAt (S (nb n)) k))) from (by intros; (try rw [hw]); (try have hm4 := hm3.2 (by omega)); (try simp only [zq6] at *); omega)) (conj1 (show inR (k + 1) from (by intros; (try rw [hw]); (try have hm4 := hm3.2 (by omega)); (try simp only [zq6] at *); omega)))))) ?_ ?_
   ·(try dsimp only); omega
   ·refine ⟨by omega, by omega, ?_⟩
    have h1 : (k + 1).toNat = k.toNat + 1 := by omega
    rw [h1, mid_step (by omega) (by omega), hw, byteAt_S, hd]
    omega
  ·(try simp only [zq5] at hc4)
   refine zE hG [] (.exit 2) (⟨[(0, [], .c (.d (.s (S (nb n))))), (2, [], .c (.d (.nil))), (3, [], .c (.ar 9001 0)), (4, [], .c (.d (.i e))), (5, [], .c (.d (.i d)))], [(9001, .arr 0 3 1 (es))]⟩) (by kernel_rfl) conj0 rfl ?_
   refine zD hG [] (e - 3, es ++ [[D.i d]], acc ++ [d]) (by kernel_rfl) (conjC (show ((es).length + (([[.i d]] : List (List D))).length) * (8 + 1) ≤ 140737488355328 from (by intros; (try rw [hw]); (try have hm4 := hm3.2 (by omega)); (try simp only [zq6] at *); omega)) (conj1 (show inR (e - 3) from (by intros; (try rw [hw]); (try have hm4 := hm3.2 (by omega)); (try simp only [zq6] at *); omega)))) ?_ ?_
   ·(try dsimp only); omega
   ·have hk0 : k = e := by omega
    subst hk0
    have hst := of_step (n := n) (e := k.toNat) (by omega) (by omega)
    refine ⟨by omega, by omega, by rw [hes, ints_snoc], by simp; omega, by simp; omega, ?_⟩
    have e3 : (k - 3).toNat = k.toNat - 3 := by omega
    rw [e3, ← hv, hst, hd]; simp
 ·(try simp only [zq5] at hc2)
  refine zE hG [] (.exit 0) (⟨[(2, [], .c (.d (.nil))), (3, [], .c (.ar 9001 0))], [(9001, .arr 0 3 1 (es))]⟩) (by kernel_rfl) conj0 rfl ?_
  refine zR hG [] [] (.c (.d (.sl 1 (es)))) [] (by kernel_rfl) conj0 ?_ ?_
  ·have hz : (nb n).take e.toNat = [] := by rw [show e.toNat = 0 by omega]; rfl
   rw [hz, valB_nil, dg_zero, List.append_nil] at hv
   rw [hes, hv]
  ·rfl
def zq7 := And.intro @List.length_map.{0, 0} (@intsD.eq_1)
theorem number_ok (l : List Int) (hD : Dg l) (hl : l.length ≤ 400000000) :
  SpG g 225 [.c (.d (.sl 1 (intsD l)))] [] (.c (.d (.s (S (nb (vd l).toNat))))) [] := by
 refine enterB 35 Tryz.func225 (by kernel_rfl) fun fr hG => ?_
 refine stepLen 0 rfl fun hl0 => ?_
 refine zA hG [] [0, 1, 0, 1, 1] (⟨[(0, [], .c (.d (.sl 1 (intsD l)))), (2, [], .c (.d (.s (S [])))), (3, [], .c (.d (.nil))), (4, [], .c (.d (.i (((intsD l).length : Int) - 1))))], []⟩) [(3, 9001, 5, 1)] [] (fun (zz : Int × List (List D) × List UInt8) => match zz with | (k, es, acc) => ((k + 1).toNat, ⟨[(0, [], .c (.d (.sl 1 (intsD l)))), (2, [], .c (.d (.s (S [])))), (3, [], .c (.ar 9001 0)), (4, [], .c (.d (.i k)))], [(9001, .arr 0 5 1 (es))]⟩, -1 ≤ k ∧ k < l.length ∧ es = bytesD acc ∧ (acc.length : Int) + 3 * k + 3 = 3 * l.length ∧ (valB acc : Int) = vd (l.drop (k + 1).toNat))) (((intsD l).length : Int) - 1, [], []) (by kernel_rfl) (conj1 (show inR (((intsD l).length : Int) - 1) from (by intros; (try simp only [zq4] at *); omega))) (by kernel_rfl) (by kernel_rfl) ?_ ?_
 ·rw [ints_len]
  refine ⟨by omega, by omega, rfl, by rw [List.length_nil]; omega, ?_⟩
  rw [drop_end (by omega)]; rfl
 rintro ⟨k, es, acc⟩ ⟨hk1, hk2, hes, ha, hv⟩
 have hlen : es.length = acc.length := by rw [hes, bytesD_len]
 refine zc hG [] [1, 0] (decide ((k : Int) ≥ 0)) (by kernel_rfl) conj0 (fun hc2 => ?_) (fun hc2 => ?_)
 ·(try simp only [zq5] at hc2)
  refine zD hG [(5, 3, .elem (intD ((l).getD (k : Int).toNat 0))), (5, 9, .elem (intD ((l).getD (k : Int).toNat 0))), (5, 15, .elem (intD ((l).getD (k : Int).toNat 0)))] (k - 1, es ++ [[D.y (IntKind.wrap .u8 (Int.fdiv (l.getD k.toNat 0) (2 ^ min (16 : Int).toNat 64)))], [D.y (IntKind.wrap .u8 (Int.fdiv (l.getD k.toNat 0) (2 ^ min (8 : Int).toNat 64)))], [D.y (IntKind.wrap .u8 (l.getD k.toNat 0))]], acc ++ [u8 (Int.fdiv (l.getD k.toNat 0) (2 ^ min (16 : Int).toNat 64))] ++ [u8 (Int.fdiv (l.getD k.toNat 0) (2 ^ min (8 : Int).toNat 64))] ++ [u8 (l.getD k.toNat 0)]) (by kernel_rfl) (conjC (show (0 : Int) ≤ k ∧ (intsD l)[(k : Int).toNat]? = some (intD ((l).getD (k : Int).toNat 0)) from (by intros; exact map_at _ (by omega) (by (try simp only [zq7] at *); omega))) (conjC (show (0 : Int) ≤ 16 from (by intros; (try simp only [zq4] at *); omega)) (conjC (show (0 : Int) ≤ k ∧ (intsD l)[(k : Int).toNat]? = some (intD ((l).getD (k : Int).toNat 0)) from (by intros; exact map_at _ (by omega) (by (try simp only [zq7] at *); omega))) (conjC (show (0 : Int) ≤ 8 from (by intros; (try simp only [zq4] at *); omega)) (conjC (show (0 : Int) ≤ k ∧ (intsD l)[(k : Int).toNat]? = some (intD ((l).getD (k : Int).toNat 0)) from (by intros; exact map_at _ (by omega) (by (try simp only [zq7] at *); omega))) (conjC (show ((es).length + (([[.y (IntKind.wrap .u8 (Int.fdiv ((l).getD (k : Int).toNat 0) (2 ^ min (16 : Int).toNat 64)))], [.y (IntKind.wrap .u8 (Int.fdiv ((l).getD (k : Int).toNat 0) (2 ^ min (8 : Int).toNat 64)))], [.y (IntKind.wrap .u8 ((l).getD (k : Int).toNat 0))]] : List (List D))).length) * (1 + 1) ≤ 140737488355328 from (by intros; (try simp only [zq4] at *); omega)) (conj1 (show inR (k - 1) from (by intros; (try simp only [zq4] at *); omega))))))))) ?_ ?_
  ·(try dsimp only); omega
  ·have hd := hD.at (k := k.toNat) (by omega)
   refine ⟨by omega, by omega, by rw [hes, bytes_snoc3], by simp; omega, ?_⟩
   have h := number_step (acc := acc) hd.1 hd.2
   have e1 : (k - 1 + 1).toNat = k.toNat := by omega
   have e2 : (k + 1).toNat = k.toNat + 1 := by omega
   rw [e1, drop_at (by omega), ← e2, ← hv]
   have e3 : (2 : Int) ^ min (16 : Int).toNat 64 = 65536 := rfl
   have e4 : (2 : Int) ^ min (8 : Int).toNat 64 = 256 := rfl
   rw [e3, e4, h]; omega
 ·(try simp only [zq5] at hc2)
  refine zE hG [] (.exit 0) (⟨[(2, [], .c (.d (.s (S [])))), (3, [], .c (.ar 9001 0))], [(9001, .arr 0 5 1 (es))]⟩) (by kernel_rfl) conj0 rfl ?_
  refine zR hG [(6, 1, .call (.c (.d (.s (S acc)))) [] []), (6, 2, .call (.c (.d (.s (S (nb (valB (acc))))))) [] [])] [] (.c (.d (.s (S (nb (valB (acc))))))) [] (by kernel_rfl) (conjC (show es = bytesD (S acc).data.toList from (by rw [hes, bytesD_S])) (conj1 ((canon_ok (acc) (by simp only [maxLen]; omega) : SpG g _ _ _ _ _)))) ?_ ?_
  ·have e : valB acc = (vd l).toNat := by
    rw [show (k + 1).toNat = 0 by omega, List.drop_zero] at hv; omega
   rw [e]
  ·rfl
theorem trim_ok (l : List Int) (hD : Dg l) :
  SpG g 296 [.c (.d (.sl 1 (intsD l)))] [] (.c (.d (.sl 1 (intsD (dg (vd l).toNat))))) [] := by
 refine enterB 21 Tryz.func296 (by kernel_rfl) fun fr hG => ?_
 refine stepLen 0 rfl fun hl0 => ?_
 refine zL hG [] [0, 0, 1] (fun (zz : List (List D) × List Int) => match zz with | (es, cur) => (cur.length, ⟨[(0, [], .c (.d (.sl 1 (es)))), (2, [], .c (.d (.nil)))], []⟩, es = intsD cur ∧ Dg cur ∧ vd cur = vd l ∧ cur.length ≤ l.length)) (intsD l, l) (by kernel_rfl) conj0 (by kernel_rfl) ?_ ?_
 ·exact ⟨rfl, hD, rfl, Nat.le_refl _⟩
 rintro ⟨es, cur⟩ ⟨hes, hd, hv, hc⟩
 have hlen : es.length = cur.length := by rw [hes, ints_len]
 refine zc hG [(1, 8, .elem ([.i ((cur).getD (((es).length : Int) - 1 : Int).toNat 0)]))] [1, 0] ((decide ((((es).length : Int) : Int) > 0)) && (decide (((cur).getD (((es).length : Int) - 1 : Int).toNat 0 : Int) = 0))) (by kernel_rfl) (conjC (show (decide ((((es).length : Int) : Int) > 0)) = true → inR (((es).length : Int) - 1) from (by intros; (try simp only [ints_len, inR, maxLen, decide_eq_true_eq] at *); omega)) (conj1 (show (decide ((((es).length : Int) : Int) > 0)) = true → (0 : Int) ≤ (((es).length : Int) - 1) ∧ (es)[(((es).length : Int) - 1 : Int).toNat]? = some ([.i ((cur).getD (((es).length : Int) - 1 : Int).toNat 0)]) from (by intros; (try simp only [decide_eq_true_eq] at *); rw [hes]; exact map_at 0 (by (try simp only [ints_len] at *); omega) (by (try simp only [ints_len] at *); omega))))) (fun hc2 => ?_) (fun hc2 => ?_)
 ·(try simp only [zq5] at hc2)
  refine zD hG [] ((es.take (((es).length : Int) - 1).toNat).drop 0, cur.take (cur.length - 1)) (by kernel_rfl) (conjC (show inR (((es).length : Int) - 1) from (by intros; (try simp only [ints_len, inR, maxLen, decide_eq_true_eq] at *); omega)) (conj1 (show (0 : Int) ≤ 0 ∧ (0 : Int) ≤ (((es).length : Int) - 1) ∧ (((es).length : Int) - 1) ≤ ((es).length : Int) from (by intros; (try simp only [ints_len, inR, maxLen, decide_eq_true_eq] at *); omega)))) ?_ ?_
  ·(try dsimp only)
   rw [List.length_take]; omega
  ·have hz := hc2.2
   rw [show (((es).length : Int) - 1).toNat = cur.length - 1 by omega] at hz ⊢
   refine ⟨by rw [hes, ints_take], hd.take _, by rw [trim_step (by omega) hz, hv], by rw [List.length_take]; omega⟩
 ·(try simp only [zq5] at hc2)
  refine zE hG [] (.exit 0) (⟨[(0, [], .c (.d (.sl 1 (es)))), (2, [], .c (.d (.nil)))], []⟩) (by kernel_rfl) conj0 rfl ?_
  refine zR hG [] [] (.c (.d (.sl 1 (es)))) [] (by kernel_rfl) conj0 ?_ ?_
  ·have ht : Trim cur := by
    rcases hc2 with h | h
    ·left; exact List.eq_nil_of_length_eq_zero (by omega)
    ·right; rw [show (((es).length : Int) - 1).toNat = cur.length - 1 by omega] at h; exact h
   rw [hes, ← hv, ← dg_of hd ht]
  ·rfl
end Go.Proofs.YtdejnaokkdndeaaGreatDoor
namespace Go.Proofs.YtdejnaokkdndeaaGreatDoor
open Go.RowKit Go.V
open Go.Eng (inR byteAt u8 bytesV)
variable {g : Gv}
theorem nb_shorter {x y : Nat} (h : (nb x).length < (nb y).length) : x < y := by
 have := nb_ge.1 h
 have h2 := valB_lt (nb x)
 rw [valB_nb] at h2; omega
theorem number_at {es : List (List D)} {l : List Int} (h : es = intsD l) (hD : Dg l) (hl : l.length ≤ 400000000) : SpG g 225 [.c (.d (.sl 1 es))] [] (.c (.d (.s (S (nb (vd l).toNat))))) [] := by
 subst h; exact number_ok l hD hl
theorem trim_at {es : List (List D)} {l : List Int} {n : Nat} (h : es = intsD l) (hD : Dg l) (hn : vd l = (n : Int)) : SpG g 296 [.c (.d (.sl 1 es))] [] (.c (.d (.sl 1 (intsD (dg n))))) [] := by
 subst h
 have := trim_ok (g := g) l hD
 rw [hn, Int.toNat_natCast] at this; exact this
theorem tdivmod {s : Int} (h : 0 ≤ s) : Int.tmod s 16777216 = s % 16777216 ∧ Int.tdiv s 16777216 = s / 16777216 := ⟨Int.tmod_eq_emod_of_nonneg h, Int.tdiv_eq_ediv_of_nonneg h⟩
theorem carry_step {acc : List Int} {k : Nat} {s X X' T : Int} (ha : acc.length = k) (h0 : 0 ≤ s) (hX : X = s + 16777216 * X') (hI : vd acc + 16777216 ^ k * X = T) : vd (acc ++ [Int.tmod s 16777216]) + 16777216 ^ (k + 1) * (Int.tdiv s 16777216 + X') = T := by
 obtain ⟨e1, e2⟩ := tdivmod h0
 rw [vd_snoc, ha, e1, e2, Int.pow_succ, ← hI, hX]
 have := Int.emod_add_mul_ediv s 16777216
 generalize s % 16777216 = r at *
 generalize s / 16777216 = q at *
 subst this
 grind
theorem tdiv_eq {s : Int} (h : 0 ≤ s) : Int.tdiv s 16777216 = s / 16777216 := Int.tdiv_eq_ediv_of_nonneg h
theorem mod_bd {s : Int} (h : 0 ≤ s) : 0 ≤ Int.tmod s 16777216 ∧ Int.tmod s 16777216 < 16777216 := by rw [(tdivmod h).1]; omega
theorem at_or {l : List Int} (h : Dg l) (k : Nat) : vd (l.drop k) = (if k < l.length then l.getD k 0 else 0) + 16777216 * vd (l.drop (k + 1)) ∧ 0 ≤ (if k < l.length then l.getD k 0 else 0) ∧ (if k < l.length then l.getD k 0 else 0) < 16777216 := by
 by_cases hk : k < l.length
 ·rw [if_pos hk]; exact ⟨drop_at hk, (h.at hk).1, (h.at hk).2⟩
 ·rw [if_neg hk, drop_end (by omega), drop_end (by omega)]; exact ⟨by omega, by omega, by omega⟩
theorem times_bd {d c x : Int} (hd : 0 ≤ d ∧ d < 16777216) (hx : 0 ≤ x ∧ x < 16777216) (hc : 0 ≤ c ∧ c < 16777216) : 0 ≤ x * d ∧ x * d ≤ 281474943156225 ∧ 0 ≤ x * d + c ∧ Int.tdiv (x * d + c) 16777216 < 16777216 ∧ 0 ≤ Int.tdiv (x * d + c) 16777216 := by
 have h1 : 0 ≤ x * d := Int.mul_nonneg hx.1 hd.1
 have h2 : x * d ≤ 16777215 * 16777215 := Int.mul_le_mul (by omega) (by omega) hd.1 (by decide)
 have h3 : (16777215 * 16777215 : Int) = 281474943156225 := by decide
 rw [h3] at h2
 refine ⟨h1, h2, by omega, ?_, ?_⟩ <;> rw [Int.tdiv_eq_ediv_of_nonneg (by omega)] <;> omega
theorem minus_end {acc : List Int} {k : Nat} {V b : Int} {x y : Nat} (ha : acc.length = k) (hD : Dg acc) (hV : 0 ≤ V) (hb : 0 ≤ b) (h : y ≤ x) (hI : vd acc + 16777216 ^ k * (0 - V - b) = (x : Int) - y) : vd acc = ((x - y : Nat) : Int) := by
 have h1 := vd_lt hD
 rw [ha] at h1
 by_cases hz : V + b = 0
 ·rw [show 0 - V - b = 0 by omega, Int.mul_zero] at hI; omega
 ·exfalso
  have h2 : 16777216 ^ k * (0 - V - b) ≤ 16777216 ^ k * (-1) := Int.mul_le_mul_of_nonneg_left (by omega) (Int.le_of_lt (powB_pos k))
  omega
theorem minus_step {acc : List Int} {k : Nat} {e b b' U U' V V' u v T : Int} (ha : acc.length = k) (hU : U = u + 16777216 * U') (hV : V = v + 16777216 * V') (he : e = u - b - v + 16777216 * b') (hI : vd acc + 16777216 ^ k * (U - V - b) = T) : vd (acc ++ [e]) + 16777216 ^ (k + 1) * (U' - V' - b') = T := by
 rw [vd_snoc, ha, Int.pow_succ, ← hI, hU, hV, he]
 grind
theorem ints_set (l : List Int) (k : Nat) (x : Int) : (intsD l).set k [D.i x] = intsD (l.set k x) := by
 simp [intsD, intD, List.map_set]
theorem rep_ints (n : Nat) : List.replicate n [D.i 0] = intsD (List.replicate n 0) := by simp [intsD, intD]
theorem getD_set {l : List Int} {k p : Nat} {x : Int} : (l.set k x).getD p 0 = if k = p ∧ k < l.length then x else l.getD p 0 := by
 simp only [List.getD_eq_getElem?_getD, List.getElem?_set]
 by_cases h : k = p
 ·subst h
  by_cases hk : k < l.length
  ·simp [hk]
  ·simp [hk]
 ·simp [h]
theorem cmp_le {x y : Nat} : cmpL (dg x) (dg y) ≤ 0 ↔ x ≤ y := by
 obtain ⟨h1, h2⟩ := cmpL_sign x y
 constructor
 ·intro h
  by_cases h3 : cmpL (dg x) (dg y) = 0
  ·have := h2.1 h3; omega
  ·have := h1.1 (by omega); omega
 ·intro h
  by_cases h3 : x = y
  ·have := h2.2 h3; omega
  ·have := h1.2 (by omega); omega
theorem cmp_ge {x y : Nat} : cmpL (dg x) (dg y) ≥ 0 ↔ y ≤ x := by
 obtain ⟨h1, h2⟩ := cmpL_sign x y
 constructor
 ·intro h
  rcases Nat.lt_or_ge x y with h3 | h3
  ·have := h1.2 h3; omega
  ·exact h3
 ·intro h
  by_cases h3 : cmpL (dg x) (dg y) < 0
  ·have := h1.1 h3; omega
  ·omega
theorem dg_le {n k : Nat} (h : n < 16777216 ^ k) : (dg n).length ≤ k := by
 induction k generalizing n with
 | zero =>
  have : n = 0 := by omega
  subst this; rw [dg_zero]; simp
 | succ k ih =>
  by_cases h0 : n = 0
  ·subst h0; rw [dg_zero]; simp
  ·rw [dg_pos h0, List.length_cons]
   have := ih (n := n / 16777216) (by rw [Nat.pow_succ] at h; exact Nat.div_lt_of_lt_mul (by rw [Nat.mul_comm]; exact h))
   omega
theorem dg_lt (n : Nat) : n < 16777216 ^ (dg n).length := by
 have h := vd_lt (vd_dg n).2
 rw [(vd_dg n).1, ← pw] at h
 exact Int.ofNat_lt.1 h
theorem dg_mul {y d : Nat} (hd : d < 16777216) : (dg (y * d)).length ≤ (dg y).length + 1 := by
 apply dg_le
 rw [Nat.pow_succ]
 exact Nat.mul_lt_mul'' (dg_lt y) hd
theorem number_dg (r : Nat) (hl : (dg r).length ≤ 400000000) : SpG g 225 [.c (.d (.sl 1 (intsD (dg r))))] [] (.c (.d (.s (S (nb r))))) [] := by
 have h := number_ok (g := g) (dg r) (vd_dg r).2 hl
 rw [(vd_dg r).1, Int.toNat_natCast] at h; exact h
theorem quo_shift {r : Nat} {c : Int} (h0 : 0 ≤ c) : vd (c :: dg r) = ((r * 16777216 + c.toNat : Nat) : Int) := by
 rw [vd, (vd_dg r).1]; omega
theorem quo_dg {r : Nat} {c : Int} (h0 : 0 ≤ c) (h1 : c < 16777216) : Dg (c :: dg r) := Dg.cons h0 h1 (vd_dg r).2
theorem dg_mono {a b : Nat} (h : a ≤ b) : (dg a).length ≤ (dg b).length := by
 rcases Nat.lt_or_ge (dg b).length (dg a).length with h1 | h1
 ·have := dg_len_lt h1; omega
 ·exact h1
theorem dg_rem {r y c : Nat} (h : r * 16777216 + c < y * 16777216) : (dg (r * 16777216 + c)).length ≤ (dg y).length + 1 := by
 apply dg_le
 rw [Nat.pow_succ]
 exact Nat.lt_of_lt_of_le h (Nat.mul_le_mul_right _ (Nat.le_of_lt (dg_lt y)))
def zq8 := And.intro @S_size (And.intro @decide_eq_false_iff_not (And.intro @decide_eq_true_eq (And.intro @Go.Eng.inR.eq_1 (@maxLen.eq_1))))
def zq9 := And.intro @S_size (And.intro @blS (And.intro @byteAt_S (@ints_len)))
theorem int_ok (n : Nat) (hl : (nb n).length ≤ 1000000000) :
  SpG g 221 [.c (.d (.s (S (nb n))))] [] (.tup [(false, [.d (.i (intV n))]), (false, [.d (.b (intK n))])]) [] := by
 refine enterB 35 Tryz.func221 (by kernel_rfl) fun fr hG => ?_
 refine zC hG [(1, 1, .call (.c (.d (.s (S (nb n))))) [] [])] [1, 0, 1, 1] ((decide ((((S (nb n)).size : Int) : Int) > 8)) || ((decide ((((S (nb n)).size : Int) : Int) = 8)) && (decide ((byteAt (S (nb n)) 0 : Int) > 127)))) (⟨[(0, [], .c (.d (.s (S (nb n))))), (2, [], .c (.d (.i 0))), (3, [], .c (.d (.b false)))], []⟩) (by kernel_rfl) (conjC ((canonNb_ok n (by first | omega | (simp only [maxLen]; omega)) : SpG g _ _ _ _ _)) (conj1 (show (decide ((((S (nb n)).size : Int) : Int) = 8)) = true → (decide ((((S (nb n)).size : Int) : Int) > 8)) = false → (0 : Int) ≤ 0 ∧ 0 < ((S (nb n)).size : Int) from (by intros; first | (rw [hw, (hst (by omega)).1]; exact (hst (by omega)).2.2) | ((try simp only [zq8] at *); omega))))) (fun hc1 => ?_) (fun hc1 => ?_)
 ·(try simp only [zq9] at hc1)
  have hbd : ¬ n < 2 ^ 63 := int_big (by rw [show Int.toNat 0 = 0 from rfl] at hc1; omega)
  refine zR hG [] [] (.tup [(false, [.d (.i 0)]), (false, [.d (.b false)])]) [] (by kernel_rfl) conj0 ?_ ?_
  ·rw [intV, intK, if_neg hbd]; (try simp [hbd])
  ·rfl
 ·(try simp only [zq9] at hc1)
  have hbd : n < 2 ^ 63 := int_fits (by have := hc1.1; omega) (by intro h8; have h2 := hc1.2; rw [show Int.toNat 0 = 0 from rfl] at h2; omega)
  refine zL hG [] [0, 1, 0, 1, 1, 1, 1] (fun (zz : Nat × Int) => match zz with | (k, v) => ((nb n).length - k, ⟨[(0, [], .c (.d (.s (S (nb n))))), (2, [], .c (.d (.i 0))), (3, [], .c (.d (.b false))), (4, [], .c (.d (.i v))), (5, [], .c (.d (.i (k : Int))))], []⟩, k ≤ (nb n).length ∧ v = (valB ((nb n).take k) : Int))) (0, 0) (by kernel_rfl) conj0 (by kernel_rfl) ?_ ?_
  ·exact ⟨Nat.zero_le _, rfl⟩
  rintro ⟨k, v⟩ ⟨hk, hv⟩
  have hw := byte_wrap (nb n) (k : Int)
  have hx := byte_lt (nb n) (k : Int)
  have hst : k < (nb n).length → IntKind.wrap .i64 (v * 2 ^ 8) = v * 256 ∧ (valB ((nb n).take (k + 1)) : Int) = v * 256 + ((nb n).getD k 0).toNat ∧ inR (v * 256 + byteAt (S (nb n)) (k : Int)) := by
   intro hk2
   have h1 := valB_take_succ hk2
   have h3 := valB_take_le (nb n) (k + 1)
   rw [valB_nb] at h3
   have h4 := byteAt_S (nb n) (k : Int)
   rw [Int.toNat_natCast] at h4
   refine ⟨?_, by omega, by rw [h4]; unfold inR; omega⟩
   rw [wrap64]
   ·rfl
   ·unfold inR; omega
  refine zc hG [] [1, 0] (decide (((k : Int) : Int) < ((S (nb n)).size : Int))) (by kernel_rfl) conj0 (fun hc3 => ?_) (fun hc3 => ?_)
  ·(try simp only [zq9] at hc3)
   refine zD hG [] (k + 1, IntKind.wrap .i64 (v * 2 ^ 8) + IntKind.wrap .i64 (byteAt (S (nb n)) (k : Int))) (by kernel_rfl) (conjC (show (0 : Int) ≤ (k : Int) ∧ (k : Int) < ((S (nb n)).size : Int) from (by intros; first | (rw [hw, (hst (by omega)).1]; exact (hst (by omega)).2.2) | ((try simp only [zq8] at *); omega))) (conjC (show inR ((IntKind.wrap .i64 (v * 2 ^ 8)) + (IntKind.wrap .i64 (byteAt (S (nb n)) (k : Int)))) from (by intros; first | (rw [hw, (hst (by omega)).1]; exact (hst (by omega)).2.2) | ((try simp only [zq8] at *); omega))) (conj1 (show inR ((k : Int) + 1) from (by intros; first | (rw [hw, (hst (by omega)).1]; exact (hst (by omega)).2.2) | ((try simp only [zq8] at *); omega)))))) ?_ ?_
   ·(try dsimp only); omega
   ·have h2 := hst (by omega)
    refine ⟨by omega, ?_⟩
    rw [hw, h2.1, h2.2.1, byteAt_S, Int.toNat_natCast]
  ·(try simp only [zq9] at hc3)
   refine zE hG [] (.exit 0) (⟨[(2, [], .c (.d (.i 0))), (3, [], .c (.d (.b false))), (4, [], .c (.d (.i v)))], []⟩) (by kernel_rfl) conj0 rfl ?_
   refine zR hG [] [] (.tup [(false, [.d (.i v)]), (false, [.d (.b true)])]) [] (by kernel_rfl) conj0 ?_ ?_
   ·rw [intV, intK, if_pos hbd, hv, show k = (nb n).length by omega, List.take_length, valB_nb]; (try simp [hbd])
   ·rfl
theorem small_ok (n k : Nat) (hk : k ≤ 7) (hl : (nb n).length ≤ 1000000000) :
  SpG g 223 [.c (.d (.s (S (nb n)))), .c (.d (.i (k : Int)))] [] (.tup [(false, [.d (.i (smV n k))]), (false, [.d (.b (smK n k))])]) [] := by
 refine enterB 15 Tryz.func223 (by kernel_rfl) fun fr hG => ?_
 refine zC hG [(1, 1, .call (.c (.d (.s (S (nb n))))) [] [])] [1, 0, 1] (decide ((((S (nb n)).size : Int) : Int) > (k : Int))) (⟨[(0, [], .c (.d (.s (S (nb n))))), (4, [], .c (.d (.i 0))), (5, [], .c (.d (.b false)))], []⟩) (by kernel_rfl) (conj1 ((canonNb_ok n (by first | omega | (simp only [maxLen]; omega)) : SpG g _ _ _ _ _))) (fun hc1 => ?_) (fun hc1 => ?_)
 ·(try simp only [zq9] at hc1)
  refine zR hG [] [] (.tup [(false, [.d (.i 0)]), (false, [.d (.b false)])]) [] (by kernel_rfl) conj0 ?_ ?_
  ·have h1 : ¬ n < 256 ^ k := by have := nb_ge (n := n) (k := k); have h2 := this.1 (by omega); omega
   rw [smV, smK, if_neg h1]; simp [h1]
  ·rfl
 ·(try simp only [zq9] at hc1)
  refine zR hG [(3, 1, .call (.tup [(false, [.d (.i (intV n))]), (false, [.d (.b (intK n))])]) [] [])] [] (.tup [(false, [.d (.i (intV n))]), (false, [.d (.b (intK n))])]) [] (by kernel_rfl) (conj1 ((int_ok n (by first | omega | (simp only [maxLen]; omega)) : SpG g _ _ _ _ _))) ?_ ?_
  ·have h1 : n < 256 ^ k := by
    rcases Nat.lt_or_ge n (256 ^ k) with h | h
    ·exact h
    ·have := (nb_ge (n := n) (k := k)).2 h; omega
   rw [(sm_int hk h1).1, (sm_int hk h1).2]
  ·rfl
def zq10 := And.intro @decide_eq_true_eq (And.intro @Go.Eng.inR.eq_1 (@ints_len))
theorem cmpI_ok (u v : List Int) (hu : Dg u) (hv : Dg v) (hul : u.length ≤ 1000000000) (hvl : v.length ≤ 1000000000) :
  SpG g 297 [.c (.d (.sl 1 (intsD u))), .c (.d (.sl 1 (intsD v)))] [] (.c (.d (.i (cmpL u v)))) [] := by
 refine enterB 41 Tryz.func297 (by kernel_rfl) fun fr hG => ?_
 refine zC hG [] [1, 0, 1] (!decide ((((intsD u).length : Int) : Int) = ((intsD v).length : Int))) (⟨[(0, [], .c (.d (.sl 1 (intsD u)))), (1, [], .c (.d (.sl 1 (intsD v)))), (4, [], .c (.d (.i 0)))], []⟩) (by kernel_rfl) conj0 (fun hc1 => ?_) (fun hc1 => ?_)
 ·(try simp only [zq9] at hc1)
  refine zR hG [] [] (.c (.d (.i (((intsD u).length : Int) - ((intsD v).length : Int))))) [] (by kernel_rfl) (conj1 (show inR (((intsD u).length : Int) - ((intsD v).length : Int)) from (by intros; (try have h1 := hdu (by omega)); (try have h2 := hdv (by omega)); (try simp only [zq10] at *); omega))) ?_ ?_
  ·rw [cmpL, if_neg (by omega), ints_len, ints_len]
  ·rfl
 ·(try simp only [zq9] at hc1)
  refine zL hG [] [0, 1, 0, 1, 1] (fun (zz : Int) => match zz with | k => ((k + 1).toNat, ⟨[(0, [], .c (.d (.sl 1 (intsD u)))), (1, [], .c (.d (.sl 1 (intsD v)))), (4, [], .c (.d (.i 0))), (5, [], .c (.d (.i k)))], []⟩, -1 ≤ k ∧ k < u.length ∧ td (u.drop (k + 1).toNat) (v.drop (k + 1).toNat) = 0)) (((intsD u).length : Int) - 1) (by kernel_rfl) (conj1 (show inR (((intsD u).length : Int) - 1) from (by intros; (try have h1 := hdu (by omega)); (try have h2 := hdv (by omega)); (try simp only [zq10] at *); omega))) (by kernel_rfl) ?_ ?_
  ·rw [ints_len]
   refine ⟨by omega, by omega, ?_⟩
   rw [List.drop_eq_nil_of_le (by omega)]; rfl
  rintro k ⟨hk1, hk2, ht⟩
  have hat : 0 ≤ k → td (u.drop k.toNat) (v.drop k.toNat) = u.getD k.toNat 0 - v.getD k.toNat 0 := fun h0 => td_at (by omega) (by omega) (by rw [show k.toNat + 1 = (k + 1).toNat by omega]; exact ht)
  have hdu : 0 ≤ k → 0 ≤ u.getD k.toNat 0 ∧ u.getD k.toNat 0 < 16777216 := fun h0 => hu.at (by omega)
  have hdv : 0 ≤ k → 0 ≤ v.getD k.toNat 0 ∧ v.getD k.toNat 0 < 16777216 := fun h0 => hv.at (by omega)
  refine zc hG [] [1, 0] (decide ((k : Int) ≥ 0)) (by kernel_rfl) conj0 (fun hc3 => ?_) (fun hc3 => ?_)
  ·(try simp only [zq9] at hc3)
   refine zc hG [(6, 2, .elem (intD ((u).getD (k : Int).toNat 0))), (6, 6, .elem (intD ((v).getD (k : Int).toNat 0)))] [1, 0, 0, 1] (!decide (((u).getD (k : Int).toNat 0 : Int) = ((v).getD (k : Int).toNat 0))) (by kernel_rfl) (conjC (show (0 : Int) ≤ k ∧ (intsD u)[(k : Int).toNat]? = some (intD ((u).getD (k : Int).toNat 0)) from (by intros; exact map_at _ (by omega) (by (try simp only [zq7] at *); omega))) (conj1 (show (0 : Int) ≤ k ∧ (intsD v)[(k : Int).toNat]? = some (intD ((v).getD (k : Int).toNat 0)) from (by intros; exact map_at _ (by omega) (by (try simp only [zq7] at *); omega))))) (fun hc4 => ?_) (fun hc4 => ?_)
   ·(try simp only [zq9] at hc4)
    refine zE hG [(7, 2, .elem (intD ((u).getD (k : Int).toNat 0))), (7, 6, .elem (intD ((v).getD (k : Int).toNat 0)))] .ret (⟨[(4, [], .c (.d (.i (((u).getD (k : Int).toNat 0) - ((v).getD (k : Int).toNat 0)))))], []⟩) (by kernel_rfl) (conjC (show (0 : Int) ≤ k ∧ (intsD u)[(k : Int).toNat]? = some (intD ((u).getD (k : Int).toNat 0)) from (by intros; exact map_at _ (by omega) (by (try simp only [zq7] at *); omega))) (conjC (show (0 : Int) ≤ k ∧ (intsD v)[(k : Int).toNat]? = some (intD ((v).getD (k : Int).toNat 0)) from (by intros; exact map_at _ (by omega) (by (try simp only [zq7] at *); omega))) (conj1 (show inR (((u).getD (k : Int).toNat 0) - ((v).getD (k : Int).toNat 0)) from (by intros; (try have h1 := hdu (by omega)); (try have h2 := hdv (by omega)); (try simp only [zq10] at *); omega))))) rfl ?_
    refine zR hG [] [] (.c (.d (.i (((u).getD (k : Int).toNat 0) - ((v).getD (k : Int).toNat 0))))) [] (by kernel_rfl) conj0 ?_ ?_
    ·rw [cmpL, if_pos (by omega), td_drop k.toNat (by rw [hat (by omega)]; omega), hat (by omega)]
    ·rfl
   ·(try simp only [zq9] at hc4)
    refine zD hG [] (k - 1) (by kernel_rfl) (conj1 (show inR (k - 1) from (by intros; (try have h1 := hdu (by omega)); (try have h2 := hdv (by omega)); (try simp only [zq10] at *); omega))) ?_ ?_
    ·(try dsimp only); omega
    ·refine ⟨by omega, by omega, ?_⟩
     rw [show (k - 1 + 1).toNat = k.toNat by omega, hat (by omega)]; omega
  ·(try simp only [zq9] at hc3)
   refine zE hG [] (.exit 0) (⟨[(4, [], .c (.d (.i 0)))], []⟩) (by kernel_rfl) conj0 rfl ?_
   refine zR hG [] [] (.c (.d (.i 0))) [] (by kernel_rfl) conj0 ?_ ?_
   ·rw [show (k + 1).toNat = 0 by omega, List.drop_zero, List.drop_zero] at ht
    rw [cmpL, if_pos (by omega), ht]
   ·rfl
def zq11 := And.intro @List.length_append.{0} (And.intro @List.length_cons.{0} (And.intro @List.length_nil.{0} (And.intro @decide_eq_true_eq (And.intro @Go.Eng.inR.eq_1 (@ints_len)))))
theorem times_ok (y : Nat) (d : Int) (hd : 0 ≤ d ∧ d < 16777216) (hl : (dg y).length ≤ 400000000) :
  SpG g 300 [.c (.d (.sl 1 (intsD (dg y)))), .c (.d (.i d))] [] (.c (.d (.sl 1 (intsD (dg (y * d.toNat)))))) [] := by
 refine enterB 35 Tryz.func300 (by kernel_rfl) fun fr hG => ?_
 refine stepLen 0 rfl fun hl0 => ?_
 refine zA hG [] [0, 1, 0, 1, 1, 1] (⟨[(0, [], .c (.d (.sl 1 (intsD (dg y))))), (1, [], .c (.d (.i d))), (4, [], .c (.d (.nil))), (5, [], .c (.d (.nil))), (6, [], .c (.d (.i 0))), (7, [], .c (.d (.i 0)))], []⟩) [(5, 9001, 3, 1)] [] (fun (zz : Nat × Int × List (List D) × List Int) => match zz with | (k, c, es, acc) => ((dg y).length - k, ⟨[(0, [], .c (.d (.sl 1 (intsD (dg y))))), (1, [], .c (.d (.i d))), (4, [], .c (.d (.nil))), (5, [], .c (.ar 9001 0)), (6, [], .c (.d (.i c))), (7, [], .c (.d (.i (k : Int))))], [(9001, .arr 0 3 1 (es))]⟩, k ≤ (dg y).length ∧ acc.length = k ∧ es = intsD acc ∧ Dg acc ∧ (0 ≤ c ∧ c < 16777216) ∧ vd acc + 16777216 ^ k * (c + vd ((dg y).drop k) * d) = y * d)) (0, 0, [], []) (by kernel_rfl) conj0 (by kernel_rfl) (by kernel_rfl) ?_ ?_
 ·refine ⟨Nat.zero_le _, rfl, rfl, Dg.nil, by omega, ?_⟩
  rw [List.drop_zero, (vd_dg y).1, vd]; simp
 rintro ⟨k, c, es, acc⟩ ⟨hk, ha, hes, hD, hc, hI⟩
 have hlen : es.length = k := by rw [hes, ints_len, ha]
 have hyk : k < (dg y).length → 0 ≤ (dg y).getD k 0 ∧ (dg y).getD k 0 < 16777216 := fun h => (vd_dg y).2.at h
 refine zc hG [] [1, 0] (decide (((k : Int) : Int) < ((intsD (dg y)).length : Int))) (by kernel_rfl) conj0 (fun hc2 => ?_) (fun hc2 => ?_)
 ·(try simp only [zq9] at hc2)
  refine zD hG [(6, 2, .elem (intD ((dg y).getD k 0)))] (k + 1, Int.tdiv ((dg y).getD k 0 * d + c) 16777216, es ++ [[D.i (Int.tmod ((dg y).getD k 0 * d + c) 16777216)]], acc ++ [Int.tmod ((dg y).getD k 0 * d + c) 16777216]) (by kernel_rfl) (conjC (show (0 : Int) ≤ (k : Int) ∧ (intsD (dg y))[k]? = some (intD ((dg y).getD k 0)) from (by intros; exact map_at _ (by omega) (by (try simp only [zq7] at *); omega))) (conjC (show inR (((dg y).getD k 0) * d) from (by intros; (try have hb := times_bd hd (hyk (by omega)) hc); (try simp only [zq11] at *); omega)) (conjC (show inR ((((dg y).getD k 0) * d) + c) from (by intros; (try have hb := times_bd hd (hyk (by omega)) hc); (try simp only [zq11] at *); omega)) (conjC (show 16777216 ≠ (0 : Int) from (by intros; (try have hb := times_bd hd (hyk (by omega)) hc); (try simp only [zq11] at *); omega)) (conjC (show ((es).length + (([[.i (Int.tmod ((((dg y).getD k 0) * d) + c) 16777216)]] : List (List D))).length) * (8 + 1) ≤ 140737488355328 from (by intros; (try have hb := times_bd hd (hyk (by omega)) hc); (try simp only [zq11] at *); omega)) (conjC (show 16777216 ≠ (0 : Int) ∧ inR (Int.tdiv ((((dg y).getD k 0) * d) + c) 16777216) from (by intros; (try have hb := times_bd hd (hyk (by omega)) hc); (try simp only [zq11] at *); omega)) (conj1 (show inR ((k : Int) + 1) from (by intros; (try have hb := times_bd hd (hyk (by omega)) hc); (try simp only [zq11] at *); omega))))))))) ?_ ?_
  ·(try dsimp only); omega
  ·have hb := times_bd hd (hyk (by omega)) hc
   have hm := mod_bd hb.2.2.1
   refine ⟨by omega, by simp [ha], by rw [hes, ints_snoc], hD.snoc hm.1 hm.2, ⟨hb.2.2.2.2, hb.2.2.2.1⟩, ?_⟩
   have hst := carry_step (s := (dg y).getD k 0 * d + c) (X' := vd ((dg y).drop (k + 1)) * d) ha hb.2.2.1 (by rw [drop_at (by omega), Int.add_mul]; grind) hI
   exact hst
 ·(try simp only [zq9] at hc2)
  refine zE hG [] (.exit 0) (⟨[(4, [], .c (.d (.nil))), (5, [], .c (.ar 9001 0)), (6, [], .c (.d (.i c)))], [(9001, .arr 0 3 1 (es))]⟩) (by kernel_rfl) conj0 rfl ?_
  exact zr hG [(9, 3, .elem []), (9, 4, .call (.c (.d (.sl 1 (intsD (dg (y * d.toNat)))))) [] [])] [] (by kernel_rfl) (conjC (show ((es).length + (([[.i c]] : List (List D))).length) * (8 + 1) ≤ 140737488355328 from (by intros; (try have hb := times_bd hd (hyk (by omega)) hc); (try simp only [zq11] at *); omega)) (conj1 ((trim_at (es := es ++ ([[.i c]] : List (List D))) (l := acc ++ [c]) (n := y * d.toNat) (by rw [hes, ints_snoc]) (hD.snoc hc.1 hc.2) (by
  have hk9 : k = (dg y).length := by omega
  rw [hk9, drop_end (Nat.le_refl _), Int.zero_mul, Int.add_zero] at hI
  rw [vd_snoc, ha, hk9, hI]; push_cast; rw [show ((d.toNat : Nat) : Int) = d by omega]) : SpG g _ _ _ _ _))))
theorem minus_ok (x y : Nat) (h : y ≤ x) (hl : (dg x).length ≤ 400000000) (hl2 : (dg y).length ≤ 400000000) :
  SpG g 299 [.c (.d (.sl 1 (intsD (dg x)))), .c (.d (.sl 1 (intsD (dg y))))] [] (.c (.d (.sl 1 (intsD (dg (x - y)))))) [] := by
 refine enterB 41 Tryz.func299 (by kernel_rfl) fun fr hG => ?_
 refine stepLen 0 rfl fun hl0 => ?_
 refine stepLen 1 rfl fun hl1 => ?_
 refine zA hG [] [0, 1, 0, 1, 1, 1] (⟨[(0, [], .c (.d (.sl 1 (intsD (dg x))))), (1, [], .c (.d (.sl 1 (intsD (dg y))))), (4, [], .c (.d (.nil))), (5, [], .c (.d (.nil))), (6, [], .c (.d (.i 0))), (7, [], .c (.d (.i 0)))], []⟩) [(5, 9001, 3, 1)] [] (fun (zz : Nat × Int × List (List D) × List Int) => match zz with | (k, b, es, acc) => ((dg x).length - k, ⟨[(0, [], .c (.d (.sl 1 (intsD (dg x))))), (1, [], .c (.d (.sl 1 (intsD (dg y))))), (4, [], .c (.d (.nil))), (5, [], .c (.ar 9001 0)), (6, [], .c (.d (.i b))), (7, [], .c (.d (.i (k : Int))))], [(9001, .arr 0 3 1 (es))]⟩, k ≤ (dg x).length ∧ acc.length = k ∧ es = intsD acc ∧ Dg acc ∧ (0 ≤ b ∧ b ≤ 1) ∧ vd acc + 16777216 ^ k * (vd ((dg x).drop k) - vd ((dg y).drop k) - b) = (x : Int) - y)) (0, 0, [], []) (by kernel_rfl) conj0 (by kernel_rfl) (by kernel_rfl) ?_ ?_
 ·refine ⟨Nat.zero_le _, rfl, rfl, Dg.nil, by omega, ?_⟩
  rw [List.drop_zero, List.drop_zero, (vd_dg y).1, (vd_dg x).1, vd]; simp
 rintro ⟨k, b, es, acc⟩ ⟨hk, ha, hes, hD, hb, hI⟩
 have hlen : es.length = k := by rw [hes, ints_len, ha]
 obtain ⟨hu1, hu2, hu3⟩ := at_or (vd_dg x).2 k
 obtain ⟨hv1, hv2, hv3⟩ := at_or (vd_dg y).2 k
 have hxk : k < (dg x).length → 0 ≤ (dg x).getD k 0 ∧ (dg x).getD k 0 < 16777216 := fun h => (vd_dg x).2.at h
 have hyk : k < (dg y).length → 0 ≤ (dg y).getD k 0 ∧ (dg y).getD k 0 < 16777216 := fun h => (vd_dg y).2.at h
 refine zc hG [] [1, 0] (decide (((k : Int) : Int) < ((intsD (dg x)).length : Int))) (by kernel_rfl) conj0 (fun hc2 => ?_) (fun hc2 => ?_)
 ·(try simp only [zq9] at hc2)
  refine zC hG [(6, 2, .elem (intD ((dg x).getD k 0)))] [1, 0, 1, 0, 0, 1] (decide (((k : Int) : Int) < ((intsD (dg y)).length : Int))) (⟨[(0, [], .c (.d (.sl 1 (intsD (dg x))))), (1, [], .c (.d (.sl 1 (intsD (dg y))))), (4, [], .c (.d (.nil))), (5, [], .c (.ar 9001 0)), (6, [], .c (.d (.i b))), (7, [], .c (.d (.i (k : Int)))), (8, [], .c (.d (.i (((dg x).getD k 0) - b))))], [(9001, .arr 0 3 1 (es))]⟩) (by kernel_rfl) (conjC (show (0 : Int) ≤ (k : Int) ∧ (intsD (dg x))[k]? = some (intD ((dg x).getD k 0)) from (by intros; exact map_at _ (by omega) (by (try simp only [zq7] at *); omega))) (conj1 (show inR (((dg x).getD k 0) - b) from (by intros; (try have hx9 := hxk (by omega)); (try have hy9 := hyk (by omega)); (try simp only [zq11] at *); omega)))) (fun hc3 => ?_) (fun hc3 => ?_)
  ·(try simp only [zq9] at hc3)
   refine zC hG [(8, 3, .elem (intD ((dg y).getD k 0)))] [1, 0, 1, 1, 1, 0, 0, 1] (decide (((((dg x).getD k 0) - b) - ((dg y).getD k 0) : Int) < 0)) (⟨[(0, [], .c (.d (.sl 1 (intsD (dg x))))), (1, [], .c (.d (.sl 1 (intsD (dg y))))), (4, [], .c (.d (.nil))), (5, [], .c (.ar 9001 0)), (6, [], .c (.d (.i 0))), (7, [], .c (.d (.i (k : Int)))), (8, [], .c (.d (.i ((((dg x).getD k 0) - b) - ((dg y).getD k 0)))))], [(9001, .arr 0 3 1 (es))]⟩) (by kernel_rfl) (conjC (show (0 : Int) ≤ (k : Int) ∧ (intsD (dg y))[k]? = some (intD ((dg y).getD k 0)) from (by intros; exact map_at _ (by omega) (by (try simp only [zq7] at *); omega))) (conj1 (show inR ((((dg x).getD k 0) - b) - ((dg y).getD k 0)) from (by intros; (try have hx9 := hxk (by omega)); (try have hy9 := hyk (by omega)); (try simp only [zq11] at *); omega)))) (fun hc4 => ?_) (fun hc4 => ?_)
   ·(try simp only [zq9] at hc4)
    refine zD hG [] (k + 1, 1, es ++ [[D.i ((((dg x).getD k 0 - b) - (dg y).getD k 0) + 16777216)]], acc ++ [(((dg x).getD k 0 - b) - (dg y).getD k 0) + 16777216]) (by kernel_rfl) (conjC (show inR (((((dg x).getD k 0) - b) - ((dg y).getD k 0)) + 16777216) from (by intros; (try have hx9 := hxk (by omega)); (try have hy9 := hyk (by omega)); (try simp only [zq11] at *); omega)) (conjC (show ((es).length + (([[.i (((((dg x).getD k 0) - b) - ((dg y).getD k 0)) + 16777216)]] : List (List D))).length) * (8 + 1) ≤ 140737488355328 from (by intros; (try have hx9 := hxk (by omega)); (try have hy9 := hyk (by omega)); (try simp only [zq11] at *); omega)) (conj1 (show inR ((k : Int) + 1) from (by intros; (try have hx9 := hxk (by omega)); (try have hy9 := hyk (by omega)); (try simp only [zq11] at *); omega))))) ?_ ?_
    ·(try dsimp only); omega
    ·rw [if_pos (by omega)] at hu1 hu2 hu3
     rw [if_pos (by omega)] at hv1 hv2 hv3
     refine ⟨by omega, by simp [ha], by rw [hes, ints_snoc], hD.snoc (by omega) (by omega), by omega, ?_⟩
     exact minus_step (e := (((dg x).getD k 0 - b) - (dg y).getD k 0) + 16777216) (b' := 1) ha hu1 hv1 (by omega) hI
   ·(try simp only [zq9] at hc4)
    refine zD hG [] (k + 1, 0, es ++ [[D.i (((dg x).getD k 0 - b) - (dg y).getD k 0)]], acc ++ [((dg x).getD k 0 - b) - (dg y).getD k 0]) (by kernel_rfl) (conjC (show ((es).length + (([[.i ((((dg x).getD k 0) - b) - ((dg y).getD k 0))]] : List (List D))).length) * (8 + 1) ≤ 140737488355328 from (by intros; (try have hx9 := hxk (by omega)); (try have hy9 := hyk (by omega)); (try simp only [zq11] at *); omega)) (conj1 (show inR ((k : Int) + 1) from (by intros; (try have hx9 := hxk (by omega)); (try have hy9 := hyk (by omega)); (try simp only [zq11] at *); omega)))) ?_ ?_
    ·(try dsimp only); omega
    ·rw [if_pos (by omega)] at hu1 hu2 hu3
     rw [if_pos (by omega)] at hv1 hv2 hv3
     refine ⟨by omega, by simp [ha], by rw [hes, ints_snoc], hD.snoc (by omega) (by omega), by omega, ?_⟩
     exact minus_step (e := ((dg x).getD k 0 - b) - (dg y).getD k 0) (b' := 0) ha hu1 hv1 (by omega) hI
  ·(try simp only [zq9] at hc3)
   refine zC hG [] [1, 0, 1, 1, 1, 0, 0, 1] (decide ((((dg x).getD k 0) - b : Int) < 0)) (⟨[(0, [], .c (.d (.sl 1 (intsD (dg x))))), (1, [], .c (.d (.sl 1 (intsD (dg y))))), (4, [], .c (.d (.nil))), (5, [], .c (.ar 9001 0)), (6, [], .c (.d (.i 0))), (7, [], .c (.d (.i (k : Int)))), (8, [], .c (.d (.i (((dg x).getD k 0) - b))))], [(9001, .arr 0 3 1 (es))]⟩) (by kernel_rfl) conj0 (fun hc5 => ?_) (fun hc5 => ?_)
   ·(try simp only [zq9] at hc5)
    refine zD hG [] (k + 1, 1, es ++ [[D.i (((dg x).getD k 0 - b) + 16777216)]], acc ++ [((dg x).getD k 0 - b) + 16777216]) (by kernel_rfl) (conjC (show inR ((((dg x).getD k 0) - b) + 16777216) from (by intros; (try have hx9 := hxk (by omega)); (try have hy9 := hyk (by omega)); (try simp only [zq11] at *); omega)) (conjC (show ((es).length + (([[.i ((((dg x).getD k 0) - b) + 16777216)]] : List (List D))).length) * (8 + 1) ≤ 140737488355328 from (by intros; (try have hx9 := hxk (by omega)); (try have hy9 := hyk (by omega)); (try simp only [zq11] at *); omega)) (conj1 (show inR ((k : Int) + 1) from (by intros; (try have hx9 := hxk (by omega)); (try have hy9 := hyk (by omega)); (try simp only [zq11] at *); omega))))) ?_ ?_
    ·(try dsimp only); omega
    ·rw [if_pos (by omega)] at hu1 hu2 hu3
     rw [if_neg (by omega)] at hv1 hv2 hv3
     refine ⟨by omega, by simp [ha], by rw [hes, ints_snoc], hD.snoc (by omega) (by omega), by omega, ?_⟩
     exact minus_step (e := ((dg x).getD k 0 - b) + 16777216) (b' := 1) ha hu1 hv1 (by omega) hI
   ·(try simp only [zq9] at hc5)
    refine zD hG [] (k + 1, 0, es ++ [[D.i ((dg x).getD k 0 - b)]], acc ++ [(dg x).getD k 0 - b]) (by kernel_rfl) (conjC (show ((es).length + (([[.i (((dg x).getD k 0) - b)]] : List (List D))).length) * (8 + 1) ≤ 140737488355328 from (by intros; (try have hx9 := hxk (by omega)); (try have hy9 := hyk (by omega)); (try simp only [zq11] at *); omega)) (conj1 (show inR ((k : Int) + 1) from (by intros; (try have hx9 := hxk (by omega)); (try have hy9 := hyk (by omega)); (try simp only [zq11] at *); omega)))) ?_ ?_
    ·(try dsimp only); omega
    ·rw [if_pos (by omega)] at hu1 hu2 hu3
     rw [if_neg (by omega)] at hv1 hv2 hv3
     refine ⟨by omega, by simp [ha], by rw [hes, ints_snoc], hD.snoc (by omega) (by omega), by omega, ?_⟩
     exact minus_step (e := (dg x).getD k 0 - b) (b' := 0) ha hu1 hv1 (by omega) hI
 ·(try simp only [zq9] at hc2)
  refine zE hG [] (.exit 0) (⟨[(4, [], .c (.d (.nil))), (5, [], .c (.ar 9001 0))], [(9001, .arr 0 3 1 (es))]⟩) (by kernel_rfl) conj0 rfl ?_
  refine stepK hG (⟨[(4, [], .c (.d (.nil))), (5, [], .c (.d (.sl 1 (es))))], []⟩) (by kernel_rfl) ?_
  exact zr hG [(14, 1, .call (.c (.d (.sl 1 (intsD (dg (x - y)))))) [] [])] [] (by kernel_rfl) (conj1 ((trim_at (es := es) (l := acc) (n := x - y) hes hD (by
  have hk9 : k = (dg x).length := by omega
  have hz : vd ((dg x).drop k) = 0 := drop_end (by omega)
  rw [hz] at hI
  exact minus_end ha hD (vd_nonneg ((vd_dg y).2.drop k)) hb.1 h hI) : SpG g _ _ _ _ _)))
theorem add_ok (x y : Nat) (hx : (nb x).length ≤ 900000000) (hy : (nb y).length ≤ 900000000) :
  SpG g 168 [.c (.d (.s (S (nb x)))), .c (.d (.s (S (nb y))))] [] (.c (.d (.s (S (nb (x + y)))))) [] := by
 have lx := dg_len (n := x) (k := 300000000) (by omega)
 have ly := dg_len (n := y) (k := 300000000) (by omega)
 have hsx : 0 ≤ smV x 7 ∧ smV x 7 < 72057594037927936 := by unfold smV; split <;> omega
 have hsy : 0 ≤ smV y 7 ∧ smV y 7 < 72057594037927936 := by unfold smV; split <;> omega
 refine enterB 83 Tryz.func168 (by kernel_rfl) fun fr hG => ?_
 refine zC hG [(1, 1, .call (.tup [(false, [.d (.i (smV x 7))]), (false, [.d (.b (smK x 7))])]) [] []), (2, 1, .call (.tup [(false, [.d (.i (smV y 7))]), (false, [.d (.b (smK y 7))])]) [] [])] [1, 0, 1, 1, 1] ((smK x 7) && (smK y 7)) (⟨[(0, [], .c (.d (.s (S (nb x))))), (1, [], .c (.d (.s (S (nb y))))), (4, [], .c (.d (.s (S [])))), (5, [], .c (.d (.i (smV x 7)))), (7, [], .c (.d (.i (smV y 7))))], []⟩) (by kernel_rfl) (conjC ((small_ok x 7 (by decide) (by omega) : SpG g _ _ _ _ _)) (conj1 ((small_ok y 7 (by decide) (by omega) : SpG g _ _ _ _ _)))) (fun hc1 => ?_) (fun hc1 => ?_)
 ·(try simp only [zq9] at hc1)
  refine zR hG [(4, 3, .call (.c (.d (.s (S (nb ((smV x 7) + (smV y 7)).toNat))))) [] [])] [] (.c (.d (.s (S (nb ((smV x 7) + (smV y 7)).toNat))))) [] (by kernel_rfl) (conjC (show inR ((smV x 7) + (smV y 7)) from (by intros; (try have hx9 := hxk (by omega)); (try have hy9 := hyk (by omega)); (try simp only [zq11] at *); first | omega | (rw [tdiv_eq] <;> omega))) (conj1 ((of_ok ((smV x 7) + (smV y 7)) (by omega) : SpG g _ _ _ _ _)))) ?_ ?_
  ·have h1 : x < 256 ^ 7 ∧ y < 256 ^ 7 := by simpa [smK] using hc1
   have e1 : smV x 7 = x := if_pos h1.1
   have e2 : smV y 7 = y := if_pos h1.2
   rw [e1, e2, show ((x : Int) + y).toNat = x + y by omega]
  ·rfl
 ·(try simp only [zq9] at hc1)
  refine zA hG [(5, 1, .call (.c (.d (.sl 1 (intsD (dg x))))) [] []), (6, 1, .call (.c (.d (.sl 1 (intsD (dg y))))) [] [])] [0, 1, 0, 1, 1, 1, 1, 1, 1, 1, 1] (⟨[(4, [], .c (.d (.s (S [])))), (9, [], .c (.d (.sl 1 (intsD (dg x))))), (10, [], .c (.d (.sl 1 (intsD (dg y))))), (11, [], .c (.d (.nil))), (12, [], .c (.d (.i 0))), (13, [], .c (.d (.i 0)))], []⟩) [(11, 9001, 3, 1)] [] (fun (zz : Nat × Int × List (List D) × List Int) => match zz with | (k, c, es, acc) => ((max (dg x).length (dg y).length) + 1 - k, ⟨[(4, [], .c (.d (.s (S [])))), (9, [], .c (.d (.sl 1 (intsD (dg x))))), (10, [], .c (.d (.sl 1 (intsD (dg y))))), (11, [], .c (.ar 9001 0)), (12, [], .c (.d (.i c))), (13, [], .c (.d (.i (k : Int))))], [(9001, .arr 0 3 1 (es))]⟩, k ≤ (max (dg x).length (dg y).length) + 1 ∧ (k = (max (dg x).length (dg y).length) + 1 → c = 0) ∧ acc.length = k ∧ es = intsD acc ∧ Dg acc ∧ (0 ≤ c ∧ c ≤ 1) ∧ vd acc + 16777216 ^ k * (c + vd ((dg x).drop k) + vd ((dg y).drop k)) = (x : Int) + y)) (0, 0, [], []) (by kernel_rfl) (conjC ((ofD_ok x (by omega) : SpG g _ _ _ _ _)) (conj1 ((ofD_ok y (by omega) : SpG g _ _ _ _ _)))) (by kernel_rfl) (by kernel_rfl) ?_ ?_
  ·refine ⟨Nat.zero_le _, by omega, rfl, rfl, Dg.nil, by omega, ?_⟩
   rw [List.drop_zero, List.drop_zero, (vd_dg y).1, (vd_dg x).1, vd]; simp
  rintro ⟨k, c, es, acc⟩ ⟨hk, hkc, ha, hes, hD, hc, hI⟩
  have hlen : es.length = k := by rw [hes, ints_len, ha]
  obtain ⟨hu1, hu2, hu3⟩ := at_or (vd_dg x).2 k
  obtain ⟨hv1, hv2, hv3⟩ := at_or (vd_dg y).2 k
  have hxk : k < (dg x).length → 0 ≤ (dg x).getD k 0 ∧ (dg x).getD k 0 < 16777216 := fun h => (vd_dg x).2.at h
  have hyk : k < (dg y).length → 0 ≤ (dg y).getD k 0 ∧ (dg y).getD k 0 < 16777216 := fun h => (vd_dg y).2.at h
  refine zc hG [] [1, 0] (((decide (((k : Int) : Int) < ((intsD (dg x)).length : Int))) || (decide (((k : Int) : Int) < ((intsD (dg y)).length : Int)))) || (decide ((c : Int) > 0))) (by kernel_rfl) conj0 (fun hc3 => ?_) (fun hc3 => ?_)
  ·(try simp only [zq9] at hc3)
   refine zC hG [] [1, 0, 1, 0, 0, 1] (decide (((k : Int) : Int) < ((intsD (dg x)).length : Int))) (⟨[(4, [], .c (.d (.s (S [])))), (9, [], .c (.d (.sl 1 (intsD (dg x))))), (10, [], .c (.d (.sl 1 (intsD (dg y))))), (11, [], .c (.ar 9001 0)), (12, [], .c (.d (.i c))), (13, [], .c (.d (.i (k : Int)))), (14, [], .c (.d (.i c)))], [(9001, .arr 0 3 1 (es))]⟩) (by kernel_rfl) conj0 (fun hc4 => ?_) (fun hc4 => ?_)
   ·(try simp only [zq9] at hc4)
    refine zC hG [(14, 3, .elem (intD ((dg x).getD k 0)))] [1, 0, 1, 1, 0, 0, 1] (decide (((k : Int) : Int) < ((intsD (dg y)).length : Int))) (⟨[(4, [], .c (.d (.s (S [])))), (9, [], .c (.d (.sl 1 (intsD (dg x))))), (10, [], .c (.d (.sl 1 (intsD (dg y))))), (11, [], .c (.ar 9001 0)), (12, [], .c (.d (.i c))), (13, [], .c (.d (.i (k : Int)))), (14, [], .c (.d (.i (c + ((dg x).getD k 0)))))], [(9001, .arr 0 3 1 (es))]⟩) (by kernel_rfl) (conjC (show (0 : Int) ≤ (k : Int) ∧ (intsD (dg x))[k]? = some (intD ((dg x).getD k 0)) from (by intros; exact map_at _ (by omega) (by (try simp only [zq7] at *); omega))) (conj1 (show inR (c + ((dg x).getD k 0)) from (by intros; (try have hx9 := hxk (by omega)); (try have hy9 := hyk (by omega)); (try simp only [zq11] at *); first | omega | (rw [tdiv_eq] <;> omega))))) (fun hc5 => ?_) (fun hc5 => ?_)
    ·(try simp only [zq9] at hc5)
     refine zD hG [(16, 3, .elem (intD ((dg y).getD k 0)))] (k + 1, Int.tdiv ((c + (dg x).getD k 0) + (dg y).getD k 0) 16777216, es ++ [[D.i (Int.tmod ((c + (dg x).getD k 0) + (dg y).getD k 0) 16777216)]], acc ++ [Int.tmod ((c + (dg x).getD k 0) + (dg y).getD k 0) 16777216]) (by kernel_rfl) (conjC (show (0 : Int) ≤ (k : Int) ∧ (intsD (dg y))[k]? = some (intD ((dg y).getD k 0)) from (by intros; exact map_at _ (by omega) (by (try simp only [zq7] at *); omega))) (conjC (show inR ((c + ((dg x).getD k 0)) + ((dg y).getD k 0)) from (by intros; (try have hx9 := hxk (by omega)); (try have hy9 := hyk (by omega)); (try simp only [zq11] at *); first | omega | (rw [tdiv_eq] <;> omega))) (conjC (show 16777216 ≠ (0 : Int) from (by intros; (try have hx9 := hxk (by omega)); (try have hy9 := hyk (by omega)); (try simp only [zq11] at *); first | omega | (rw [tdiv_eq] <;> omega))) (conjC (show ((es).length + (([[.i (Int.tmod ((c + ((dg x).getD k 0)) + ((dg y).getD k 0)) 16777216)]] : List (List D))).length) * (8 + 1) ≤ 140737488355328 from (by intros; (try have hx9 := hxk (by omega)); (try have hy9 := hyk (by omega)); (try simp only [zq11] at *); first | omega | (rw [tdiv_eq] <;> omega))) (conjC (show 16777216 ≠ (0 : Int) ∧ inR (Int.tdiv ((c + ((dg x).getD k 0)) + ((dg y).getD k 0)) 16777216) from (by intros; (try have hx9 := hxk (by omega)); (try have hy9 := hyk (by omega)); (try simp only [zq11] at *); first | omega | (rw [tdiv_eq] <;> omega))) (conj1 (show inR ((k : Int) + 1) from (by intros; (try have hx9 := hxk (by omega)); (try have hy9 := hyk (by omega)); (try simp only [zq11] at *); first | omega | (rw [tdiv_eq] <;> omega))))))))) ?_ ?_
     ·(try dsimp only); omega
     ·rw [if_pos (by omega)] at hu1 hu2 hu3
      rw [if_pos (by omega)] at hv1 hv2 hv3
      have hm := mod_bd (s := (c + (dg x).getD k 0) + (dg y).getD k 0) (by omega)
      have hq := (tdivmod (s := (c + (dg x).getD k 0) + (dg y).getD k 0) (by omega)).2
      refine ⟨by omega, by omega, by simp [ha], by rw [hes, ints_snoc], hD.snoc hm.1 hm.2, by omega, ?_⟩
      have hst := carry_step (s := (c + (dg x).getD k 0) + (dg y).getD k 0) (X' := vd ((dg x).drop (k + 1)) + vd ((dg y).drop (k + 1))) ha (by omega) (by rw [hu1, hv1]; omega) hI
      rw [← Int.add_assoc] at hst; exact hst
    ·(try simp only [zq9] at hc5)
     refine zD hG [] (k + 1, Int.tdiv (c + (dg x).getD k 0) 16777216, es ++ [[D.i (Int.tmod (c + (dg x).getD k 0) 16777216)]], acc ++ [Int.tmod (c + (dg x).getD k 0) 16777216]) (by kernel_rfl) (conjC (show 16777216 ≠ (0 : Int) from (by intros; (try have hx9 := hxk (by omega)); (try have hy9 := hyk (by omega)); (try simp only [zq11] at *); first | omega | (rw [tdiv_eq] <;> omega))) (conjC (show ((es).length + (([[.i (Int.tmod (c + ((dg x).getD k 0)) 16777216)]] : List (List D))).length) * (8 + 1) ≤ 140737488355328 from (by intros; (try have hx9 := hxk (by omega)); (try have hy9 := hyk (by omega)); (try simp only [zq11] at *); first | omega | (rw [tdiv_eq] <;> omega))) (conjC (show 16777216 ≠ (0 : Int) ∧ inR (Int.tdiv (c + ((dg x).getD k 0)) 16777216) from (by intros; (try have hx9 := hxk (by omega)); (try have hy9 := hyk (by omega)); (try simp only [zq11] at *); first | omega | (rw [tdiv_eq] <;> omega))) (conj1 (show inR ((k : Int) + 1) from (by intros; (try have hx9 := hxk (by omega)); (try have hy9 := hyk (by omega)); (try simp only [zq11] at *); first | omega | (rw [tdiv_eq] <;> omega))))))) ?_ ?_
     ·(try dsimp only); omega
     ·rw [if_pos (by omega)] at hu1 hu2 hu3
      rw [if_neg (by omega)] at hv1 hv2 hv3
      have hm := mod_bd (s := c + (dg x).getD k 0) (by omega)
      have hq := (tdivmod (s := c + (dg x).getD k 0) (by omega)).2
      refine ⟨by omega, by omega, by simp [ha], by rw [hes, ints_snoc], hD.snoc hm.1 hm.2, by omega, ?_⟩
      have hst := carry_step (s := c + (dg x).getD k 0) (X' := vd ((dg x).drop (k + 1)) + vd ((dg y).drop (k + 1))) ha (by omega) (by rw [hu1, hv1]; omega) hI
      rw [← Int.add_assoc] at hst; exact hst
   ·(try simp only [zq9] at hc4)
    refine zc hG [] [1, 0, 1, 1, 0, 0, 1] (decide (((k : Int) : Int) < ((intsD (dg y)).length : Int))) (by kernel_rfl) conj0 (fun hc6 => ?_) (fun hc6 => ?_)
    ·(try simp only [zq9] at hc6)
     refine zD hG [(16, 3, .elem (intD ((dg y).getD k 0)))] (k + 1, Int.tdiv (c + (dg y).getD k 0) 16777216, es ++ [[D.i (Int.tmod (c + (dg y).getD k 0) 16777216)]], acc ++ [Int.tmod (c + (dg y).getD k 0) 16777216]) (by kernel_rfl) (conjC (show (0 : Int) ≤ (k : Int) ∧ (intsD (dg y))[k]? = some (intD ((dg y).getD k 0)) from (by intros; exact map_at _ (by omega) (by (try simp only [zq7] at *); omega))) (conjC (show inR (c + ((dg y).getD k 0)) from (by intros; (try have hx9 := hxk (by omega)); (try have hy9 := hyk (by omega)); (try simp only [zq11] at *); first | omega | (rw [tdiv_eq] <;> omega))) (conjC (show 16777216 ≠ (0 : Int) from (by intros; (try have hx9 := hxk (by omega)); (try have hy9 := hyk (by omega)); (try simp only [zq11] at *); first | omega | (rw [tdiv_eq] <;> omega))) (conjC (show ((es).length + (([[.i (Int.tmod (c + ((dg y).getD k 0)) 16777216)]] : List (List D))).length) * (8 + 1) ≤ 140737488355328 from (by intros; (try have hx9 := hxk (by omega)); (try have hy9 := hyk (by omega)); (try simp only [zq11] at *); first | omega | (rw [tdiv_eq] <;> omega))) (conjC (show 16777216 ≠ (0 : Int) ∧ inR (Int.tdiv (c + ((dg y).getD k 0)) 16777216) from (by intros; (try have hx9 := hxk (by omega)); (try have hy9 := hyk (by omega)); (try simp only [zq11] at *); first | omega | (rw [tdiv_eq] <;> omega))) (conj1 (show inR ((k : Int) + 1) from (by intros; (try have hx9 := hxk (by omega)); (try have hy9 := hyk (by omega)); (try simp only [zq11] at *); first | omega | (rw [tdiv_eq] <;> omega))))))))) ?_ ?_
     ·(try dsimp only); omega
     ·rw [if_neg (by omega)] at hu1 hu2 hu3
      rw [if_pos (by omega)] at hv1 hv2 hv3
      have hm := mod_bd (s := c + (dg y).getD k 0) (by omega)
      have hq := (tdivmod (s := c + (dg y).getD k 0) (by omega)).2
      refine ⟨by omega, by omega, by simp [ha], by rw [hes, ints_snoc], hD.snoc hm.1 hm.2, by omega, ?_⟩
      have hst := carry_step (s := c + (dg y).getD k 0) (X' := vd ((dg x).drop (k + 1)) + vd ((dg y).drop (k + 1))) ha (by omega) (by rw [hu1, hv1]; omega) hI
      rw [← Int.add_assoc] at hst; exact hst
    ·(try simp only [zq9] at hc6)
     refine zD hG [] (k + 1, Int.tdiv (c) 16777216, es ++ [[D.i (Int.tmod (c) 16777216)]], acc ++ [Int.tmod (c) 16777216]) (by kernel_rfl) (conjC (show 16777216 ≠ (0 : Int) from (by intros; (try have hx9 := hxk (by omega)); (try have hy9 := hyk (by omega)); (try simp only [zq11] at *); first | omega | (rw [tdiv_eq] <;> omega))) (conjC (show ((es).length + (([[.i (Int.tmod c 16777216)]] : List (List D))).length) * (8 + 1) ≤ 140737488355328 from (by intros; (try have hx9 := hxk (by omega)); (try have hy9 := hyk (by omega)); (try simp only [zq11] at *); first | omega | (rw [tdiv_eq] <;> omega))) (conjC (show 16777216 ≠ (0 : Int) ∧ inR (Int.tdiv c 16777216) from (by intros; (try have hx9 := hxk (by omega)); (try have hy9 := hyk (by omega)); (try simp only [zq11] at *); first | omega | (rw [tdiv_eq] <;> omega))) (conj1 (show inR ((k : Int) + 1) from (by intros; (try have hx9 := hxk (by omega)); (try have hy9 := hyk (by omega)); (try simp only [zq11] at *); first | omega | (rw [tdiv_eq] <;> omega))))))) ?_ ?_
     ·(try dsimp only); omega
     ·rw [if_neg (by omega)] at hu1 hu2 hu3
      rw [if_neg (by omega)] at hv1 hv2 hv3
      have hm := mod_bd (s := c) (by omega)
      have hq := (tdivmod (s := c) (by omega)).2
      refine ⟨by omega, by omega, by simp [ha], by rw [hes, ints_snoc], hD.snoc hm.1 hm.2, by omega, ?_⟩
      have hst := carry_step (s := c) (X' := vd ((dg x).drop (k + 1)) + vd ((dg y).drop (k + 1))) ha (by omega) (by rw [hu1, hv1]; omega) hI
      rw [← Int.add_assoc] at hst; exact hst
  ·(try simp only [zq9] at hc3)
   refine zE hG [] (.exit 0) (⟨[(4, [], .c (.d (.s (S [])))), (11, [], .c (.ar 9001 0))], [(9001, .arr 0 3 1 (es))]⟩) (by kernel_rfl) conj0 rfl ?_
   refine zR hG [(19, 1, .call (.c (.d (.s (S (nb (vd acc).toNat))))) [] [])] [] (.c (.d (.s (S (nb (vd acc).toNat))))) [] (by kernel_rfl) (conj1 ((number_at hes hD (by omega) : SpG g _ _ _ _ _))) ?_ ?_
   ·have hz1 : vd ((dg x).drop k) = 0 := drop_end (by omega)
    have hz2 : vd ((dg y).drop k) = 0 := drop_end (by omega)
    rw [hz1, hz2, show c = 0 by omega] at hI
    rw [show (vd acc).toNat = x + y by omega]
   ·rfl
theorem digit_ok (x y : Nat) (h0 : 0 < y) (hq : x < y * 16777216) (hx : (dg x).length ≤ 400000000) (hy : (dg y).length ≤ 400000000) :
  SpG g 298 [.c (.d (.sl 1 (intsD (dg x)))), .c (.d (.sl 1 (intsD (dg y))))] [] (.c (.d (.i ((x / y : Nat) : Int)))) [] := by
 refine enterB 26 Tryz.func298 (by kernel_rfl) fun fr hG => ?_
 refine zL hG [] [0, 0, 1, 1, 1] (fun (zz : Int × Int) => match zz with | (lo, hi) => ((hi - lo).toNat, ⟨[(0, [], .c (.d (.sl 1 (intsD (dg x))))), (1, [], .c (.d (.sl 1 (intsD (dg y))))), (4, [], .c (.d (.i 0))), (5, [], .c (.d (.i lo))), (6, [], .c (.d (.i hi)))], []⟩, 0 ≤ lo ∧ lo ≤ hi ∧ hi ≤ 16777215 ∧ y * lo.toNat ≤ x ∧ x < y * (hi.toNat + 1))) (0, 16777215) (by kernel_rfl) conj0 (by kernel_rfl) ?_ ?_
 ·exact ⟨by omega, by omega, by omega, by simp, by rw [show (16777215 : Int).toNat + 1 = 16777216 from rfl]; omega⟩
 rintro ⟨lo, hi⟩ ⟨h0, h1, h2, hlo, hhi⟩
 have hm : Int.tdiv ((lo + hi) + 1) 2 = (lo + hi + 1) / 2 := Int.tdiv_eq_ediv_of_nonneg (by omega)
 have hm2 : lo < hi → lo < Int.tdiv ((lo + hi) + 1) 2 ∧ Int.tdiv ((lo + hi) + 1) 2 ≤ hi := fun h => by rw [hm]; omega
 refine zc hG [] [1, 0] (decide ((lo : Int) < hi)) (by kernel_rfl) conj0 (fun hc2 => ?_) (fun hc2 => ?_)
 ·(try simp only [zq9] at hc2)
  refine zC hG [(5, 2, .call (.c (.d (.sl 1 (intsD (dg (y * (Int.tdiv ((lo + hi) + 1) 2).toNat)))))) [] []), (5, 4, .call (.c (.d (.i (cmpL (dg (y * (Int.tdiv ((lo + hi) + 1) 2).toNat)) (dg x))))) [] [])] [1, 1, 0, 1] (decide ((cmpL (dg (y * (Int.tdiv ((lo + hi) + 1) 2).toNat)) (dg x) : Int) ≤ 0)) (⟨[(0, [], .c (.d (.sl 1 (intsD (dg x))))), (1, [], .c (.d (.sl 1 (intsD (dg y))))), (4, [], .c (.d (.i 0))), (5, [], .c (.d (.i lo))), (6, [], .c (.d (.i hi))), (7, [], .c (.d (.i (Int.tdiv ((lo + hi) + 1) 2))))], []⟩) (by kernel_rfl) (conjC (show inR (lo + hi) from (by intros; (try have h9 := hm2 (by omega)); (try simp only [decide_eq_true_eq, inR] at *); omega)) (conjC (show inR ((lo + hi) + 1) from (by intros; (try have h9 := hm2 (by omega)); (try simp only [decide_eq_true_eq, inR] at *); omega)) (conjC (show 2 ≠ (0 : Int) ∧ inR (Int.tdiv ((lo + hi) + 1) 2) from (by intros; (try have h9 := hm2 (by omega)); (try simp only [decide_eq_true_eq, inR] at *); omega)) (conjC ((times_ok y (Int.tdiv ((lo + hi) + 1) 2) (by have := hm2 (by omega); omega) (by omega) : SpG g _ _ _ _ _)) (conj1 ((cmpI_ok (dg (y * (Int.tdiv ((lo + hi) + 1) 2).toNat)) (dg x) (vd_dg _).2 (vd_dg _).2 (by have h9 := hm2 (by omega); have := dg_mul (y := y) (d := (Int.tdiv ((lo + hi) + 1) 2).toNat) (by omega); omega) (by omega) : SpG g _ _ _ _ _))))))) (fun hc3 => ?_) (fun hc3 => ?_)
  ·(try simp only [zq9] at hc3)
   refine zD hG [] (Int.tdiv ((lo + hi) + 1) 2, hi) (by kernel_rfl) conj0 ?_ ?_
   ·(try dsimp only); have := hm2 (by omega); omega
   ·have h9 := hm2 (by omega)
    have hc := cmp_le.1 hc3
    exact ⟨by omega, by omega, by omega, hc, hhi⟩
  ·(try simp only [zq9] at hc3)
   refine zD hG [] (lo, Int.tdiv ((lo + hi) + 1) 2 - 1) (by kernel_rfl) (conj1 (show inR ((Int.tdiv ((lo + hi) + 1) 2) - 1) from (by intros; (try have h9 := hm2 (by omega)); (try simp only [decide_eq_true_eq, inR] at *); omega))) ?_ ?_
   ·(try dsimp only); have := hm2 (by omega); omega
   ·have h9 := hm2 (by omega)
    have hc : ¬ y * (Int.tdiv ((lo + hi) + 1) 2).toNat ≤ x := fun h => hc3 (cmp_le.2 h)
    refine ⟨by omega, by omega, by omega, hlo, ?_⟩
    rw [show (Int.tdiv ((lo + hi) + 1) 2 - 1).toNat + 1 = (Int.tdiv ((lo + hi) + 1) 2).toNat by omega]; omega
 ·(try simp only [zq9] at hc2)
  refine zE hG [] (.exit 0) (⟨[(4, [], .c (.d (.i 0))), (5, [], .c (.d (.i lo)))], []⟩) (by kernel_rfl) conj0 rfl ?_
  refine zR hG [] [] (.c (.d (.i lo))) [] (by kernel_rfl) conj0 ?_ ?_
  ·have e : x / y = lo.toNat := by
    have hh : hi = lo := by omega
    rw [hh] at hhi
    exact Nat.div_eq_of_lt_le (by rw [Nat.mul_comm]; exact hlo) (by rw [Nat.mul_comm]; exact hhi)
   rw [e, show ((lo.toNat : Nat) : Int) = lo by omega]
  ·rfl
def zq12 := And.intro @List.length_append.{0} (And.intro @List.length_cons.{0} (And.intro @List.length_nil.{0} (And.intro @List.length_set.{0} (And.intro @decide_eq_true_eq (And.intro @Go.Eng.inR.eq_1 (@ints_len))))))
theorem quo_ok (x y : Nat) (h0 : 0 < y) (hx : (nb x).length ≤ 900000000) (hy : (nb y).length ≤ 900000000) :
  SpG g 220 [.c (.d (.s (S (nb x)))), .c (.d (.s (S (nb y))))] [] (.tup [(false, [.d (.s (S (nb (x / y))))]), (false, [.d (.s (S (nb (x % y))))]), (false, [.d (.b true)])]) [] := by
 have lx := dg_len (n := x) (k := 300000000) (by omega)
 have ly := dg_len (n := y) (k := 300000000) (by omega)
 have hsx : 0 ≤ smV x 7 ∧ smV x 7 < 72057594037927936 := by unfold smV; split <;> omega
 have hsy : 0 ≤ smV y 7 ∧ smV y 7 < 72057594037927936 := by unfold smV; split <;> omega
 have hy0 := nb_len_zero y
 refine enterB 87 Tryz.func220 (by kernel_rfl) fun fr hG => ?_
 refine zC hG [(1, 1, .call (.c (.d (.s (S (nb y))))) [] [])] [1, 0, 1, 1] (decide ((((S (nb y)).size : Int) : Int) = 0)) (⟨[(0, [], .c (.d (.s (S (nb x))))), (1, [], .c (.d (.s (S (nb y))))), (4, [], .c (.d (.s (S [])))), (5, [], .c (.d (.s (S [])))), (6, [], .c (.d (.b false)))], []⟩) (by kernel_rfl) (conj1 ((canonNb_ok y (by first | omega | (simp only [maxLen]; omega)) : SpG g _ _ _ _ _))) (fun hc1 => ?_) (fun hc1 => ?_)
 ·(try simp only [zq9] at hc1)
  exfalso; omega
 ·(try simp only [zq9] at hc1)
  refine zC hG [(4, 1, .call (.tup [(false, [.d (.i (smV x 7))]), (false, [.d (.b (smK x 7))])]) [] []), (5, 1, .call (.tup [(false, [.d (.i (smV y 7))]), (false, [.d (.b (smK y 7))])]) [] [])] [1, 0, 1, 1, 1, 1, 1] ((smK x 7) && (smK y 7)) (⟨[(0, [], .c (.d (.s (S (nb x))))), (1, [], .c (.d (.s (S (nb y))))), (4, [], .c (.d (.s (S [])))), (5, [], .c (.d (.s (S [])))), (6, [], .c (.d (.b false))), (7, [], .c (.d (.i (smV x 7)))), (9, [], .c (.d (.i (smV y 7))))], []⟩) (by kernel_rfl) (conjC ((small_ok x 7 (by decide) (by first | omega | (simp only [maxLen]; omega)) : SpG g _ _ _ _ _)) (conj1 ((small_ok y 7 (by decide) (by first | omega | (simp only [maxLen]; omega)) : SpG g _ _ _ _ _)))) (fun hc2 => ?_) (fun hc2 => ?_)
  ·(try simp only [zq9] at hc2)
   have hsm : x < 256 ^ 7 ∧ y < 256 ^ 7 := by simpa [smK] using hc2
   have e1 : smV x 7 = x := if_pos hsm.1
   have e2 : smV y 7 = y := if_pos hsm.2
   have eq1 : Int.tdiv (smV x 7) (smV y 7) = ((x / y : Nat) : Int) := by rw [e1, e2, Int.tdiv_eq_ediv_of_nonneg (by omega)]; rfl
   have eq2 : Int.tmod (smV x 7) (smV y 7) = ((x % y : Nat) : Int) := by rw [e1, e2, Int.tmod_eq_emod_of_nonneg (by omega)]; rfl
   have hqq : (0 ≤ Int.tdiv (smV x 7) (smV y 7) ∧ Int.tdiv (smV x 7) (smV y 7) ≤ x ∧ 0 ≤ Int.tmod (smV x 7) (smV y 7) ∧ Int.tmod (smV x 7) (smV y 7) ≤ y) := by
    rw [eq1, eq2]; have a1 := Nat.div_le_self x y; have a2 := Nat.mod_lt x h0; clear eq1 eq2; generalize x / y = q at *; generalize x % y = rr at *; omega
   refine zR hG [(7, 3, .call (.c (.d (.s (S (nb (Int.tdiv (smV x 7) (smV y 7)).toNat))))) [] []), (7, 7, .call (.c (.d (.s (S (nb (Int.tmod (smV x 7) (smV y 7)).toNat))))) [] [])] [] (.tup [(false, [.d (.s (S (nb (Int.tdiv (smV x 7) (smV y 7)).toNat)))]), (false, [.d (.s (S (nb (Int.tmod (smV x 7) (smV y 7)).toNat)))]), (false, [.d (.b true)])]) [] (by kernel_rfl) (conjC (show (smV y 7) ≠ (0 : Int) ∧ inR (Int.tdiv (smV x 7) (smV y 7)) from (by intros; first | (refine ⟨?_, rfl, ?_, ?_⟩ <;> (simp only [ints_len]; omega)) | skip; (try simp only [zq12] at *); omega)) (conjC ((of_ok (Int.tdiv (smV x 7) (smV y 7)) (by have := hqq; omega) : SpG g _ _ _ _ _)) (conjC (show (smV y 7) ≠ (0 : Int) from (by intros; first | (refine ⟨?_, rfl, ?_, ?_⟩ <;> (simp only [ints_len]; omega)) | skip; (try simp only [zq12] at *); omega)) (conj1 ((of_ok (Int.tmod (smV x 7) (smV y 7)) (by have := hqq; omega) : SpG g _ _ _ _ _)))))) ?_ ?_
   ·rw [eq1, eq2, Int.toNat_natCast, Int.toNat_natCast]
   ·rfl
  ·(try simp only [zq9] at hc2)
   refine stepL hG hmix [(8, 1, .call (.c (.d (.sl 1 (intsD (dg x))))) [] []), (9, 1, .call (.c (.d (.sl 1 (intsD (dg y))))) [] []), (10, 2, .mask [none])] [0, 1, 0, 1, 1, 1, 1, 1, 1, 1, 1, 1, 1] (⟨[(4, [], .c (.d (.s (S [])))), (5, [], .c (.d (.s (S [])))), (6, [], .c (.d (.b false))), (11, [], .c (.d (.sl 1 (intsD (dg x))))), (12, [], .c (.d (.sl 1 (intsD (dg y))))), (13, [], .c (.ar 1102 0)), (14, [], .c (.d (.nil))), (15, [], .c (.d (.i (((intsD (dg x)).length : Int) - 1))))], [(1102, .arr 0 3 1 (List.replicate ((intsD (dg x)).length) [.i 0]))]⟩) _ (by kernel_rfl) (conjC ((ofD_ok x (by first | omega | (simp only [maxLen]; omega)) : SpG g _ _ _ _ _)) (conjC ((ofD_ok y (by first | omega | (simp only [maxLen]; omega)) : SpG g _ _ _ _ _)) (conjC (show (0 : Int) ≤ ((intsD (dg x)).length : Int) ∧ ((intsD (dg x)).length : Int) = ((intsD (dg x)).length : Int) ∧ ((8 : Nat) : Int) * ((intsD (dg x)).length : Int) ≤ 281474976710656 ∧ ((intsD (dg x)).length : Int) ≤ 9223372036854775807 from (by intros; first | (refine ⟨?_, rfl, ?_, ?_⟩ <;> (simp only [ints_len]; omega)) | skip; (try simp only [zq12] at *); omega)) (conj1 (show inR (((intsD (dg x)).length : Int) - 1) from (by intros; first | (refine ⟨?_, rfl, ?_, ?_⟩ <;> (simp only [ints_len]; omega)) | skip; (try simp only [zq12] at *); omega)))))) ?_
   refine stepA hG [(14, 9105, 3, 1)] [] (⟨[(4, [], .c (.d (.s (S [])))), (5, [], .c (.d (.s (S [])))), (6, [], .c (.d (.b false))), (11, [], .c (.d (.sl 1 (intsD (dg x))))), (12, [], .c (.d (.sl 1 (intsD (dg y))))), (13, [], .c (.ar 1102 0)), (14, [], .c (.ar 9105 0)), (15, [], .c (.d (.i (((intsD (dg x)).length : Int) - 1))))], [(1102, .arr 0 3 1 (List.replicate ((intsD (dg x)).length) [.i 0])), (9105, .arr 0 3 1 ([]))]⟩) (by kernel_rfl) ?_
   refine stepK hG ((fun (zz : Int × Nat × List (List D) × List Int) => match zz with | (k, r, es, acc) => ⟨[(4, [], .c (.d (.s (S [])))), (5, [], .c (.d (.s (S [])))), (6, [], .c (.d (.b false))), (11, [], .c (.d (.sl 1 (intsD (dg x))))), (12, [], .c (.d (.sl 1 (intsD (dg y))))), (13, [], .c (.ar 1102 0)), (14, [], .c (.d (.sl 1 (intsD (dg r))))), (15, [], .c (.d (.i k)))], [(1102, .arr 0 3 1 (es))]⟩) (((intsD (dg x)).length : Int) - 1, 0, List.replicate ((intsD (dg x)).length) [.i 0], List.replicate (dg x).length 0)) (by kernel_rfl) ?_
   refine loopR (σ := Int × Nat × List (List D) × List Int) (fun (zz : Int × Nat × List (List D) × List Int) => match zz with | (k, r, es, acc) => (k + 1).toNat) (fun (zz : Int × Nat × List (List D) × List Int) => match zz with | (k, r, es, acc) => ⟨[(4, [], .c (.d (.s (S [])))), (5, [], .c (.d (.s (S [])))), (6, [], .c (.d (.b false))), (11, [], .c (.d (.sl 1 (intsD (dg x))))), (12, [], .c (.d (.sl 1 (intsD (dg y))))), (13, [], .c (.ar 1102 0)), (14, [], .c (.d (.sl 1 (intsD (dg r))))), (15, [], .c (.d (.i k)))], [(1102, .arr 0 3 1 (es))]⟩) (fun (zz : Int × Nat × List (List D) × List Int) => match zz with | (k, r, es, acc) => -1 ≤ k ∧ k < (dg x).length ∧ es = intsD acc ∧ Dg acc ∧ acc.length = (dg x).length ∧ r < y ∧ (∀ p : Nat, (p : Int) ≤ k → acc.getD p 0 = 0) ∧ vd ((dg x).drop (k + 1).toNat) = vd (acc.drop (k + 1).toNat) * y + r) (((intsD (dg x)).length : Int) - 1, 0, List.replicate ((intsD (dg x)).length) [.i 0], List.replicate (dg x).length 0) (by kernel_rfl) ?_ ?_
   ·rw [ints_len]
    refine ⟨by omega, by omega, ?_, Dg.zeros _, by simp, h0, ?_, ?_⟩
    ·rw [← rep_ints]; (try congr 1)
    ·intro p _; rw [List.getD_eq_getElem?_getD, List.getElem?_replicate]; split <;> rfl
    ·rw [drop_end (by omega), drop_end (by rw [List.length_replicate]; omega)]; simp
   rintro ⟨k, r, es, acc⟩ ⟨hk1, hk2, hes, hD, ha, hr, hz, hI⟩
   have hlen : es.length = (dg x).length := by rw [hes, ints_len, ha]
   have hxk : 0 ≤ k → 0 ≤ (dg x).getD k.toNat 0 ∧ (dg x).getD k.toNat 0 < 16777216 := fun h => (vd_dg x).2.at (by omega)
   have hR : 0 ≤ k → (r * 16777216 + ((dg x).getD k.toNat 0).toNat) < y * 16777216 := fun h => by have := hxk h; omega
   have hRl : 0 ≤ k → (dg (r * 16777216 + ((dg x).getD k.toNat 0).toNat)).length ≤ (dg y).length + 1 := fun h => dg_rem (hR h)
   have hq : 0 ≤ k → (r * 16777216 + ((dg x).getD k.toNat 0).toNat) / y < 16777216 := fun h => Nat.div_lt_of_lt_mul (hR h)
   have hrl : (dg r).length ≤ (dg y).length := dg_mono (by omega)
   refine zc hG [] [1, 0] (decide ((k : Int) ≥ 0)) (by kernel_rfl) conj0 (fun hc4 => ?_) (fun hc4 => ?_)
   ·(try simp only [zq9] at hc4)
    refine zC hG [(15, 2, .elem (intD ((dg x).getD (k : Int).toNat 0))), (15, 6, .elem []), (15, 7, .call (.c (.d (.sl 1 (intsD (dg (r * 16777216 + ((dg x).getD k.toNat 0).toNat)))))) [] []), (16, 2, .call (.c (.d (.i (cmpL (dg (r * 16777216 + ((dg x).getD k.toNat 0).toNat)) (dg y))))) [] [])] [1, 1, 0, 0, 1] (decide ((cmpL (dg (r * 16777216 + ((dg x).getD k.toNat 0).toNat)) (dg y) : Int) ≥ 0)) (⟨[(4, [], .c (.d (.s (S [])))), (5, [], .c (.d (.s (S [])))), (6, [], .c (.d (.b false))), (11, [], .c (.d (.sl 1 (intsD (dg x))))), (12, [], .c (.d (.sl 1 (intsD (dg y))))), (13, [], .c (.ar 1102 0)), (14, [], .c (.d (.sl 1 (intsD (dg (r * 16777216 + ((dg x).getD k.toNat 0).toNat)))))), (15, [], .c (.d (.i k)))], [(1102, .arr 0 3 1 (es))]⟩) (by kernel_rfl) (conjC (show (0 : Int) ≤ k ∧ (intsD (dg x))[(k : Int).toNat]? = some (intD ((dg x).getD (k : Int).toNat 0)) from (by intros; exact map_at _ (by omega) (by (try simp only [zq7] at *); omega))) (conjC (show ((([[.i ((dg x).getD (k : Int).toNat 0)]] : List (List D))).length + (intsD (dg r)).length) * (8 + 1) ≤ 140737488355328 from (by intros; first | (refine ⟨?_, rfl, ?_, ?_⟩ <;> (simp only [ints_len]; omega)) | skip; (try simp only [zq12] at *); omega)) (conjC ((trim_at (es := ([[.i ((dg x).getD (k : Int).toNat 0)]] : List (List D)) ++ (intsD (dg r))) (l := (dg x).getD k.toNat 0 :: dg r) (n := (r * 16777216 + ((dg x).getD k.toNat 0).toNat)) rfl (quo_dg (hxk (by omega)).1 (hxk (by omega)).2) (quo_shift (hxk (by omega)).1) : SpG g _ _ _ _ _)) (conj1 ((cmpI_ok (dg (r * 16777216 + ((dg x).getD k.toNat 0).toNat)) (dg y) (vd_dg _).2 (vd_dg _).2 (by have := hRl (by omega); omega) (by omega) : SpG g _ _ _ _ _)))))) (fun hc5 => ?_) (fun hc5 => ?_)
    ·(try simp only [zq9] at hc5)
     refine zD hG [(17, 4, .call (.c (.d (.i (((r * 16777216 + ((dg x).getD k.toNat 0).toNat) / y : Nat) : Int)))) [] []), (18, 5, .elem ([.i (((r * 16777216 + ((dg x).getD k.toNat 0).toNat) / y : Nat) : Int)])), (18, 6, .call (.c (.d (.sl 1 (intsD (dg (y * ((((r * 16777216 + ((dg x).getD k.toNat 0).toNat) / y : Nat) : Int)).toNat)))))) [] []), (18, 7, .call (.c (.d (.sl 1 (intsD (dg ((r * 16777216 + ((dg x).getD k.toNat 0).toNat) - y * ((((r * 16777216 + ((dg x).getD k.toNat 0).toNat)) / y : Nat) : Int).toNat)))))) [] [])] (k - 1, (r * 16777216 + ((dg x).getD k.toNat 0).toNat) - y * ((((r * 16777216 + ((dg x).getD k.toNat 0).toNat)) / y : Nat) : Int).toNat, (es).set (k : Int).toNat [.i (((r * 16777216 + ((dg x).getD k.toNat 0).toNat) / y : Nat) : Int)], acc.set (k : Int).toNat ((((r * 16777216 + ((dg x).getD k.toNat 0).toNat) / y : Nat) : Int))) (by kernel_rfl) (conjC ((digit_ok (r * 16777216 + ((dg x).getD k.toNat 0).toNat) y h0 (hR (by omega)) (by have := hRl (by omega); omega) (by omega) : SpG g _ _ _ _ _)) (conjC (show (0 : Int) ≤ k ∧ k < ((es).length : Int) from (by intros; first | (refine ⟨?_, rfl, ?_, ?_⟩ <;> (simp only [ints_len]; omega)) | skip; (try simp only [zq12] at *); omega)) (conjC (show (0 : Int) ≤ k ∧ k < (((es).set (k : Int).toNat [.i (((r * 16777216 + ((dg x).getD k.toNat 0).toNat) / y : Nat) : Int)]).length : Int) from (by intros; first | (refine ⟨?_, rfl, ?_, ?_⟩ <;> (simp only [ints_len]; omega)) | skip; (try simp only [zq12] at *); omega)) (conjC (show ((es).set (k : Int).toNat [.i (((r * 16777216 + ((dg x).getD k.toNat 0).toNat) / y : Nat) : Int)])[(k : Int).toNat]? = some ([.i (((r * 16777216 + ((dg x).getD k.toNat 0).toNat) / y : Nat) : Int)]) from (by intros; rw [List.getElem?_set_self (by (try simp only [List.length_set] at *); omega)])) (conjC ((times_ok y ((((r * 16777216 + ((dg x).getD k.toNat 0).toNat) / y : Nat) : Int)) ⟨Int.natCast_nonneg _, Int.ofNat_lt.2 (hq (by omega))⟩ (by omega) : SpG g _ _ _ _ _)) (conjC ((minus_ok (r * 16777216 + ((dg x).getD k.toNat 0).toNat) (y * ((((r * 16777216 + ((dg x).getD k.toNat 0).toNat)) / y : Nat) : Int).toNat) (by rw [Int.toNat_natCast]; exact Nat.mul_div_le _ _) (by have := hRl (by omega); omega) (by rw [Int.toNat_natCast]; have h1 := Nat.div_lt_of_lt_mul (hR (by omega)); have := dg_mul (y := y) h1; omega) : SpG g _ _ _ _ _)) (conj1 (show inR (k - 1) from (by intros; first | (refine ⟨?_, rfl, ?_, ?_⟩ <;> (simp only [ints_len]; omega)) | skip; (try simp only [zq12] at *); omega))))))))) ?_ ?_
     ·(try dsimp only); omega
     ·have hx9 := hxk (by omega)
      have hR9 := hR (by omega)
      have hq : (r * 16777216 + ((dg x).getD k.toNat 0).toNat) / y < 16777216 := Nat.div_lt_of_lt_mul hR9
      have hdm := Nat.div_add_mod (r * 16777216 + ((dg x).getD k.toNat 0).toNat) y
      have hml := Nat.mod_lt (r * 16777216 + ((dg x).getD k.toNat 0).toNat) h0
      have e1 : (k - 1 + 1).toNat = k.toNat := by omega
      have e2 : (k + 1).toNat = k.toNat + 1 := by omega
      refine ⟨by omega, by omega, by rw [hes, ints_set], hD.set (Int.natCast_nonneg _) (Int.ofNat_lt.2 hq), by simp [ha], ?_, fun p hp => ?_, ?_⟩
      ·rw [Int.toNat_natCast]; omega
      ·rw [getD_set, if_neg (by omega)]; exact hz p (by omega)
      ·rw [e1, drop_at (by omega), vd_set (by omega), ← e2, hI, Int.toNat_natCast]
       rw [Int.natCast_sub (Nat.mul_div_le _ _), Int.natCast_mul, show (((r * 16777216 + ((dg x).getD k.toNat 0).toNat) : Nat) : Int) = r * 16777216 + (dg x).getD k.toNat 0 by omega]
       generalize (((r * 16777216 + ((dg x).getD k.toNat 0).toNat) / y : Nat) : Int) = q at *
       grind
    ·(try simp only [zq9] at hc5)
     refine zD hG [] (k - 1, (r * 16777216 + ((dg x).getD k.toNat 0).toNat), es, acc) (by kernel_rfl) (conj1 (show inR (k - 1) from (by intros; first | (refine ⟨?_, rfl, ?_, ?_⟩ <;> (simp only [ints_len]; omega)) | skip; (try simp only [zq12] at *); omega))) ?_ ?_
     ·(try dsimp only); omega
     ·have hx9 := hxk (by omega)
      have e1 : (k - 1 + 1).toNat = k.toNat := by omega
      have e2 : (k + 1).toNat = k.toNat + 1 := by omega
      have hlt : ¬ y ≤ (r * 16777216 + ((dg x).getD k.toNat 0).toNat) := fun h => hc5 (cmp_ge.2 h)
      refine ⟨by omega, by omega, hes, hD, ha, by omega, fun p hp => hz p (by omega), ?_⟩
      rw [e1, drop_at (l := dg x) (k := k.toNat) (by omega), drop_at (l := acc) (k := k.toNat) (by omega), ← e2, hI, hz k.toNat (by omega)]
      rw [show (((r * 16777216 + ((dg x).getD k.toNat 0).toNat) : Nat) : Int) = r * 16777216 + (dg x).getD k.toNat 0 by omega]
      grind
   ·(try simp only [zq9] at hc4)
    refine zE hG [] (.exit 0) (⟨[(4, [], .c (.d (.s (S [])))), (5, [], .c (.d (.s (S [])))), (6, [], .c (.d (.b false))), (13, [], .c (.ar 1102 0)), (14, [], .c (.d (.sl 1 (intsD (dg r)))))], [(1102, .arr 0 3 1 (es))]⟩) (by kernel_rfl) conj0 rfl ?_
    refine zR hG [(19, 1, .call (.c (.d (.s (S (nb (vd acc).toNat))))) [] []), (19, 3, .call (.c (.d (.s (S (nb r))))) [] [])] [] (.tup [(false, [.d (.s (S (nb (vd acc).toNat)))]), (false, [.d (.s (S (nb r)))]), (false, [.d (.b true)])]) [] (by kernel_rfl) (conjC ((number_at hes hD (by omega) : SpG g _ _ _ _ _)) (conj1 ((number_dg r (by have := dg_mono (a := r) (b := y) (by omega); omega) : SpG g _ _ _ _ _)))) ?_ ?_
    ·rw [show (k + 1).toNat = 0 by omega, List.drop_zero, List.drop_zero, (vd_dg x).1] at hI
     have hv0 := vd_nonneg hD
     have hx8 : x = y * (vd acc).toNat + r := by
      have : ((y * (vd acc).toNat + r : Nat) : Int) = x := by
       rw [hI]; push_cast; rw [show (((vd acc).toNat : Nat) : Int) = vd acc by omega]; grind
      omega
     have e1 : x / y = (vd acc).toNat := by rw [hx8, Nat.mul_add_div h0, Nat.div_eq_of_lt hr]; rfl
     have e2 : x % y = r := by rw [hx8, Nat.mul_add_mod, Nat.mod_eq_of_lt hr]
     rw [e1, e2]
    ·rfl
end Go.Proofs.YtdejnaokkdndeaaGreatDoor
namespace Go.Proofs.YtdejnaokkdndeaaGreatDoor
open Go.RowKit Go.V
open Go.Eng (inR byteAt u8 bytesV)
variable {g : Gv}
theorem nb10 : (nb 10).length = 1 := by rw [nb_pos (by decide), show 10 / 256 = 0 from rfl, nb_zero]; rfl
theorem nb1 : (nb 1).length = 1 := by rw [nb_pos (by decide), show 1 / 256 = 0 from rfl, nb_zero]; rfl
theorem natural_ok (n : Int) (h : inR n) :
  SpG g 165 [.c (.d (.i n))] [] (.c (.d (.s (S (nb n.natAbs))))) [] := by
 unfold inR at h
 have hw : n < 0 → IntKind.wrap .i64 (0 - (n + 1)) = -(n + 1) := fun h0 => by rw [wrap64 (by unfold inR; omega)]; omega
 refine enterB 13 Tryz.func165 (by kernel_rfl) fun fr hG => ?_
 refine zC hG [] [1, 0, 1] (decide ((n : Int) ≥ 0)) (⟨[(0, [], .c (.d (.i n))), (2, [], .c (.d (.s (S []))))], []⟩) (by kernel_rfl) conj0 (fun hc1 => ?_) (fun hc1 => ?_)
 ·(try simp only [blS] at hc1)
  refine zR hG [(2, 1, .call (.c (.d (.s (S (nb (n).toNat))))) [] [])] [] (.c (.d (.s (S (nb (n).toNat))))) [] (by kernel_rfl) (conj1 ((of_ok (n) (by first | omega | (rw [hw (by omega)]; omega)) : SpG g _ _ _ _ _))) ?_ ?_
  ·rw [show n.toNat = n.natAbs by omega]
  ·rfl
 ·(try simp only [blS] at hc1)
  refine zR hG [(3, 3, .call (.c (.d (.s (S (nb (IntKind.wrap .i64 (0 - (n + 1))).toNat))))) [] []), (3, 4, .call (.c (.d (.s (S (nb 1))))) [] []), (3, 5, .call (.c (.d (.s (S (nb (((IntKind.wrap .i64 (0 - (n + 1))).toNat) + 1)))))) [] [])] [] (.c (.d (.s (S (nb (((IntKind.wrap .i64 (0 - (n + 1))).toNat) + 1)))))) [] (by kernel_rfl) (conjC (show inR (n + 1) from (by intros; first | omega | ((try simp only [decide_eq_true_eq, inR, S_size] at *) <;> omega))) (conjC ((of_ok (IntKind.wrap .i64 (0 - (n + 1))) (by first | omega | (rw [hw (by omega)]; omega)) : SpG g _ _ _ _ _)) (conjC ((of_ok 1 (by decide) : SpG g _ _ _ _ _)) (conj1 ((add_ok ((IntKind.wrap .i64 (0 - (n + 1))).toNat) 1 (by rw [hw (by omega)]; exact Nat.le_trans (nb_len (k := 8) (by omega)) (by decide)) (by have := nb1; omega) : SpG g _ _ _ _ _)))))) ?_ ?_
  ·rw [hw (by omega), show (-(n + 1)).toNat + 1 = n.natAbs by omega]
  ·rfl
end Go.Proofs.YtdejnaokkdndeaaGreatDoor
namespace Go.Proofs.YtdejnaokkdndeaaGreatDoor
open Go.RowKit Go.V
open Go.Eng (inR byteAt u8 bytesV)
variable {g : Gv}
theorem nb_mono {a b : Nat} (h : a ≤ b) : (nb a).length ≤ (nb b).length := by
 rcases Nat.lt_or_ge (nb b).length (nb a).length with h1 | h1
 ·have := nb_shorter h1; omega
 ·exact h1
def zq13 := And.intro @S_size (@blS)
theorem fit_ok (neg : Bool) (m0 : Nat) (s0 : Int) (h0 : (nb m0).length ≤ 900000000) (h1 : 0 ≤ s0) (h2 : s0 ≤ 1000000000000000000) :
  SpG g 164 [.agg [.d (.b neg), .d (.s (S (nb m0))), .d (.i s0)]] [] (.tup [(true, [.d (.i (fitN neg m0 s0)), .d (.i (fitS m0 s0))]), (false, [.d (.b (fitB m0 s0))])]) [] := by
 refine enterB 55 Tryz.func164 (by kernel_rfl) fun fr hG => ?_
 refine zL hG [] [0, 0, 1] (fun (zz : Nat × Int) => match zz with | (m, s) => (s.toNat, ⟨[(1, [], .c (.bx 100 0)), (2, [], .c (.bx 101 0)), (3, [], .c (.d (.b false)))], [(100, .box 155 [.d (.b neg), .d (.s (S (nb m))), .d (.i s)]), (101, .box 38 [.d (.i 0), .d (.i 0)])]⟩, m ≤ m0 ∧ 0 ≤ s ∧ s ≤ s0 ∧ fitL m s.toNat = fitL m0 s0.toNat)) (m0, s0) (by kernel_rfl) conj0 (by kernel_rfl) ?_ ?_
 ·exact ⟨Nat.le_refl _, h1, Int.le_refl _, rfl⟩
 rintro ⟨m, s⟩ ⟨hm, hs0, hs1, hf⟩
 have hz := nb_len_zero (m % 10)
 have hml := nb_mono hm
 have h10 := nb10
 refine zc hG [] [1, 0] (decide ((s : Int) > 0)) (by kernel_rfl) conj0 (fun hc2 => ?_) (fun hc2 => ?_)
 ·(try simp only [zq13, Bool.not_true, Bool.false_or] at hc2)
  refine zC hG [(2, 2, .call (.c (.d (.s (S (nb 10))))) [] []), (2, 3, .call (.tup [(false, [.d (.s (S (nb (m / 10))))]), (false, [.d (.s (S (nb (m % 10))))]), (false, [.d (.b true)])]) [] [])] [1, 0, 1, 0, 1] (decide ((((S (nb (m % 10))).size : Int) : Int) > 0)) (⟨[(1, [], .c (.bx 100 0)), (2, [], .c (.bx 101 0)), (3, [], .c (.d (.b false))), (4, [], .c (.d (.s (S (nb (m / 10))))))], [(100, .box 155 [.d (.b neg), .d (.s (S (nb m))), .d (.i s)]), (101, .box 38 [.d (.i 0), .d (.i 0)])]⟩) (by kernel_rfl) (conjC ((of_ok 10 (by decide) : SpG g _ _ _ _ _)) (conj1 ((quo_ok m 10 (by omega) (by omega) (by omega) : SpG g _ _ _ _ _)))) (fun hc3 => ?_) (fun hc3 => ?_)
  ·(try simp only [zq13, Bool.not_true, Bool.false_or] at hc3)
   refine zE hG [] (.exit 0) (⟨[(1, [], .c (.bx 100 0)), (2, [], .c (.bx 101 0)), (3, [], .c (.d (.b false)))], [(100, .box 155 [.d (.b neg), .d (.s (S (nb m))), .d (.i s)]), (101, .box 38 [.d (.i 0), .d (.i 0)])]⟩) (by kernel_rfl) conj0 rfl ?_
   refine zC hG [(6, 2, .call (.tup [(false, [.d (.i (intV m))]), (false, [.d (.b (intK m))])]) [] [])] [1, 0, 1, 1, 1] (((!(intK m)) || (decide ((intV m : Int) > 1000000000000000))) || (decide ((s : Int) > 6))) (⟨[(1, [], .c (.bx 100 0)), (2, [], .c (.bx 101 0)), (3, [], .c (.d (.b false))), (7, [], .c (.d (.i (intV m))))], [(100, .box 155 [.d (.b neg), .d (.s (S (nb m))), .d (.i s)]), (101, .box 38 [.d (.i 0), .d (.i 0)])]⟩) (by kernel_rfl) (conj1 ((int_ok m (by first | omega | (simp only [maxLen]; omega)) : SpG g _ _ _ _ _))) (fun hc4 => ?_) (fun hc4 => ?_)
   ·(try simp only [zq13, Bool.not_true, Bool.false_or] at hc4)
    refine zR hG [] [] (.tup [(true, [.d (.i 0), .d (.i 0)]), (false, [.d (.b false)])]) [] (by kernel_rfl) conj0 ?_ ?_
    ·have hL : fitL m s.toNat = (m, s.toNat) := fitL_stop hs0 (by omega)
     rw [hf] at hL
     have hb : fitB m0 s0 = false := by unfold fitB; rw [hL]; simp only [intK, intV, decide_eq_false_iff_not] at hc4 ⊢; rintro ⟨q1, q2⟩; rw [if_pos (by omega)] at hc4; omega
     rw [fitN, fitS, hb]; rfl
    ·rfl
   ·(try simp only [zq13, Bool.not_true, Bool.false_or] at hc4)
    refine zc hG [] [1, 0, 1, 1, 1, 1] (neg) (by kernel_rfl) conj0 (fun hc5 => ?_) (fun hc5 => ?_)
    ·(try simp only [zq13, Bool.not_true, Bool.false_or] at hc5)
     refine zR hG [] [] (.tup [(true, [.d (.i (IntKind.wrap .i64 (0 - (intV m)))), .d (.i s)]), (false, [.d (.b true)])]) [] (by kernel_rfl) conj0 ?_ ?_
     ·have hL : fitL m s.toNat = (m, s.toNat) := fitL_stop hs0 (by omega)
      rw [hf] at hL
      have hk : m < 2 ^ 63 ∧ m ≤ 1000000000000000 ∧ s ≤ 6 := by
       have hc := hc4
       simp only [intK, intV, decide_eq_true_eq] at hc
       obtain ⟨⟨q1, q2⟩, q3⟩ := hc
       rw [if_pos q1] at q2; omega
      have hi : intV m = m := if_pos hk.1
      have hb : fitB m0 s0 = true := by unfold fitB; rw [hL]; simp; omega
      have hs : (s.toNat : Int) = s := by omega
      rw [fitN, fitS, hb, hL, hi]
      simp only [if_true, hs]
      rw [wrap_neg (by omega)]; simp [hc5]
     ·rfl
    ·(try simp only [zq13, Bool.not_true, Bool.false_or] at hc5)
     refine zR hG [] [] (.tup [(true, [.d (.i (intV m)), .d (.i s)]), (false, [.d (.b true)])]) [] (by kernel_rfl) conj0 ?_ ?_
     ·have hL : fitL m s.toNat = (m, s.toNat) := fitL_stop hs0 (by omega)
      rw [hf] at hL
      have hk : m < 2 ^ 63 ∧ m ≤ 1000000000000000 ∧ s ≤ 6 := by
       have hc := hc4
       simp only [intK, intV, decide_eq_true_eq] at hc
       obtain ⟨⟨q1, q2⟩, q3⟩ := hc
       rw [if_pos q1] at q2; omega
      have hi : intV m = m := if_pos hk.1
      have hb : fitB m0 s0 = true := by unfold fitB; rw [hL]; simp; omega
      have hs : (s.toNat : Int) = s := by omega
      rw [fitN, fitS, hb, hL, hi]
      simp only [if_true, hs]
      simp [hc5]
     ·rfl
  ·(try simp only [zq13, Bool.not_true, Bool.false_or] at hc3)
   refine zD hG [] (m / 10, s - 1) (by kernel_rfl) (conj1 (show inR (s - 1) from (by intros; first | omega | ((try simp only [decide_eq_true_eq, inR, S_size] at *) <;> omega)))) ?_ ?_
   ·(try dsimp only); omega
   ·exact ⟨by omega, by omega, by omega, (fitL_step (by omega) (by omega)).symm.trans hf⟩
 ·(try simp only [zq13, Bool.not_true, Bool.false_or] at hc2)
  refine zE hG [] (.exit 0) (⟨[(1, [], .c (.bx 100 0)), (2, [], .c (.bx 101 0)), (3, [], .c (.d (.b false)))], [(100, .box 155 [.d (.b neg), .d (.s (S (nb m))), .d (.i s)]), (101, .box 38 [.d (.i 0), .d (.i 0)])]⟩) (by kernel_rfl) conj0 rfl ?_
  refine zC hG [(6, 2, .call (.tup [(false, [.d (.i (intV m))]), (false, [.d (.b (intK m))])]) [] [])] [1, 0, 1, 1, 1] (((!(intK m)) || (decide ((intV m : Int) > 1000000000000000))) || (decide ((s : Int) > 6))) (⟨[(1, [], .c (.bx 100 0)), (2, [], .c (.bx 101 0)), (3, [], .c (.d (.b false))), (7, [], .c (.d (.i (intV m))))], [(100, .box 155 [.d (.b neg), .d (.s (S (nb m))), .d (.i s)]), (101, .box 38 [.d (.i 0), .d (.i 0)])]⟩) (by kernel_rfl) (conj1 ((int_ok m (by first | omega | (simp only [maxLen]; omega)) : SpG g _ _ _ _ _))) (fun hc6 => ?_) (fun hc6 => ?_)
  ·(try simp only [zq13, Bool.not_true, Bool.false_or] at hc6)
   refine zR hG [] [] (.tup [(true, [.d (.i 0), .d (.i 0)]), (false, [.d (.b false)])]) [] (by kernel_rfl) conj0 ?_ ?_
   ·have hL : fitL m s.toNat = (m, s.toNat) := fitL_stop hs0 (by omega)
    rw [hf] at hL
    have hb : fitB m0 s0 = false := by unfold fitB; rw [hL]; simp only [intK, intV, decide_eq_false_iff_not] at hc6 ⊢; rintro ⟨q1, q2⟩; rw [if_pos (by omega)] at hc6; omega
    rw [fitN, fitS, hb]; rfl
   ·rfl
  ·(try simp only [zq13, Bool.not_true, Bool.false_or] at hc6)
   refine zc hG [] [1, 0, 1, 1, 1, 1] (neg) (by kernel_rfl) conj0 (fun hc7 => ?_) (fun hc7 => ?_)
   ·(try simp only [zq13, Bool.not_true, Bool.false_or] at hc7)
    refine zR hG [] [] (.tup [(true, [.d (.i (IntKind.wrap .i64 (0 - (intV m)))), .d (.i s)]), (false, [.d (.b true)])]) [] (by kernel_rfl) conj0 ?_ ?_
    ·have hL : fitL m s.toNat = (m, s.toNat) := fitL_stop hs0 (by omega)
     rw [hf] at hL
     have hk : m < 2 ^ 63 ∧ m ≤ 1000000000000000 ∧ s ≤ 6 := by
      have hc := hc6
      simp only [intK, intV, decide_eq_true_eq] at hc
      obtain ⟨⟨q1, q2⟩, q3⟩ := hc
      rw [if_pos q1] at q2; omega
     have hi : intV m = m := if_pos hk.1
     have hb : fitB m0 s0 = true := by unfold fitB; rw [hL]; simp; omega
     have hs : (s.toNat : Int) = s := by omega
     rw [fitN, fitS, hb, hL, hi]
     simp only [if_true, hs]
     rw [wrap_neg (by omega)]; simp [hc7]
    ·rfl
   ·(try simp only [zq13, Bool.not_true, Bool.false_or] at hc7)
    refine zR hG [] [] (.tup [(true, [.d (.i (intV m)), .d (.i s)]), (false, [.d (.b true)])]) [] (by kernel_rfl) conj0 ?_ ?_
    ·have hL : fitL m s.toNat = (m, s.toNat) := fitL_stop hs0 (by omega)
     rw [hf] at hL
     have hk : m < 2 ^ 63 ∧ m ≤ 1000000000000000 ∧ s ≤ 6 := by
      have hc := hc6
      simp only [intK, intV, decide_eq_true_eq] at hc
      obtain ⟨⟨q1, q2⟩, q3⟩ := hc
      rw [if_pos q1] at q2; omega
     have hi : intV m = m := if_pos hk.1
     have hb : fitB m0 s0 = true := by unfold fitB; rw [hL]; simp; omega
     have hs : (s.toNat : Int) = s := by omega
     rw [fitN, fitS, hb, hL, hi]
     simp only [if_true, hs]
     simp [hc7]
    ·rfl
theorem make_ok (n s : Int) (h0 : -72000000000000000 ≤ n) (h1 : n ≤ 72000000000000000) (h2 : 0 ≤ s) (h3 : s ≤ 18) :
  SpG g 86 [.c (.d (.i n)), .c (.d (.i s))] [] (.tup [(true, [.d (.i (fitN (decide (n < 0)) n.natAbs s)), .d (.i (fitS n.natAbs s))]), (false, [.d (.b (fitB n.natAbs s))])]) [] := by
 have hl := nb_len (n := n.natAbs) (k := 8) (by omega)
 refine enterB 22 Tryz.func86 (by kernel_rfl) fun fr hG => ?_
 refine zC hG [] [1, 0, 1] ((decide ((s : Int) < 0)) || (decide ((s : Int) > 18))) (⟨[(0, [], .c (.d (.i n))), (1, [], .c (.d (.i s))), (4, [], .c (.bx 100 0)), (5, [], .c (.d (.b false)))], [(100, .box 38 [.d (.i 0), .d (.i 0)])]⟩) (by kernel_rfl) conj0 (fun hc1 => ?_) (fun hc1 => ?_)
 ·(try simp only [blS] at hc1)
  exfalso; simp at hc1; omega
 ·(try simp only [blS] at hc1)
  exact zr hG [(3, 3, .call (.c (.d (.s (S (nb n.natAbs))))) [] []), (3, 6, .call (.tup [(true, [.d (.i (fitN (decide ((n : Int) < 0)) n.natAbs s)), .d (.i (fitS n.natAbs s))]), (false, [.d (.b (fitB n.natAbs s))])]) [] [])] [] (by kernel_rfl) (conjC ((natural_ok n (by unfold inR; omega) : SpG g _ _ _ _ _)) (conj1 ((fit_ok (decide ((n : Int) < 0)) n.natAbs s (by omega) (by omega) (by omega) : SpG g _ _ _ _ _))))
end Go.Proofs.YtdejnaokkdndeaaGreatDoor
namespace Go.Proofs.YtdejnaokkdndeaaGreatDoor
open Go.RowKit Go.V
open Go.Eng (inR byteAt u8 bytesV)
variable {g : Gv}
def nxV (l : List Int) (k n : Int) : Int := if k ≥ l.length ∨ n < 1 then 0 else ((l.getD k.toNat 0).tmod n + n).tmod n
def nxK (l : List Int) (k n : Int) : Int := if k ≥ l.length ∨ n < 1 then k else k + 1
structure NumOk (l : List Int) (k : Int) : Prop where
 k0 : 0 ≤ k
 k1 : k ≤ l.length
 k2 : (l.length : Int) ≤ 9223372036854775807
theorem NumOk.next {l : List Int} {k : Int} (h : NumOk l k) (n : Int) : NumOk l (nxK l k n) := by
 have := h.k0; have := h.k1
 unfold nxK; split
 ·exact h
 ·exact ⟨by omega, by omega, h.k2⟩
theorem tmod_in {x n : Int} (hn : 1 ≤ n) : -n < x.tmod n ∧ x.tmod n < n :=
 ⟨Int.lt_tmod_of_pos x (by omega), Int.tmod_lt_of_pos x (by omega)⟩
theorem nxV_bd (l : List Int) (k : Int) {n : Int} (hn : 1 ≤ n) : 0 ≤ nxV l k n ∧ nxV l k n < n := by
 unfold nxV
 split
 ·omega
 ·have h1 := tmod_in (x := l.getD k.toNat 0) hn
  refine ⟨Int.tmod_nonneg _ (by omega), Int.tmod_lt_of_pos _ (by omega)⟩
def wordsL : List (List UInt8) := [[], [97], [98], [97, 98], [105, 116, 39, 115], [50, 48, 50, 52, 45, 48, 49, 45, 51, 49], [49, 50], [45, 51, 46, 53], [65, 124, 66, 44, 91, 99, 93, 59], [78, 111, 114, 116, 104, 32, 55], [120, 32, 121], [39, 39], [97, 98, 99, 97, 98, 99], [48], [55, 46, 50, 53]]
def chM (l : List Int) : Nat → Int → List UInt8 × Int
 | 0, k => ([], k)
 | n + 1, k => (u8 (32 + nxV l k 95) :: (chM l n (nxK l k 95)).1, (chM l n (nxK l k 95)).2)
def txN (l : List Int) (k : Int) : Int := if nxV l k 18 = 17 then 190 + nxV l (nxK l (nxK l k 18) 9) 11 else nxV l (nxK l k 18) 9
def txK (l : List Int) (k : Int) : Int := if nxV l k 18 = 17 then nxK l (nxK l (nxK l k 18) 9) 11 else nxK l (nxK l k 18) 9
def txM (l : List Int) (k : Int) : List UInt8 × Int := if nxV l k 18 < 15 then (wordsL.getD (nxV l k 18).toNat [], nxK l k 18) else chM l (txN l k).toNat (txK l k)
theorem ch_step {l : List Int} {N j : Nat} {kk : Int} (h : j < N) : chM l (N - j) kk = (u8 (32 + nxV l kk 95) :: (chM l (N - (j + 1)) (nxK l kk 95)).1, (chM l (N - (j + 1)) (nxK l kk 95)).2) := by
 have : N - j = (N - (j + 1)) + 1 := by omega
 rw [this, chM]
theorem ch_len (l : List Int) : ∀ (n : Nat) (k : Int), (chM l n k).1.length = n
 | 0, k => rfl
 | n + 1, k => by simp [chM, ch_len l n]
theorem ch_num {l : List Int} : ∀ (n : Nat) {k : Int}, NumOk l k → NumOk l (chM l n k).2
 | 0, k, h => h
 | n + 1, k, h => by rw [chM]; exact ch_num n (h.next 95)
theorem tx_num {l : List Int} {k : Int} (h : NumOk l k) : NumOk l (txM l k).2 := by
 unfold txM; split
 ·exact h.next 18
 ·refine ch_num _ ?_
  unfold txK; split
  ·exact ((h.next 18).next 9).next 11
  ·exact (h.next 18).next 9
theorem txN_bd (l : List Int) (k : Int) : 0 ≤ txN l k ∧ txN l k ≤ 200 := by
 unfold txN
 have h1 := nxV_bd l (nxK l (nxK l k 18) 9) (n := 11) (by decide)
 have h2 := nxV_bd l (nxK l k 18) (n := 9) (by decide)
 split <;> omega
def dcN (l : List Int) (k : Int) : Int := if nxV l (nxK l k 2001) 8 = 7 then nxV l (nxK l (nxK l k 2001) 8) 2000000000000001 - 1000000000000000 else nxV l k 2001 - 1000
def dcK (l : List Int) (k : Int) : Int := if nxV l (nxK l k 2001) 8 = 7 then nxK l (nxK l (nxK l k 2001) 8) 2000000000000001 else nxK l (nxK l k 2001) 8
def dcM (l : List Int) (k : Int) : Int × Int × Int :=
 (fitN (decide (dcN l k < 0)) (dcN l k).natAbs (nxV l (dcK l k) 4), fitS (dcN l k).natAbs (nxV l (dcK l k) 4), nxK l (dcK l k) 4)
theorem dc_num {l : List Int} {k : Int} (h : NumOk l k) : NumOk l (dcM l k).2.2 := by
 unfold dcM dcK
 simp only
 split
 ·exact (((h.next _).next _).next _).next _
 ·exact ((h.next _).next _).next _
def cvM (l : List Int) (k kind : Int) : Cl × Int :=
 if kind = 1 then (⟨1, (txM l k).1, 0, 0, 0⟩, (txM l k).2)
 else if kind = 2 then (⟨2, [], (dcM l k).1, (dcM l k).2.1, 0⟩, (dcM l k).2.2)
 else if kind = 3 then (if nxV l (nxK l k 1000) 8 = 7 then (⟨3, [], 0, 0, nxV l (nxK l (nxK l k 1000) 8) 3652059⟩, nxK l (nxK l (nxK l k 1000) 8) 3652059) else (⟨3, [], 0, 0, 738000 + nxV l k 1000⟩, nxK l (nxK l k 1000) 8))
 else if kind = 4 then (⟨4, [], 0, 0, nxV l k 2⟩, nxK l k 2)
 else (⟨0, [], 0, 0, nxV l k 100⟩, nxK l k 100)
def abcL : List (List UInt8) := [[97], [98], [99]]
def kdM (l : List Int) : Nat → Int → List Int × Int
 | 0, k => ([], k)
 | n + 1, k => ((1 + nxV l k 4) :: (kdM l n (nxK l k 4)).1, (kdM l n (nxK l k 4)).2)
def ceM (l : List Int) (kind k : Int) : Cl × Int := if nxV l k 9 = 8 then (Cl.z, nxK l k 9) else cvM l (nxK l k 9) kind
def rwM (l : List Int) : List Int → Int → List Cl × Int
 | [], k => ([], k)
 | kd :: r, k => ((ceM l kd k).1 :: (rwM l r (ceM l kd k).2).1, (rwM l r (ceM l kd k).2).2)
def rsM (l : List Int) (kds : List Int) : Nat → Int → List (List Cl) × Int
 | 0, k => ([], k)
 | n + 1, k => ((rwM l kds k).1 :: (rsM l kds n (rwM l kds k).2).1, (rsM l kds n (rwM l kds k).2).2)
def tbK (l : List Int) (k : Int) : List Int × Int := kdM l (nxV l k 4).toNat (nxK l k 4)
def tbR (l : List Int) (k : Int) : List (List Cl) × Int := rsM l (tbK l k).1 (nxV l (tbK l k).2 5).toNat (nxK l (tbK l k).2 5)
def tbM (l : List Int) (k : Int) : Vl × Int := (⟨5, [], 0, 0, 0, abcL.take (nxV l k 4).toNat, (tbR l k).1⟩, (tbR l k).2)
def vlM (l : List Int) (k kind : Int) : Vl × Int := if kind = 5 then tbM l k else ((cvM l k kind).1.toV, (cvM l k kind).2)
theorem cv_num {l : List Int} {k kind : Int} (h : NumOk l k) : NumOk l (cvM l k kind).2 := by
 unfold cvM
 split
 ·exact tx_num h
 ·split
  ·exact dc_num h
  ·split
   ·split
    ·exact ((h.next _).next _).next _
    ·exact (h.next _).next _
   ·split
    ·exact h.next _
    ·exact h.next _
theorem ce_num {l : List Int} {k kind : Int} (h : NumOk l k) : NumOk l (ceM l kind k).2 := by
 unfold ceM
 split
 ·exact h.next _
 ·exact cv_num (h.next _)
theorem rw_num {l : List Int} : ∀ (r : List Int) {k : Int}, NumOk l k → NumOk l (rwM l r k).2
 | [], k, h => h
 | kd :: r, k, h => rw_num r (ce_num h)
theorem kd_step {l : List Int} {N j : Nat} {kk : Int} (h : j < N) : kdM l (N - j) kk = ((1 + nxV l kk 4) :: (kdM l (N - (j + 1)) (nxK l kk 4)).1, (kdM l (N - (j + 1)) (nxK l kk 4)).2) := by
 have : N - j = (N - (j + 1)) + 1 := by omega
 rw [this, kdM]
theorem rs_step {l kds : List Int} {N j : Nat} {kk : Int} (h : j < N) : rsM l kds (N - j) kk = ((rwM l kds kk).1 :: (rsM l kds (N - (j + 1)) (rwM l kds kk).2).1, (rsM l kds (N - (j + 1)) (rwM l kds kk).2).2) := by
 have : N - j = (N - (j + 1)) + 1 := by omega
 rw [this, rsM]
theorem rw_step {l kds : List Int} {j : Nat} {kk : Int} (h : j < kds.length) : rwM l (kds.drop j) kk = ((ceM l (kds.getD j 0) kk).1 :: (rwM l (kds.drop (j + 1)) (ceM l (kds.getD j 0) kk).2).1, (rwM l (kds.drop (j + 1)) (ceM l (kds.getD j 0) kk).2).2) := by
 have : kds.drop j = kds.getD j 0 :: kds.drop (j + 1) := by
  rw [List.drop_eq_getElem_cons h]; simp [h]
 rw [this, rwM]
theorem take_succ_strs {l : List (List UInt8)} {j : Nat} (h : j < l.length) : strs (l.take (j + 1)) = strs (l.take j) ++ [strD (l.getD j [])] := by
 simp only [strs]
 rw [List.take_add_one, List.map_append]
 simp [h]
theorem abc_at {j : Nat} (h : j < 3) : ([[D.s (S [97])], [D.s (S [98])], [D.s (S [99])]] : List (List D))[j]? = some (strD (abcL.getD j [])) := by
 have hj3 : j = 0 ∨ j = 1 ∨ j = 2 := by omega
 rcases hj3 with rfl | rfl | rfl <;> rfl
def zq14 := And.intro @List.length_map.{0, 0} (And.intro @Go.Eng.inR.eq_1 (And.intro @intsD.eq_1 (@maxLen.eq_1)))
theorem next_ok (l : List Int) (k n : Int) (h : NumOk l k) (hn : n ≤ 1000000000000000001) :
  SpG g 39 [.c (.bx 0 0), .c (.d (.i n))] [(0, .box 53 [.d (.sl 1 (intsD l)), .d (.i k)])] (.c (.d (.i (nxV l k n)))) [(0, .box 53 [.d (.sl 1 (intsD l)), .d (.i (nxK l k n))])] := by
 have h0 := h.k0; have h1 := h.k1; have h2 := h.k2
 have hk1 : k + 1 - 1 = k := by omega
 have hb : 1 ≤ n → -n < (l.getD k.toNat 0).tmod n ∧ (l.getD k.toNat 0).tmod n < n := tmod_in
 refine enterB 43 Tryz.func39 (by kernel_rfl) fun fr hG => ?_
 refine zC hG [] [1, 0, 1] ((decide ((k : Int) ≥ ((intsD l).length : Int))) || (decide ((n : Int) < 1))) (⟨[(0, [], .c (.bx 0 0)), (1, [], .c (.d (.i n))), (4, [], .c (.d (.i 0)))], [(0, .box 53 [.d (.sl 1 (intsD l)), .d (.i k)])]⟩) (by kernel_rfl) conj0 (fun hc1 => ?_) (fun hc1 => ?_)
 ·(try simp only [blS, intsD, List.length_map] at hc1)
  refine zR hG [] [] (.c (.d (.i 0))) [(0, .box 53 [.d (.sl 1 (intsD l)), .d (.i k)])] (by kernel_rfl) conj0 ?_ ?_
  ·rw [nxV, if_pos hc1]
  ·rw [nxK, if_pos hc1]
 ·(try simp only [blS, intsD, List.length_map] at hc1)
  refine zR hG [(4, 9, .elem (intD ((l).getD ((k + 1) - 1 : Int).toNat 0)))] [] (.c (.d (.i (Int.tmod ((Int.tmod ((l).getD ((k + 1) - 1 : Int).toNat 0) n) + n) n)))) [(0, .box 53 [.d (.sl 1 (intsD l)), .d (.i (k + 1))])] (by kernel_rfl) (conjC (show inR (k + 1) from (by intros; (try rw [hk1]); (try simp only [zq14] at *); omega)) (conjC (show inR ((k + 1) - 1) from (by intros; (try rw [hk1]); (try simp only [zq14] at *); omega)) (conjC (show (0 : Int) ≤ ((k + 1) - 1) ∧ (intsD l)[((k + 1) - 1 : Int).toNat]? = some (intD ((l).getD ((k + 1) - 1 : Int).toNat 0)) from (by intros; exact map_at _ (by omega) (by (try simp only [zq7] at *); omega))) (conjC (show n ≠ (0 : Int) from (by intros; (try rw [hk1]); (try simp only [zq14] at *); omega)) (conjC (show inR ((Int.tmod ((l).getD ((k + 1) - 1 : Int).toNat 0) n) + n) from (by intros; (try rw [hk1]); (try simp only [zq14] at *); omega)) (conj1 (show n ≠ (0 : Int) from (by intros; (try rw [hk1]); (try simp only [zq14] at *); omega)))))))) ?_ ?_
  ·rw [nxV, if_neg (by omega), hk1]
  ·rw [nxK, if_neg (by omega)]
theorem words_ok  :
  SpG g 85 [] [] (.c (.ar 100 0)) [(100, .arr 0 9 1 (strs wordsL))] := by
 refine enterB 2 Tryz.func85 (by kernel_rfl) fun fr hG => ?_
 exact zr hG [] [200] (by kernel_rfl) conj0
def zq15 := And.intro @Go.Eng.inR.eq_1 (@maxLen.eq_1)
def zq16 := And.intro @List.length_append.{0} (And.intro @List.length_cons.{0} (@List.length_nil.{0}))
theorem numText_ok (l : List Int) (k : Int) (h : NumOk l k) :
  SpG g 57 [.c (.bx 0 0)] [(0, .box 53 [.d (.sl 1 (intsD l)), .d (.i k)])] (.c (.d (.s (S (txM l k).1)))) [(0, .box 53 [.d (.sl 1 (intsD l)), .d (.i ((txM l k).2))])] := by
 have a1 := nxV_bd l k (n := 18) (by decide)
 have a2 := nxV_bd l (nxK l k 18) (n := 9) (by decide)
 have a3 := nxV_bd l (nxK l (nxK l k 18) 9) (n := 11) (by decide)
 have hw : ((strs wordsL).length : Int) = 15 := rfl
 refine enterB 40 Tryz.func57 (by kernel_rfl) fun fr hG => ?_
 refine zC hG [(1, 1, .call (.c (.d (.i (nxV l k 18)))) [] [[.sl 1 (intsD l), .i (nxK l k 18)]]), (2, 0, .call (.c (.ar 100 0)) [(100, .arr 0 9 1 (strs wordsL))] [])] [1, 0, 1, 1, 1] (decide ((nxV l k 18 : Int) < ((strs wordsL).length : Int))) (⟨[(0, [], .c (.bx 0 0)), (2, [], .c (.d (.s (S [])))), (3, [], .c (.d (.i (nxV l k 18)))), (4, [], .c (.ar 300 0))], [(0, .box 53 [.d (.sl 1 (intsD l)), .d (.i (nxK l k 18))]), (300, .arr 0 9 1 (strs wordsL))]⟩) (by kernel_rfl) (conjC ((next_ok l k 18 (by (repeat (first | assumption | apply NumOk.next))) (by decide) : SpG g _ _ _ _ _)) (conj1 ((words_ok : SpG g _ _ _ _ _)))) (fun hc1 => ?_) (fun hc1 => ?_)
 ·(try simp only [blS] at hc1)
  refine zR hG [(4, 3, .elem (strD ((wordsL).getD (nxV l k 18 : Int).toNat [])))] [] (.c (.d (.s (S ((wordsL).getD (nxV l k 18 : Int).toNat []))))) [(0, .box 53 [.d (.sl 1 (intsD l)), .d (.i (nxK l k 18))])] (by kernel_rfl) (conjC (show (0 : Int) ≤ (nxV l k 18) ∧ (nxV l k 18) < ((strs wordsL).length : Int) from (by intros; (try simp only [zq15] at *); (try simp only [zq16] at *); omega)) (conj1 (show (strs wordsL)[(nxV l k 18 : Int).toNat]? = some (strD ((wordsL).getD (nxV l k 18 : Int).toNat [])) from (by intros; exact map_nat _ (by (try simp only [zq3] at *); omega))))) ?_ ?_
  ·rw [txM, if_pos (by omega)]
  ·rw [txM, if_pos (by omega)]
 ·(try simp only [blS] at hc1)
  refine zC hG [(5, 1, .call (.c (.d (.i (nxV l (nxK l k 18) 9)))) [] [[.sl 1 (intsD l), .i (nxK l (nxK l k 18) 9)]])] [1, 0, 1, 1, 1, 1, 1] (decide ((nxV l k 18 : Int) = 17)) (⟨[(0, [], .c (.bx 0 0)), (2, [], .c (.d (.s (S [])))), (5, [], .c (.d (.i (nxV l (nxK l k 18) 9))))], [(0, .box 53 [.d (.sl 1 (intsD l)), .d (.i (nxK l (nxK l k 18) 9))])]⟩) (by kernel_rfl) (conj1 ((next_ok l (nxK l k 18) 9 (by (repeat (first | assumption | apply NumOk.next))) (by decide) : SpG g _ _ _ _ _))) (fun hc2 => ?_) (fun hc2 => ?_)
  ·(try simp only [blS] at hc2)
   refine zA hG [(7, 1, .call (.c (.d (.i (nxV l (nxK l (nxK l k 18) 9) 11)))) [] [[.sl 1 (intsD l), .i (nxK l (nxK l (nxK l k 18) 9) 11)]])] [0, 1, 0, 1, 1, 1, 1, 1, 1, 1] (⟨[(0, [], .c (.bx 0 0)), (2, [], .c (.d (.s (S [])))), (5, [], .c (.d (.i (190 + (nxV l (nxK l (nxK l k 18) 9) 11))))), (6, [], .c (.d (.nil))), (7, [], .c (.d (.i 0)))], [(0, .box 53 [.d (.sl 1 (intsD l)), .d (.i (nxK l (nxK l (nxK l k 18) 9) 11))])]⟩) [(6, 9000, 5, 1)] [] (fun (zz : Nat × List (List D) × List UInt8 × Int) => match zz with | (j, es, acc, kk) => ((190 + (nxV l (nxK l (nxK l k 18) 9) 11)).toNat - j, ⟨[(0, [], .c (.bx 0 0)), (2, [], .c (.d (.s (S [])))), (5, [], .c (.d (.i (190 + (nxV l (nxK l (nxK l k 18) 9) 11))))), (6, [], .c (.ar 9000 0)), (7, [], .c (.d (.i (j : Int))))], [(0, .box 53 [.d (.sl 1 (intsD l)), .d (.i kk)]), (9000, .arr 0 5 1 (es))]⟩, j ≤ (190 + (nxV l (nxK l (nxK l k 18) 9) 11)).toNat ∧ NumOk l kk ∧ es = bytesD acc ∧ acc.length = j ∧ acc ++ (chM l ((190 + (nxV l (nxK l (nxK l k 18) 9) 11)).toNat - j) kk).1 = (chM l (190 + (nxV l (nxK l (nxK l k 18) 9) 11)).toNat (nxK l (nxK l (nxK l k 18) 9) 11)).1 ∧ (chM l ((190 + (nxV l (nxK l (nxK l k 18) 9) 11)).toNat - j) kk).2 = (chM l (190 + (nxV l (nxK l (nxK l k 18) 9) 11)).toNat (nxK l (nxK l (nxK l k 18) 9) 11)).2)) (0, [], [], nxK l (nxK l (nxK l k 18) 9) 11) (by kernel_rfl) (conjC ((next_ok l (nxK l (nxK l k 18) 9) 11 (by (repeat (first | assumption | apply NumOk.next))) (by decide) : SpG g _ _ _ _ _)) (conj1 (show inR (190 + (nxV l (nxK l (nxK l k 18) 9) 11)) from (by intros; (try simp only [zq15] at *); (try simp only [zq16] at *); omega)))) (by kernel_rfl) (by kernel_rfl) ?_ ?_
   ·exact ⟨Nat.zero_le _, (by (repeat (first | assumption | apply NumOk.next))), rfl, rfl, by simp, by simp⟩
   rintro ⟨j, es, acc, kk⟩ ⟨hj, hN, hes, ha, h3, h4⟩
   have hlen : es.length = j := by rw [hes, bytesD_len, ha]
   have hx := nxV_bd l kk (n := 95) (by decide)
   refine zc hG [] [1, 0] (decide (((j : Int) : Int) < (190 + (nxV l (nxK l (nxK l k 18) 9) 11)))) (by kernel_rfl) conj0 (fun hc4 => ?_) (fun hc4 => ?_)
   ·(try simp only [blS] at hc4)
    refine zD hG [(12, 2, .call (.c (.d (.i (nxV l kk 95)))) [] [[.sl 1 (intsD l), .i (nxK l kk 95)]])] (j + 1, es ++ [[D.y (IntKind.wrap .u8 (32 + nxV l kk 95))]], acc ++ [u8 (32 + nxV l kk 95)], nxK l kk 95) (by kernel_rfl) (conjC ((next_ok l kk 95 (by (repeat (first | assumption | apply NumOk.next))) (by decide) : SpG g _ _ _ _ _)) (conjC (show inR (32 + (nxV l kk 95)) from (by intros; (try simp only [zq15] at *); (try simp only [zq16] at *); omega)) (conjC (show ((es).length + (([[.y (IntKind.wrap .u8 (32 + (nxV l kk 95)))]] : List (List D))).length) * (1 + 1) ≤ 140737488355328 from (by intros; (try simp only [zq15] at *); (try simp only [zq16] at *); omega)) (conj1 (show inR ((j : Int) + 1) from (by intros; (try simp only [zq15] at *); (try simp only [zq16] at *); omega)))))) ?_ ?_
    ·(try dsimp only); omega
    ·have hjs := ch_step (l := l) (kk := kk) (N := (190 + (nxV l (nxK l (nxK l k 18) 9) 11)).toNat) (j := j) (by omega)
     refine ⟨by omega, hN.next _, by rw [hes, bytesD_snoc], by simp [ha], ?_, ?_⟩
     ·rw [← h3, hjs]; simp
     ·rw [← h4, hjs]
   ·(try simp only [blS] at hc4)
    refine zE hG [] (.exit 0) (⟨[(2, [], .c (.d (.s (S [])))), (6, [], .c (.ar 9000 0))], [(0, .box 53 [.d (.sl 1 (intsD l)), .d (.i kk)]), (9000, .arr 0 5 1 (es))]⟩) (by kernel_rfl) conj0 rfl ?_
    refine zR hG [(13, 1, .call (.c (.d (.s (S acc)))) [] [])] [] (.c (.d (.s (S acc)))) [(0, .box 53 [.d (.sl 1 (intsD l)), .d (.i kk)])] (by kernel_rfl) (conj1 (show es = bytesD (S acc).data.toList from (by rw [hes, bytesD_S]))) ?_ ?_
    ·have e : txM l k = chM l (txN l k).toNat (txK l k) := by rw [txM, if_neg (by omega)]
     have e2 : txN l k = 190 + nxV l (nxK l (nxK l k 18) 9) 11 := by rw [txN, if_pos hc2]
     have e3 : txK l k = nxK l (nxK l (nxK l k 18) 9) 11 := by rw [txK, if_pos hc2]
     have hz : (190 + nxV l (nxK l (nxK l k 18) 9) 11).toNat - j = 0 := by omega
     rw [hz] at h3
     simp only [chM, List.append_nil] at h3
     rw [e, e2, e3, ← h3]
    ·have e : txM l k = chM l (txN l k).toNat (txK l k) := by rw [txM, if_neg (by omega)]
     have e2 : txN l k = 190 + nxV l (nxK l (nxK l k 18) 9) 11 := by rw [txN, if_pos hc2]
     have e3 : txK l k = nxK l (nxK l (nxK l k 18) 9) 11 := by rw [txK, if_pos hc2]
     have hz : (190 + nxV l (nxK l (nxK l k 18) 9) 11).toNat - j = 0 := by omega
     rw [hz] at h4
     simp only [chM] at h4
     rw [e, e2, e3, ← h4]
  ·(try simp only [blS] at hc2)
   refine zA hG [] [0, 1, 0, 1, 1, 1, 1, 1, 1, 1] (⟨[(0, [], .c (.bx 0 0)), (2, [], .c (.d (.s (S [])))), (5, [], .c (.d (.i (nxV l (nxK l k 18) 9)))), (6, [], .c (.d (.nil))), (7, [], .c (.d (.i 0)))], [(0, .box 53 [.d (.sl 1 (intsD l)), .d (.i (nxK l (nxK l k 18) 9))])]⟩) [(6, 9000, 5, 1)] [] (fun (zz : Nat × List (List D) × List UInt8 × Int) => match zz with | (j, es, acc, kk) => ((nxV l (nxK l k 18) 9).toNat - j, ⟨[(0, [], .c (.bx 0 0)), (2, [], .c (.d (.s (S [])))), (5, [], .c (.d (.i (nxV l (nxK l k 18) 9)))), (6, [], .c (.ar 9000 0)), (7, [], .c (.d (.i (j : Int))))], [(0, .box 53 [.d (.sl 1 (intsD l)), .d (.i kk)]), (9000, .arr 0 5 1 (es))]⟩, j ≤ (nxV l (nxK l k 18) 9).toNat ∧ NumOk l kk ∧ es = bytesD acc ∧ acc.length = j ∧ acc ++ (chM l ((nxV l (nxK l k 18) 9).toNat - j) kk).1 = (chM l (nxV l (nxK l k 18) 9).toNat (nxK l (nxK l k 18) 9)).1 ∧ (chM l ((nxV l (nxK l k 18) 9).toNat - j) kk).2 = (chM l (nxV l (nxK l k 18) 9).toNat (nxK l (nxK l k 18) 9)).2)) (0, [], [], nxK l (nxK l k 18) 9) (by kernel_rfl) conj0 (by kernel_rfl) (by kernel_rfl) ?_ ?_
   ·exact ⟨Nat.zero_le _, (by (repeat (first | assumption | apply NumOk.next))), rfl, rfl, by simp, by simp⟩
   rintro ⟨j, es, acc, kk⟩ ⟨hj, hN, hes, ha, h3, h4⟩
   have hlen : es.length = j := by rw [hes, bytesD_len, ha]
   have hx := nxV_bd l kk (n := 95) (by decide)
   refine zc hG [] [1, 0] (decide (((j : Int) : Int) < (nxV l (nxK l k 18) 9))) (by kernel_rfl) conj0 (fun hc6 => ?_) (fun hc6 => ?_)
   ·(try simp only [blS] at hc6)
    refine zD hG [(12, 2, .call (.c (.d (.i (nxV l kk 95)))) [] [[.sl 1 (intsD l), .i (nxK l kk 95)]])] (j + 1, es ++ [[D.y (IntKind.wrap .u8 (32 + nxV l kk 95))]], acc ++ [u8 (32 + nxV l kk 95)], nxK l kk 95) (by kernel_rfl) (conjC ((next_ok l kk 95 (by (repeat (first | assumption | apply NumOk.next))) (by decide) : SpG g _ _ _ _ _)) (conjC (show inR (32 + (nxV l kk 95)) from (by intros; (try simp only [zq15] at *); (try simp only [zq16] at *); omega)) (conjC (show ((es).length + (([[.y (IntKind.wrap .u8 (32 + (nxV l kk 95)))]] : List (List D))).length) * (1 + 1) ≤ 140737488355328 from (by intros; (try simp only [zq15] at *); (try simp only [zq16] at *); omega)) (conj1 (show inR ((j : Int) + 1) from (by intros; (try simp only [zq15] at *); (try simp only [zq16] at *); omega)))))) ?_ ?_
    ·(try dsimp only); omega
    ·have hjs := ch_step (l := l) (kk := kk) (N := (nxV l (nxK l k 18) 9).toNat) (j := j) (by omega)
     refine ⟨by omega, hN.next _, by rw [hes, bytesD_snoc], by simp [ha], ?_, ?_⟩
     ·rw [← h3, hjs]; simp
     ·rw [← h4, hjs]
   ·(try simp only [blS] at hc6)
    refine zE hG [] (.exit 0) (⟨[(2, [], .c (.d (.s (S [])))), (6, [], .c (.ar 9000 0))], [(0, .box 53 [.d (.sl 1 (intsD l)), .d (.i kk)]), (9000, .arr 0 5 1 (es))]⟩) (by kernel_rfl) conj0 rfl ?_
    refine zR hG [(13, 1, .call (.c (.d (.s (S acc)))) [] [])] [] (.c (.d (.s (S acc)))) [(0, .box 53 [.d (.sl 1 (intsD l)), .d (.i kk)])] (by kernel_rfl) (conj1 (show es = bytesD (S acc).data.toList from (by rw [hes, bytesD_S]))) ?_ ?_
    ·have e : txM l k = chM l (txN l k).toNat (txK l k) := by rw [txM, if_neg (by omega)]
     have e2 : txN l k = nxV l (nxK l k 18) 9 := by rw [txN, if_neg hc2]
     have e3 : txK l k = nxK l (nxK l k 18) 9 := by rw [txK, if_neg hc2]
     have hz : (nxV l (nxK l k 18) 9).toNat - j = 0 := by omega
     rw [hz] at h3
     simp only [chM, List.append_nil] at h3
     rw [e, e2, e3, ← h3]
    ·have e : txM l k = chM l (txN l k).toNat (txK l k) := by rw [txM, if_neg (by omega)]
     have e2 : txN l k = nxV l (nxK l k 18) 9 := by rw [txN, if_neg hc2]
     have e3 : txK l k = nxK l (nxK l k 18) 9 := by rw [txK, if_neg hc2]
     have hz : (nxV l (nxK l k 18) 9).toNat - j = 0 := by omega
     rw [hz] at h4
     simp only [chM] at h4
     rw [e, e2, e3, ← h4]
theorem numDec_ok (l : List Int) (k : Int) (h : NumOk l k) :
  SpG g 58 [.c (.bx 0 0)] [(0, .box 53 [.d (.sl 1 (intsD l)), .d (.i k)])] (.agg [.d (.i ((dcM l k).1)), .d (.i ((dcM l k).2.1))]) [(0, .box 53 [.d (.sl 1 (intsD l)), .d (.i ((dcM l k).2.2))])] := by
 have a1 := nxV_bd l k (n := 2001) (by decide)
 have a2 := nxV_bd l (nxK l (nxK l k 2001) 8) (n := 2000000000000001) (by decide)
 have a3 := nxV_bd l (nxK l (nxK l k 2001) 8) (n := 4) (by decide)
 have a4 := nxV_bd l (nxK l (nxK l (nxK l k 2001) 8) 2000000000000001) (n := 4) (by decide)
 refine enterB 23 Tryz.func58 (by kernel_rfl) fun fr hG => ?_
 refine zC hG [(1, 1, .call (.c (.d (.i (nxV l k 2001)))) [] [[.sl 1 (intsD l), .i (nxK l k 2001)]]), (2, 1, .call (.c (.d (.i (nxV l (nxK l k 2001) 8)))) [] [[.sl 1 (intsD l), .i (nxK l (nxK l k 2001) 8)]])] [1, 0, 1, 1] (decide ((nxV l (nxK l k 2001) 8 : Int) = 7)) (⟨[(0, [], .c (.bx 0 0)), (2, [], .c (.bx 100 0)), (3, [], .c (.d (.i ((nxV l k 2001) - 1000))))], [(0, .box 53 [.d (.sl 1 (intsD l)), .d (.i (nxK l (nxK l k 2001) 8))]), (100, .box 38 [.d (.i 0), .d (.i 0)])]⟩) (by kernel_rfl) (conjC ((next_ok l k 2001 (by (repeat (first | assumption | apply NumOk.next))) (by decide) : SpG g _ _ _ _ _)) (conjC (show inR ((nxV l k 2001) - 1000) from (by intros; (try simp only [zq15] at *); (try simp only [zq16] at *); omega)) (conj1 ((next_ok l (nxK l k 2001) 8 (by (repeat (first | assumption | apply NumOk.next))) (by decide) : SpG g _ _ _ _ _))))) (fun hc1 => ?_) (fun hc1 => ?_)
 ·(try simp only [blS] at hc1)
  refine zR hG [(3, 1, .call (.c (.d (.i (nxV l (nxK l (nxK l k 2001) 8) 2000000000000001)))) [] [[.sl 1 (intsD l), .i (nxK l (nxK l (nxK l k 2001) 8) 2000000000000001)]]), (4, 2, .call (.c (.d (.i (nxV l (nxK l (nxK l (nxK l k 2001) 8) 2000000000000001) 4)))) [] [[.sl 1 (intsD l), .i (nxK l (nxK l (nxK l (nxK l k 2001) 8) 2000000000000001) 4)]]), (4, 3, .call (.tup [(true, [.d (.i (fitN (decide ((nxV l (nxK l (nxK l k 2001) 8) 2000000000000001) - 1000000000000000 < 0)) ((nxV l (nxK l (nxK l k 2001) 8) 2000000000000001) - 1000000000000000).natAbs (nxV l (nxK l (nxK l (nxK l k 2001) 8) 2000000000000001) 4))), .d (.i (fitS ((nxV l (nxK l (nxK l k 2001) 8) 2000000000000001) - 1000000000000000).natAbs (nxV l (nxK l (nxK l (nxK l k 2001) 8) 2000000000000001) 4)))]), (false, [.d (.b (fitB ((nxV l (nxK l (nxK l k 2001) 8) 2000000000000001) - 1000000000000000).natAbs (nxV l (nxK l (nxK l (nxK l k 2001) 8) 2000000000000001) 4)))])]) [] [])] [] (.agg [.d (.i (fitN (decide ((nxV l (nxK l (nxK l k 2001) 8) 2000000000000001) - 1000000000000000 < 0)) ((nxV l (nxK l (nxK l k 2001) 8) 2000000000000001) - 1000000000000000).natAbs (nxV l (nxK l (nxK l (nxK l k 2001) 8) 2000000000000001) 4))), .d (.i (fitS ((nxV l (nxK l (nxK l k 2001) 8) 2000000000000001) - 1000000000000000).natAbs (nxV l (nxK l (nxK l (nxK l k 2001) 8) 2000000000000001) 4)))]) [(0, .box 53 [.d (.sl 1 (intsD l)), .d (.i (nxK l (nxK l (nxK l (nxK l k 2001) 8) 2000000000000001) 4))])] (by kernel_rfl) (conjC ((next_ok l (nxK l (nxK l k 2001) 8) 2000000000000001 (by (repeat (first | assumption | apply NumOk.next))) (by decide) : SpG g _ _ _ _ _)) (conjC (show inR ((nxV l (nxK l (nxK l k 2001) 8) 2000000000000001) - 1000000000000000) from (by intros; (try simp only [zq15] at *); (try simp only [zq16] at *); omega)) (conjC ((next_ok l (nxK l (nxK l (nxK l k 2001) 8) 2000000000000001) 4 (by (repeat (first | assumption | apply NumOk.next))) (by decide) : SpG g _ _ _ _ _)) (conj1 ((make_ok ((nxV l (nxK l (nxK l k 2001) 8) 2000000000000001) - 1000000000000000) (nxV l (nxK l (nxK l (nxK l k 2001) 8) 2000000000000001) 4) (by omega) (by omega) (by omega) (by omega) : SpG g _ _ _ _ _)))))) ?_ ?_
  ·simp [dcM, dcN, dcK, hc1]
  ·simp [dcM, dcN, dcK, hc1]
 ·(try simp only [blS] at hc1)
  refine zR hG [(4, 2, .call (.c (.d (.i (nxV l (nxK l (nxK l k 2001) 8) 4)))) [] [[.sl 1 (intsD l), .i (nxK l (nxK l (nxK l k 2001) 8) 4)]]), (4, 3, .call (.tup [(true, [.d (.i (fitN (decide ((nxV l k 2001) - 1000 < 0)) ((nxV l k 2001) - 1000).natAbs (nxV l (nxK l (nxK l k 2001) 8) 4))), .d (.i (fitS ((nxV l k 2001) - 1000).natAbs (nxV l (nxK l (nxK l k 2001) 8) 4)))]), (false, [.d (.b (fitB ((nxV l k 2001) - 1000).natAbs (nxV l (nxK l (nxK l k 2001) 8) 4)))])]) [] [])] [] (.agg [.d (.i (fitN (decide ((nxV l k 2001) - 1000 < 0)) ((nxV l k 2001) - 1000).natAbs (nxV l (nxK l (nxK l k 2001) 8) 4))), .d (.i (fitS ((nxV l k 2001) - 1000).natAbs (nxV l (nxK l (nxK l k 2001) 8) 4)))]) [(0, .box 53 [.d (.sl 1 (intsD l)), .d (.i (nxK l (nxK l (nxK l k 2001) 8) 4))])] (by kernel_rfl) (conjC ((next_ok l (nxK l (nxK l k 2001) 8) 4 (by (repeat (first | assumption | apply NumOk.next))) (by decide) : SpG g _ _ _ _ _)) (conj1 ((make_ok ((nxV l k 2001) - 1000) (nxV l (nxK l (nxK l k 2001) 8) 4) (by omega) (by omega) (by omega) (by omega) : SpG g _ _ _ _ _)))) ?_ ?_
  ·simp [dcM, dcN, dcK, hc1]
  ·simp [dcM, dcN, dcK, hc1]
theorem numCell_ok (l : List Int) (k kind : Int) (h : NumOk l k) (hk : ¬ kind = 5) :
  SpG g 21 [.c (.bx 0 0), .c (.d (.i kind))] [(0, .box 53 [.d (.sl 1 (intsD l)), .d (.i k)])] (.agg [.d (.i (((cvM l k kind).1).kind)), .d (.s (S ((cvM l k kind).1).s)), .d (.i (((cvM l k kind).1).dn)), .d (.i (((cvM l k kind).1).ds)), .d (.i (((cvM l k kind).1).n)), .d (.nil), .d (.nil)]) [(0, .box 53 [.d (.sl 1 (intsD l)), .d (.i ((cvM l k kind).2))])] := by
 have a1 := nxV_bd l k (n := 1000) (by decide)
 refine enterB 45 Tryz.func21 (by kernel_rfl) fun fr hG => ?_
 refine zC hG [] [1, 0, 1, 0, 1] (decide ((kind : Int) = 1)) (⟨[(0, [], .c (.bx 0 0)), (1, [], .c (.d (.i kind))), (4, [], .c (.bx 100 0)), (6, [], .c (.d (.i kind)))], [(0, .box 53 [.d (.sl 1 (intsD l)), .d (.i k)]), (100, .box 42 [.d (.i 0), .d (.s (S [])), .d (.i 0), .d (.i 0), .d (.i 0), .d (.nil), .d (.nil)])]⟩) (by kernel_rfl) conj0 (fun hc1 => ?_) (fun hc1 => ?_)
 ·(try simp only [blS] at hc1)
  refine zR hG [(3, 2, .call (.c (.d (.s (S (txM l k).1)))) [] [[.sl 1 (intsD l), .i ((txM l k).2)]])] [] (.agg [.d (.i kind), .d (.s (S (txM l k).1)), .d (.i 0), .d (.i 0), .d (.i 0), .d (.nil), .d (.nil)]) [(0, .box 53 [.d (.sl 1 (intsD l)), .d (.i ((txM l k).2))])] (by kernel_rfl) (conj1 ((numText_ok l k (by (repeat (first | assumption | apply NumOk.next))) : SpG g _ _ _ _ _))) ?_ ?_
  ·simp [cvM, *]
  ·simp [cvM, *]
 ·(try simp only [blS] at hc1)
  refine zc hG [] [1, 1, 1, 0, 1, 0, 1] (decide ((kind : Int) = 2)) (by kernel_rfl) conj0 (fun hc2 => ?_) (fun hc2 => ?_)
  ·(try simp only [blS] at hc2)
   refine zR hG [(5, 2, .call (.agg [.d (.i ((dcM l k).1)), .d (.i ((dcM l k).2.1))]) [] [[.sl 1 (intsD l), .i ((dcM l k).2.2)]])] [] (.agg [.d (.i kind), .d (.s (S [])), .d (.i ((dcM l k).1)), .d (.i ((dcM l k).2.1)), .d (.i 0), .d (.nil), .d (.nil)]) [(0, .box 53 [.d (.sl 1 (intsD l)), .d (.i ((dcM l k).2.2))])] (by kernel_rfl) (conj1 ((numDec_ok l k (by (repeat (first | assumption | apply NumOk.next))) : SpG g _ _ _ _ _))) ?_ ?_
   ·simp [cvM, *]
   ·simp [cvM, *]
  ·(try simp only [blS] at hc2)
   refine zc hG [] [1, 1, 1, 1, 1, 0, 1, 0, 1] (decide ((kind : Int) = 3)) (by kernel_rfl) conj0 (fun hc3 => ?_) (fun hc3 => ?_)
   ·(try simp only [blS] at hc3)
    refine zC hG [(7, 1, .call (.c (.d (.i (nxV l k 1000)))) [] [[.sl 1 (intsD l), .i (nxK l k 1000)]]), (8, 1, .call (.c (.d (.i (nxV l (nxK l k 1000) 8)))) [] [[.sl 1 (intsD l), .i (nxK l (nxK l k 1000) 8)]])] [1, 0, 1, 0, 1, 1, 1, 1, 1, 0, 1, 0, 1] (decide ((nxV l (nxK l k 1000) 8 : Int) = 7)) (⟨[(0, [], .c (.bx 0 0)), (1, [], .c (.d (.i kind))), (4, [], .c (.bx 100 0)), (5, [], .c (.d (.i (738000 + (nxV l k 1000)))))], [(0, .box 53 [.d (.sl 1 (intsD l)), .d (.i (nxK l (nxK l k 1000) 8))]), (100, .box 42 [.d (.i 0), .d (.s (S [])), .d (.i 0), .d (.i 0), .d (.i 0), .d (.nil), .d (.nil)])]⟩) (by kernel_rfl) (conjC ((next_ok l k 1000 (by (repeat (first | assumption | apply NumOk.next))) (by decide) : SpG g _ _ _ _ _)) (conjC (show inR (738000 + (nxV l k 1000)) from (by intros; (try simp only [zq15] at *); (try simp only [zq16] at *); omega)) (conj1 ((next_ok l (nxK l k 1000) 8 (by (repeat (first | assumption | apply NumOk.next))) (by decide) : SpG g _ _ _ _ _))))) (fun hc4 => ?_) (fun hc4 => ?_)
    ·(try simp only [blS] at hc4)
     refine zR hG [(9, 1, .call (.c (.d (.i (nxV l (nxK l (nxK l k 1000) 8) 3652059)))) [] [[.sl 1 (intsD l), .i (nxK l (nxK l (nxK l k 1000) 8) 3652059)]])] [] (.agg [.d (.i kind), .d (.s (S [])), .d (.i 0), .d (.i 0), .d (.i (nxV l (nxK l (nxK l k 1000) 8) 3652059)), .d (.nil), .d (.nil)]) [(0, .box 53 [.d (.sl 1 (intsD l)), .d (.i (nxK l (nxK l (nxK l k 1000) 8) 3652059))])] (by kernel_rfl) (conj1 ((next_ok l (nxK l (nxK l k 1000) 8) 3652059 (by (repeat (first | assumption | apply NumOk.next))) (by decide) : SpG g _ _ _ _ _))) ?_ ?_
     ·simp [cvM, *]
     ·simp [cvM, *]
    ·(try simp only [blS] at hc4)
     refine zR hG [] [] (.agg [.d (.i kind), .d (.s (S [])), .d (.i 0), .d (.i 0), .d (.i (738000 + (nxV l k 1000))), .d (.nil), .d (.nil)]) [(0, .box 53 [.d (.sl 1 (intsD l)), .d (.i (nxK l (nxK l k 1000) 8))])] (by kernel_rfl) conj0 ?_ ?_
     ·simp [cvM, *]
     ·simp [cvM, *]
   ·(try simp only [blS] at hc3)
    refine zc hG [] [1, 1, 1, 1, 1, 1, 1, 0, 1, 0, 1] (decide ((kind : Int) = 4)) (by kernel_rfl) conj0 (fun hc5 => ?_) (fun hc5 => ?_)
    ·(try simp only [blS] at hc5)
     refine zR hG [(12, 2, .call (.c (.d (.i (nxV l k 2)))) [] [[.sl 1 (intsD l), .i (nxK l k 2)]])] [] (.agg [.d (.i kind), .d (.s (S [])), .d (.i 0), .d (.i 0), .d (.i (nxV l k 2)), .d (.nil), .d (.nil)]) [(0, .box 53 [.d (.sl 1 (intsD l)), .d (.i (nxK l k 2))])] (by kernel_rfl) (conj1 ((next_ok l k 2 (by (repeat (first | assumption | apply NumOk.next))) (by decide) : SpG g _ _ _ _ _))) ?_ ?_
     ·simp [cvM, *]
     ·simp [cvM, *]
    ·(try simp only [blS] at hc5)
     refine zC hG [] [1, 1, 1, 1, 1, 1, 1, 1, 1, 0, 1, 0, 1] (decide ((kind : Int) = 5)) (⟨[(0, [], .c (.bx 0 0)), (4, [], .c (.bx 100 0))], [(0, .box 53 [.d (.sl 1 (intsD l)), .d (.i k)]), (100, .box 42 [.d (.i 0), .d (.s (S [])), .d (.i 0), .d (.i 0), .d (.i 0), .d (.nil), .d (.nil)])]⟩) (by kernel_rfl) conj0 (fun hc6 => ?_) (fun hc6 => ?_)
     ·(try simp only [blS] at hc6)
      exact absurd hc6 hk
     ·(try simp only [blS] at hc6)
      refine zR hG [(15, 1, .call (.c (.d (.i (nxV l k 100)))) [] [[.sl 1 (intsD l), .i (nxK l k 100)]])] [] (.agg [.d (.i 0), .d (.s (S [])), .d (.i 0), .d (.i 0), .d (.i (nxV l k 100)), .d (.nil), .d (.nil)]) [(0, .box 53 [.d (.sl 1 (intsD l)), .d (.i (nxK l k 100))])] (by kernel_rfl) (conj1 ((next_ok l k 100 (by (repeat (first | assumption | apply NumOk.next))) (by decide) : SpG g _ _ _ _ _))) ?_ ?_
      ·simp [cvM, *]
      ·simp [cvM, *]
end Go.Proofs.YtdejnaokkdndeaaGreatDoor
