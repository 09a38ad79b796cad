/- Part 33 of the proof: texts A1, Cal, A2, B1, B2, Nb, B3, B4, D0, D1, D2. -/
import Derived.Test.YtmpgfchkkemngaaGreatDoorP32
import Derived.Test.YtmpgfchkkemngaaGreatDoorProg
set_option linter.all false
namespace Go.Proofs.YtmpgfchkkemngaaGreatDoor
open Go.RowKit Go.Eng
theorem ret_bool {a b : Bool} (h : a = b) : Ending.returned (.bool a) = .returned (.bool b) := by rw [h]
theorem ret_int {k : IntKind} {a b : Int} (h : a = b) : Ending.returned (.int k a) = .returned (.int k b) := by rw [h]
abbrev bs (s : ByteArray) : List UInt8 := s.data.toList
theorem bs_length (s : ByteArray) : (bs s).length = s.size := by cases s; simp [ByteArray.size]
def bAt (s : ByteArray) (k : Nat) : UInt8 := (bs s).getD k 0
theorem bs_drop (s : ByteArray) (k : Nat) (h : k < s.size) : (bs s).drop k = bAt s k :: (bs s).drop (k + 1) := by
 have h' : k < (bs s).length := by rw [bs_length]; exact h
 rw [List.drop_eq_getElem_cons h', bAt, List.getD_eq_getElem?_getD, List.getElem?_eq_getElem h']; rfl
theorem str_beq (a b : ByteArray) : (a.toList == b.toList) = decide (a = b) := by
 rw [Bool.eq_iff_iff]; simp only [beq_iff_eq, decide_eq_true_eq, ByteArray.toList_eq]
 constructor
 ·intro h
  cases a; cases b
  exact congrArg ByteArray.mk (Array.toList_inj.1 h)
 ·rintro rfl; rfl
theorem empty_iff (a : ByteArray) : a = ⟨#[]⟩ ↔ a.size = 0 := by
 constructor
 ·rintro rfl; rfl
 ·intro h
  cases a with
  | mk d => simp only [ByteArray.size] at h; rw [Array.eq_empty_of_size_eq_zero h]
theorem bs_nil (s : ByteArray) (k : Nat) (h : s.size ≤ k) : (bs s).drop k = [] := List.drop_eq_nil_of_le (by rw [bs_length]; exact h)
theorem byteAt_nat (s : ByteArray) (k : Nat) : byteAt s (k : Int) = ((bAt s k).toNat : Int) := by simp [byteAt, bAt]
def isLetter (c : Int) : Bool := (decide (c ≥ 97) && decide (c ≤ 122)) || (decide (c ≥ 65) && decide (c ≤ 90))
def okByte (c : UInt8) : Bool := decide (32 ≤ (c.toNat : Int)) && decide ((c.toNat : Int) ≤ 126)
def isTextB (s : ByteArray) : Bool := (bs s).all okByte && decide ((s.size : Int) ≤ 200)
def tailByte (c : UInt8) : Bool := isLetter c.toNat || decide ((c.toNat : Int) = 95) || (decide (48 ≤ (c.toNat : Int)) && decide ((c.toNat : Int) ≤ 57))
def isNameB (s : ByteArray) : Bool := decide (1 ≤ s.size) && decide (s.size ≤ 20) && isLetter (bAt s 0).toNat && (bs s).all tailByte
theorem tail_of {x : Int} {b : Bool} (h : (b = true ∨ x = 95) ∨ ¬ x < 48 ∧ ¬ x > 57) : (b || decide (x = 95) || (decide (48 ≤ x) && decide (x ≤ 57))) = true := by
 rcases h with (h | h) | h
 ·simp [h]
 ·simp [h]
 ·have h1 : 48 ≤ x := by omega
  have h2 : x ≤ 57 := by omega
  simp [h1, h2]
theorem tail_not {x : Int} {b : Bool} (h : (b = false ∧ ¬ x = 95) ∧ (x < 48 ∨ x > 57)) : (b || decide (x = 95) || (decide (48 ≤ x) && decide (x ≤ 57))) = false := by
 obtain ⟨⟨h1, h2⟩, h3⟩ := h
 simp [h1, h2]; omega
theorem byteAt_zero (s : ByteArray) : byteAt s 0 = ((bAt s 0).toNat : Int) := byteAt_nat s 0
theorem nameB_yes {s : ByteArray} (h : (¬ s.size = 0 ∧ ¬ (s.size : Int) > 20) ∧ isLetter (byteAt s 0) = true) (ht : (bs s).all tailByte = true) : isNameB s = true := by
 obtain ⟨⟨h1, h2⟩, h3⟩ := h
 rw [byteAt_zero] at h3
 simp only [isNameB, h3, ht, Bool.and_true, Bool.and_eq_true, decide_eq_true_eq]; omega
theorem nameB_head {s : ByteArray} (h : (s.size = 0 ∨ (s.size : Int) > 20) ∨ isLetter (byteAt s 0) = false) : isNameB s = false := by
 rcases h with (h | h) | h
 ·simp [isNameB, h]
 ·have : ¬ s.size ≤ 20 := by omega
  simp [isNameB, this]
 ·rw [byteAt_zero] at h; simp [isNameB, h]
theorem nameB_not {s : ByteArray} (ht : (bs s).all tailByte = false) : isNameB s = false := by simp [isNameB, ht]
theorem isLetter_iff (x : Int) : isLetter x = true ↔ (x ≥ 97 ∧ x ≤ 122 ∨ x ≥ 65 ∧ x ≤ 90) := by simp [isLetter]
theorem isLetter_not (x : Int) : isLetter x = false ↔ ¬ (x ≥ 97 ∧ x ≤ 122 ∨ x ≥ 65 ∧ x ≤ 90) := by rw [← isLetter_iff]; simp
theorem rn_tail {c : UInt8} {k : Int} (h : ((c.toNat : Int) ≥ 97 ∧ (c.toNat : Int) ≤ 122 ∨ (c.toNat : Int) ≥ 65 ∧ (c.toNat : Int) ≤ 90) ∨ ¬ k = 0 ∧ ((c.toNat : Int) = 95 ∨ ¬ (c.toNat : Int) < 48 ∧ ¬ (c.toNat : Int) > 57)) : tailByte c = true := by
 rcases h with h | ⟨_, h | h⟩
 ·rw [tailByte, (isLetter_iff _).2 h]; rfl
 ·rw [tailByte, h]; simp
 ·exact tail_of (.inr h)
theorem rn_head {s : ByteArray} {k : Nat} {Z : Prop} (h : (((bAt s k).toNat : Int) ≥ 97 ∧ ((bAt s k).toNat : Int) ≤ 122 ∨ ((bAt s k).toNat : Int) ≥ 65 ∧ ((bAt s k).toNat : Int) ≤ 90) ∨ ¬ (k : Int) = 0 ∧ Z)
  (hl : 1 ≤ k → isLetter (bAt s 0).toNat = true) : isLetter (bAt s 0).toNat = true := by
 by_cases hk : k = 0
 ·subst hk
  rcases h with h | h
  ·exact (isLetter_iff _).2 h
  ·exact absurd rfl h.1
 ·exact hl (by omega)
theorem rn_bad {s : ByteArray} {k : Nat} {r : List UInt8} (h : ¬ (((bAt s k).toNat : Int) ≥ 97 ∧ ((bAt s k).toNat : Int) ≤ 122 ∨ ((bAt s k).toNat : Int) ≥ 65 ∧ ((bAt s k).toNat : Int) ≤ 90) ∧ ((k : Int) = 0 ∨ ¬ ((bAt s k).toNat : Int) = 95 ∧ (((bAt s k).toNat : Int) < 48 ∨ ((bAt s k).toNat : Int) > 57)))
  (hall : (bs s).all tailByte = ((bs s).drop k).all tailByte) (hd : (bs s).drop k = bAt s k :: r) : isNameB s = false := by
 obtain ⟨h1, h2⟩ := h
 rcases h2 with h2 | h2
 ·have : k = 0 := by omega
  subst this
  exact nameB_head (.inr (by rw [byteAt_zero]; exact (isLetter_not _).2 h1))
 ·exact nameB_not (by rw [hall, hd, List.all_cons, tailByte, tail_not ⟨⟨(isLetter_not _).2 h1, h2.1⟩, h2.2⟩, Bool.false_and])
theorem rn_end {s : ByteArray} {k : Nat} (hall : (bs s).all tailByte = ((bs s).drop k).all tailByte) (hd : (bs s).drop k = []) (hk : s.size ≤ k) (hl : 1 ≤ k → isLetter (bAt s 0).toNat = true) :
  (decide ((s.size : Int) ≥ 1) && decide ((s.size : Int) ≤ 20)) = isNameB s := by
 rw [hd] at hall
 simp only [List.all_nil] at hall
 by_cases h : s.size = 0
 ·simp [isNameB, h]
 ·simp only [isNameB, hall, hl (by omega), Bool.and_true]
  rw [Bool.eq_iff_iff]; simp; omega
def leapB (y : Int) : Bool := decide (y % 4 = 0) && (decide (y % 100 ≠ 0) || decide (y % 400 = 0))
def decB (n s : Int) : Bool := decide (0 ≤ s) && decide (s ≤ 6) && decide (-1000000000000000 ≤ n) && decide (n ≤ 1000000000000000) && (decide (s = 0) || decide (n.tmod 10 ≠ 0))
theorem within_any (n : Int) (w : World) :
  Calls Tryz.prog 73 #[.int .i64 n] w fun e w' => e = .returned (.bool (decide (-1000000000000000 ≤ n) && decide (n ≤ 1000000000000000))) ∧ w = w' := by
 refine enter (n := 9) Tryz.func73 rfl rfl rfl [(0, .v (.int .i64 n))] rfl ?_
 refine run_seq ?_
 refine run_region ?_
 refine seg 1 [(0, .v (.int .i64 n)), (2, .v (.bool false))] [] (by decide) (by kernel_rfl) ownOk_nil trivial ?_
 refine runI_end rfl ?_
 refine at_then ?_
 refine run_seq ?_
 refine run_region ?_
 refine seg 7 [(2, .v (.bool ((decide ((n : Int) ≥ (-1000000000000000))) && (decide ((n : Int) ≤ 1000000000000000)))))] [] (by decide) (by kernel_rfl) ownOk_nil trivial ?_
 refine runI_end rfl ?_
 refine at_then ?_
 refine run_ret ?_
 refine at_ret (.bool ((decide ((n : Int) ≥ (-1000000000000000))) && (decide ((n : Int) ≤ 1000000000000000)))) (by kernel_rfl) ownOk_nil ?_
 exact ⟨rfl, rfl⟩
theorem exists_any (n : Int) (w : World) :
  Calls Tryz.prog 167 #[.int .i64 n] w fun e w' => e = .returned (.bool (decide (0 ≤ n) && decide (n ≤ 3652058))) ∧ w = w' := by
 refine enter (n := 9) Tryz.func167 rfl rfl rfl [(0, .v (.int .i64 n))] rfl ?_
 refine run_seq ?_
 refine run_region ?_
 refine seg 1 [(0, .v (.int .i64 n)), (2, .v (.bool false))] [] (by decide) (by kernel_rfl) ownOk_nil trivial ?_
 refine runI_end rfl ?_
 refine at_then ?_
 refine run_seq ?_
 refine run_region ?_
 refine seg 7 [(2, .v (.bool ((decide ((n : Int) ≥ 0)) && (decide ((n : Int) ≤ 3652058)))))] [] (by decide) (by kernel_rfl) ownOk_nil trivial ?_
 refine runI_end rfl ?_
 refine at_then ?_
 refine run_ret ?_
 refine at_ret (.bool ((decide ((n : Int) ≥ 0)) && (decide ((n : Int) ≤ 3652058)))) (by kernel_rfl) ownOk_nil ?_
 exact ⟨rfl, rfl⟩
theorem letter_any (c : Int) (w : World) :
  Calls Tryz.prog 114 #[.int .u8 c] w fun e w' => e = .returned (.bool (isLetter c)) ∧ w = w' := by
 refine enter (n := 17) Tryz.func114 rfl rfl rfl [(0, .v (.int .u8 c))] rfl ?_
 refine run_seq ?_
 refine run_region ?_
 refine seg 1 [(0, .v (.int .u8 c)), (2, .v (.bool false))] [] (by decide) (by kernel_rfl) ownOk_nil trivial ?_
 refine runI_end rfl ?_
 refine at_then ?_
 refine run_seq ?_
 refine run_region ?_
 refine seg 15 [(2, .v (.bool (((decide ((c : Int) ≥ 97)) && (decide ((c : Int) ≤ 122))) || ((decide ((c : Int) ≥ 65)) && (decide ((c : Int) ≤ 90))))))] [] (by decide) (by kernel_rfl) ownOk_nil trivial ?_
 refine runI_end rfl ?_
 refine at_then ?_
 refine run_ret ?_
 refine at_ret (.bool (((decide ((c : Int) ≥ 97)) && (decide ((c : Int) ≤ 122))) || ((decide ((c : Int) ≥ 65)) && (decide ((c : Int) ≤ 90))))) (by kernel_rfl) ownOk_nil ?_
 exact ⟨rfl, rfl⟩
def zq0 := And.intro @blS (@inR.eq_1)
theorem leap_any (y : Int) (w : World) (h : 0 ≤ y) :
  Calls Tryz.prog 196 #[.int .i64 y] w fun e w' => e = .returned (.bool (leapB y)) ∧ w = w' := by
 refine enter (n := 16) Tryz.func196 rfl rfl rfl [(0, .v (.int .i64 y))] rfl ?_
 refine run_seq ?_
 refine run_region ?_
 refine seg 1 [(0, .v (.int .i64 y)), (2, .v (.bool false))] [] (by decide) (by kernel_rfl) ownOk_nil trivial ?_
 refine runI_end rfl ?_
 refine at_then ?_
 refine run_seq ?_
 refine run_region ?_
 refine seg 14 [(2, .v (.bool (((decide ((Int.tmod y 4 : Int) = 0)) && (!decide ((Int.tmod y 100 : Int) = 0))) || (decide ((Int.tmod y 400 : Int) = 0)))))] [4 ≠ (0 : Int), (decide ((Int.tmod y 4 : Int) = 0)) = true → 100 ≠ (0 : Int), ((decide ((Int.tmod y 4 : Int) = 0)) && (!decide ((Int.tmod y 100 : Int) = 0))) = false → 400 ≠ (0 : Int)] (by decide) (by kernel_rfl) ownOk_nil (show (4 ≠ (0 : Int)) ∧ ((decide ((Int.tmod y 4 : Int) = 0)) = true → 100 ≠ (0 : Int)) ∧ (((decide ((Int.tmod y 4 : Int) = 0)) && (!decide ((Int.tmod y 100 : Int) = 0))) = false → 400 ≠ (0 : Int)) from ⟨(by intros; first | omega | decide | (simp only [zq0] at *; omega)), (by intros; first | omega | decide | (simp only [zq0] at *; omega)), (by intros; first | omega | decide | (simp only [zq0] at *; omega))⟩) ?_
 refine runI_end rfl ?_
 refine at_then ?_
 refine run_ret ?_
 refine at_ret (.bool (((decide ((Int.tmod y 4 : Int) = 0)) && (!decide ((Int.tmod y 100 : Int) = 0))) || (decide ((Int.tmod y 400 : Int) = 0)))) (by kernel_rfl) ownOk_nil ?_
 exact ⟨ret_bool (by simp only [leapB, Int.tmod_eq_emod_of_nonneg h]; rw [Bool.eq_iff_iff]; simp; try omega), rfl⟩
theorem decRight_any (n s : Int) (w : World) :
  Calls Tryz.prog 39 #[.agg #[.int .i64 n, .int .i64 s]] w fun e w' => e = .returned (.bool (decB n s)) ∧ Below w.heap.size w w' := by
 refine enter (n := 26) Tryz.func39 rfl rfl rfl [(0, .v (.agg #[.int .i64 n, .int .i64 s]))] rfl ?_
 refine run_seq ?_
 refine run_region ?_
 refine newB (t := 1) (ty := 26) (cells := [.int .i64 n, .int .i64 s]) (by kernel_rfl) ownOk_nil ?_
 intro b1 w2 hb3 hO4 hB5
 have hB5' : Below w.heap.size w w2 := below_ext (Below.refl w.heap.size w) hB5
 have hb3' : w.heap.size ≤ b1 := Nat.le_trans ((Below.refl w.heap.size w)).size hb3
 refine seg 2 [(1, .box 0 0), (2, .v (.bool false))] [] (by decide) (by kernel_rfl) hO4 trivial ?_
 refine runI_end rfl ?_
 refine at_then ?_
 refine run_seq ?_
 refine run_seq ?_
 refine run_region ?_
 refine segK 11 [⟨1, [], .box 0 0⟩, ⟨2, [], .v (.bool false)⟩, ⟨11, [], .v (.bool ((decide ((s : Int) < 0)) || (decide ((s : Int) > 6))))⟩, ⟨13, [(11, false)], .v (.int .i64 n)⟩] [] (by decide) (by kernel_rfl) hO4 trivial ?_
 refine callV (dst := (some 14)) (p := [(11, false)]) (f := 73) (args := #[.int .i64 n]) (.bool (decide ((-1000000000000000 : Int) ≤ n) && decide (n ≤ (1000000000000000 : Int)))) (fun wv => w2 = wv) (by kernel_rfl) (by
  intro hg7
  (try simp only [blS] at hg7)
  exact within_any _ _) (fun _ => rfl) ?_
 rintro _ rfl
 refine seg 14 [(1, .box 0 0), (2, .v (.bool false)), (16, .v (.bool (((decide ((s : Int) < 0)) || (decide ((s : Int) > 6))) || (!(decide ((-1000000000000000 : Int) ≤ n) && decide (n ≤ (1000000000000000 : Int)))))))] [] (by decide) (by kernel_rfl) hO4 trivial ?_
 refine runI_end rfl ?_
 refine at_then ?_
 refine run_cond (((decide ((s : Int) < 0)) || (decide ((s : Int) > 6))) || (!(decide ((-1000000000000000 : Int) ≤ n) && decide (n ≤ (1000000000000000 : Int))))) (by kernel_rfl) (fun hc8 => ?_) (fun hc8 => ?_)
 ·(try simp only [blS] at hc8)
  refine run_seq ?_
  refine run_region ?_
  refine seg 1 [(1, .box 0 0), (2, .v (.bool false))] [] (by decide) (by kernel_rfl) hO4 trivial ?_
  refine runI_end rfl ?_
  refine at_then ?_
  refine run_ret ?_
  refine at_then_ret ?_
  refine at_ret (.bool false) (by kernel_rfl) hO4 ?_
  exact ⟨ret_bool (by simp only [decB]; rw [Bool.eq_iff_iff]; simp; try omega), hB5'⟩
 ·(try simp only [blS] at hc8)
  refine run_skip ?_
  refine at_then ?_
  refine run_seq ?_
  refine run_region ?_
  refine seg 10 [(2, .v (.bool ((decide ((s : Int) = 0)) || (!decide ((Int.tmod n 10 : Int) = 0)))))] [(decide ((s : Int) = 0)) = false → 10 ≠ (0 : Int)] (by decide) (by kernel_rfl) hO4 (show (decide ((s : Int) = 0)) = false → 10 ≠ (0 : Int) from (by intros; first | omega | decide | (simp only [zq0] at *; omega))) ?_
  refine runI_end rfl ?_
  refine at_then ?_
  refine run_ret ?_
  refine at_ret (.bool ((decide ((s : Int) = 0)) || (!decide ((Int.tmod n 10 : Int) = 0)))) (by kernel_rfl) hO4 ?_
  exact ⟨ret_bool (by simp only [decB]; rw [Bool.eq_iff_iff]; simp; try omega), hB5'⟩
theorem refDecRight_any (n s : Int) (w : World) :
  Calls Tryz.prog 42 #[.agg #[.int .i64 n, .int .i64 s]] w fun e w' => e = .returned (.bool (decB n s)) ∧ Below w.heap.size w w' := by
 refine enter (n := 32) Tryz.func42 rfl rfl rfl [(0, .v (.agg #[.int .i64 n, .int .i64 s]))] rfl ?_
 refine run_seq ?_
 refine run_region ?_
 refine newB (t := 1) (ty := 26) (cells := [.int .i64 n, .int .i64 s]) (by kernel_rfl) ownOk_nil ?_
 intro b1 w2 hb3 hO4 hB5
 have hB5' : Below w.heap.size w w2 := below_ext (Below.refl w.heap.size w) hB5
 have hb3' : w.heap.size ≤ b1 := Nat.le_trans ((Below.refl w.heap.size w)).size hb3
 refine seg 2 [(1, .box 0 0), (2, .v (.bool false))] [] (by decide) (by kernel_rfl) hO4 trivial ?_
 refine runI_end rfl ?_
 refine at_then ?_
 refine run_seq ?_
 refine run_region ?_
 refine seg 30 [(2, .v (.bool (((((decide ((s : Int) ≥ 0)) && (decide ((s : Int) ≤ 6))) && (decide ((n : Int) ≥ (-1000000000000000)))) && (decide ((n : Int) ≤ 1000000000000000))) && ((decide ((s : Int) = 0)) || (!decide ((Int.tmod n 10 : Int) = 0))))))] [(decide ((s : Int) = 0)) = false → ((((decide ((s : Int) ≥ 0)) && (decide ((s : Int) ≤ 6))) && (decide ((n : Int) ≥ (-1000000000000000)))) && (decide ((n : Int) ≤ 1000000000000000))) = true → 10 ≠ (0 : Int)] (by decide) (by kernel_rfl) hO4 (show (decide ((s : Int) = 0)) = false → ((((decide ((s : Int) ≥ 0)) && (decide ((s : Int) ≤ 6))) && (decide ((n : Int) ≥ (-1000000000000000)))) && (decide ((n : Int) ≤ 1000000000000000))) = true → 10 ≠ (0 : Int) from (by intros; first | omega | decide | (simp only [zq0] at *; omega))) ?_
 refine runI_end rfl ?_
 refine at_then ?_
 refine run_ret ?_
 refine at_ret (.bool (((((decide ((s : Int) ≥ 0)) && (decide ((s : Int) ≤ 6))) && (decide ((n : Int) ≥ (-1000000000000000)))) && (decide ((n : Int) ≤ 1000000000000000))) && ((decide ((s : Int) = 0)) || (!decide ((Int.tmod n 10 : Int) = 0))))) (by kernel_rfl) hO4 ?_
 exact ⟨ret_bool (by simp only [decB]; rw [Bool.eq_iff_iff]; simp; try omega), hB5'⟩
theorem isText_any (s : ByteArray) (w : World) (hs : s.size ≤ maxLen) :
  Calls Tryz.prog 38 #[.string s] w fun e w' => e = .returned (.bool (isTextB s)) ∧ w = w' := by
 unfold maxLen at hs
 refine enter (n := 23) Tryz.func38 rfl rfl rfl [(0, .v (.string s))] rfl ?_
 refine run_seq ?_
 refine run_region ?_
 refine seg 1 [(0, .v (.string s)), (2, .v (.bool false))] [] (by decide) (by kernel_rfl) ownOk_nil trivial ?_
 refine runI_end rfl ?_
 refine at_then ?_
 refine run_seq ?_
 refine run_seq ?_
 refine run_region ?_
 refine seg 3 [(0, .v (.string s)), (2, .v (.bool false)), (5, .v (.int .i64 (s.size : Int))), (6, .v (.int .i64 0))] [] (by decide) (by kernel_rfl) ownOk_nil trivial ?_
 refine runI_end rfl ?_
 refine at_then ?_
 refine run_block ?_
 refine run_loop (σ := Nat) (fun k => s.size - k) (fun k => [(0, .v (.string s)), (5, .v (.int .i64 (s.size : Int))), (6, .v (.int .i64 (k : Int)))]) (fun _ => [])
  (fun k wv => (w = wv) ∧ k ≤ s.size ∧ (bs s).all okByte = ((bs s).drop k).all okByte) (0) ?_ (by kernel_rfl) rfl ?_
 ·refine ⟨rfl, ?_⟩; exact ⟨Nat.zero_le _, rfl⟩
 rintro k wv ⟨rfl, ⟨hk, hall⟩⟩
 refine run_seq ?_
 refine run_region ?_
 refine seg 1 [(0, .v (.string s)), (5, .v (.int .i64 (s.size : Int))), (6, .v (.int .i64 (k : Int))), (7, .v (.bool (decide (((k : Int) : Int) < (s.size : Int)))))] [] (by decide) (by kernel_rfl) ownOk_nil trivial ?_
 refine runI_end rfl ?_
 refine at_then ?_
 refine run_seq ?_
 refine run_cond (decide (((k : Int) : Int) < (s.size : Int))) (by kernel_rfl) (fun hc2 => ?_) (fun hc2 => ?_)
 ·(try simp only [blS] at hc2)
  refine run_skip ?_
  refine at_then ?_
  refine run_seq ?_
  refine run_block ?_
  refine run_seq ?_
  refine run_region ?_
  refine seg 2 [(0, .v (.string s)), (3, .v (.int .i64 (k : Int))), (5, .v (.int .i64 (s.size : Int))), (6, .v (.int .i64 (k : Int)))] [] (by decide) (by kernel_rfl) ownOk_nil trivial ?_
  refine runI_end rfl ?_
  refine at_then ?_
  refine run_seq ?_
  refine run_region ?_
  refine seg 10 [(0, .v (.string s)), (5, .v (.int .i64 (s.size : Int))), (6, .v (.int .i64 (k : Int))), (18, .v (.bool ((decide ((byteAt s (k : Int) : Int) < 32)) || (decide ((byteAt s (k : Int) : Int) > 126)))))] [(0 : Int) ≤ (k : Int) ∧ (k : Int) < (s.size : Int), (decide ((byteAt s (k : Int) : Int) < 32)) = false → (0 : Int) ≤ (k : Int) ∧ (k : Int) < (s.size : Int)] (by decide) (by kernel_rfl) ownOk_nil (show ((0 : Int) ≤ (k : Int) ∧ (k : Int) < (s.size : Int)) ∧ ((decide ((byteAt s (k : Int) : Int) < 32)) = false → (0 : Int) ≤ (k : Int) ∧ (k : Int) < (s.size : Int)) from ⟨(by intros; first | omega | decide | (simp only [zq0] at *; omega)), (by intros; first | omega | decide | (simp only [zq0] at *; omega))⟩) ?_
  refine runI_end rfl ?_
  refine at_then ?_
  refine run_cond ((decide ((byteAt s (k : Int) : Int) < 32)) || (decide ((byteAt s (k : Int) : Int) > 126))) (by kernel_rfl) (fun hc3 => ?_) (fun hc3 => ?_)
  ·(try simp only [blS] at hc3)
   refine run_seq ?_
   refine run_region ?_
   refine seg 1 [(0, .v (.string s)), (2, .v (.bool false)), (5, .v (.int .i64 (s.size : Int))), (6, .v (.int .i64 (k : Int)))] [] (by decide) (by kernel_rfl) ownOk_nil trivial ?_
   refine runI_end rfl ?_
   refine at_then ?_
   refine run_ret ?_
   refine at_block_ret ?_
   refine at_then_ret ?_
   refine at_then_ret ?_
   refine at_block_ret ?_
   refine at_then_ret ?_
   refine at_ret (.bool false) (by kernel_rfl) ownOk_nil ?_
   exact ⟨ret_bool (by rw [isTextB, hall, bs_drop s k (by omega)]; simp only [byteAt_nat] at hc3; simp [okByte]; omega), rfl⟩
  ·(try simp only [blS] at hc3)
   refine run_skip ?_
   refine at_block ?_
   refine at_then ?_
   refine run_region ?_
   refine seg 2 [(0, .v (.string s)), (5, .v (.int .i64 (s.size : Int))), (6, .v (.int .i64 ((k : Int) + 1)))] [inR ((k : Int) + 1)] (by decide) (by kernel_rfl) ownOk_nil (show inR ((k : Int) + 1) from (by intros; first | omega | decide | (simp only [zq0] at *; omega))) ?_
   refine runI_end rfl ?_
   refine at_round (k + 1) ?_ ?_ (by kernel_rfl) rfl
   ·exact (by omega)
   ·exact ⟨rfl, by omega, by rw [hall, bs_drop s k (by omega)]; simp only [byteAt_nat] at hc3; simp [okByte]; omega⟩
 ·(try simp only [blS] at hc2)
  refine run_exit ?_
  refine at_then_exit ?_
  refine at_then_exit ?_
  refine at_block_exit ?_
  refine at_then ?_
  refine run_seq ?_
  refine run_region ?_
  refine seg 4 [(2, .v (.bool (decide (((s.size : Int) : Int) ≤ 200))))] [] (by decide) (by kernel_rfl) ownOk_nil trivial ?_
  refine runI_end rfl ?_
  refine at_then ?_
  refine run_ret ?_
  refine at_ret (.bool (decide (((s.size : Int) : Int) ≤ 200))) (by kernel_rfl) ownOk_nil ?_
  exact ⟨ret_bool (by rw [isTextB, hall, bs_nil s k (by omega)]; simp), rfl⟩
theorem plain_any (s : ByteArray) (w : World) (hs : s.size ≤ maxLen) :
  Calls Tryz.prog 41 #[.string s] w fun e w' => e = .returned (.bool (isTextB s)) ∧ w = w' := by
 unfold maxLen at hs
 refine enter (n := 23) Tryz.func41 rfl rfl rfl [(0, .v (.string s))] rfl ?_
 refine run_seq ?_
 refine run_region ?_
 refine seg 1 [(0, .v (.string s)), (2, .v (.bool false))] [] (by decide) (by kernel_rfl) ownOk_nil trivial ?_
 refine runI_end rfl ?_
 refine at_then ?_
 refine run_seq ?_
 refine run_seq ?_
 refine run_region ?_
 refine seg 1 [(0, .v (.string s)), (2, .v (.bool false)), (3, .v (.int .i64 0))] [] (by decide) (by kernel_rfl) ownOk_nil trivial ?_
 refine runI_end rfl ?_
 refine at_then ?_
 refine run_block ?_
 refine run_loop (σ := Nat) (fun k => s.size - k) (fun k => [(0, .v (.string s)), (3, .v (.int .i64 (k : Int)))]) (fun _ => [])
  (fun k wv => (w = wv) ∧ k ≤ s.size ∧ (bs s).all okByte = ((bs s).drop k).all okByte) (0) ?_ (by kernel_rfl) rfl ?_
 ·refine ⟨rfl, ?_⟩; exact ⟨Nat.zero_le _, rfl⟩
 rintro k wv ⟨rfl, ⟨hk, hall⟩⟩
 refine run_seq ?_
 refine run_seq ?_
 refine run_region ?_
 refine seg 4 [(0, .v (.string s)), (3, .v (.int .i64 (k : Int))), (7, .v (.bool (decide (((k : Int) : Int) < (s.size : Int)))))] [] (by decide) (by kernel_rfl) ownOk_nil trivial ?_
 refine runI_end rfl ?_
 refine at_then ?_
 refine run_cond (decide (((k : Int) : Int) < (s.size : Int))) (by kernel_rfl) (fun hc2 => ?_) (fun hc2 => ?_)
 ·(try simp only [blS] at hc2)
  refine run_skip ?_
  refine at_then ?_
  refine run_seq ?_
  refine run_block ?_
  refine run_seq ?_
  refine run_region ?_
  refine seg 10 [(0, .v (.string s)), (3, .v (.int .i64 (k : Int))), (19, .v (.bool ((decide ((byteAt s (k : Int) : Int) < 32)) || (decide ((byteAt s (k : Int) : Int) > 126)))))] [(0 : Int) ≤ (k : Int) ∧ (k : Int) < (s.size : Int), (decide ((byteAt s (k : Int) : Int) < 32)) = false → (0 : Int) ≤ (k : Int) ∧ (k : Int) < (s.size : Int)] (by decide) (by kernel_rfl) ownOk_nil (show ((0 : Int) ≤ (k : Int) ∧ (k : Int) < (s.size : Int)) ∧ ((decide ((byteAt s (k : Int) : Int) < 32)) = false → (0 : Int) ≤ (k : Int) ∧ (k : Int) < (s.size : Int)) from ⟨(by intros; first | omega | decide | (simp only [zq0] at *; omega)), (by intros; first | omega | decide | (simp only [zq0] at *; omega))⟩) ?_
  refine runI_end rfl ?_
  refine at_then ?_
  refine run_cond ((decide ((byteAt s (k : Int) : Int) < 32)) || (decide ((byteAt s (k : Int) : Int) > 126))) (by kernel_rfl) (fun hc3 => ?_) (fun hc3 => ?_)
  ·(try simp only [blS] at hc3)
   refine run_seq ?_
   refine run_region ?_
   refine seg 1 [(0, .v (.string s)), (2, .v (.bool false)), (3, .v (.int .i64 (k : Int)))] [] (by decide) (by kernel_rfl) ownOk_nil trivial ?_
   refine runI_end rfl ?_
   refine at_then ?_
   refine run_ret ?_
   refine at_block_ret ?_
   refine at_then_ret ?_
   refine at_then_ret ?_
   refine at_block_ret ?_
   refine at_then_ret ?_
   refine at_ret (.bool false) (by kernel_rfl) ownOk_nil ?_
   exact ⟨ret_bool (by rw [isTextB, hall, bs_drop s k (by omega)]; simp only [byteAt_nat] at hc3; simp [okByte]; omega), rfl⟩
  ·(try simp only [blS] at hc3)
   refine run_skip ?_
   refine at_block ?_
   refine at_then ?_
   refine run_region ?_
   refine seg 3 [(0, .v (.string s)), (3, .v (.int .i64 ((k : Int) + 1)))] [inR ((k : Int) + 1)] (by decide) (by kernel_rfl) ownOk_nil (show inR ((k : Int) + 1) from (by intros; first | omega | decide | (simp only [zq0] at *; omega))) ?_
   refine runI_end rfl ?_
   refine at_round (k + 1) ?_ ?_ (by kernel_rfl) rfl
   ·exact (by omega)
   ·exact ⟨rfl, by omega, by rw [hall, bs_drop s k (by omega)]; simp only [byteAt_nat] at hc3; simp [okByte]; omega⟩
 ·(try simp only [blS] at hc2)
  refine run_exit ?_
  refine at_then_exit ?_
  refine at_then_exit ?_
  refine at_block_exit ?_
  refine at_then ?_
  refine run_seq ?_
  refine run_region ?_
  refine seg 4 [(2, .v (.bool (decide (((s.size : Int) : Int) ≤ 200))))] [] (by decide) (by kernel_rfl) ownOk_nil trivial ?_
  refine runI_end rfl ?_
  refine at_then ?_
  refine run_ret ?_
  refine at_ret (.bool (decide (((s.size : Int) : Int) ≤ 200))) (by kernel_rfl) ownOk_nil ?_
  exact ⟨ret_bool (by rw [isTextB, hall, bs_nil s k (by omega)]; simp), rfl⟩
theorem isName_any (s : ByteArray) (w : World) :
  Calls Tryz.prog 74 #[.string s] w fun e w' => e = .returned (.bool (isNameB s)) ∧ w = w' := by
 refine enter (n := 46) Tryz.func74 rfl rfl rfl [(0, .v (.string s))] rfl ?_
 refine run_seq ?_
 refine run_region ?_
 refine seg 1 [(0, .v (.string s)), (2, .v (.bool false))] [] (by decide) (by kernel_rfl) ownOk_nil trivial ?_
 refine runI_end rfl ?_
 refine at_then ?_
 refine run_seq ?_
 refine run_seq ?_
 refine run_region ?_
 refine segK 10 [⟨0, [], .v (.string s)⟩, ⟨2, [], .v (.bool false)⟩, ⟨11, [], .v (.bool ((s.toList == (ByteArray.mk #[]).toList) || (decide (((s.size : Int) : Int) > 20))))⟩, ⟨13, [(11, false)], .v (.int .u8 (byteAt s 0))⟩] [((s.toList == (ByteArray.mk #[]).toList) || (decide (((s.size : Int) : Int) > 20))) = false → (0 : Int) ≤ 0 ∧ 0 < (s.size : Int)] (by decide) (by kernel_rfl) ownOk_nil (show ((s.toList == (ByteArray.mk #[]).toList) || (decide (((s.size : Int) : Int) > 20))) = false → (0 : Int) ≤ 0 ∧ 0 < (s.size : Int) from (by intros; first | omega | decide | (simp only [zq0, str_beq, empty_iff] at *; omega))) ?_
 refine callV (dst := (some 14)) (p := [(11, false)]) (f := 114) (args := #[.int .u8 (byteAt s 0)]) (.bool (isLetter (byteAt s 0))) (fun wv => w = wv) (by kernel_rfl) (by
  intro hg2
  (try simp only [blS] at hg2)
  exact letter_any _ _) (fun _ => rfl) ?_
 rintro _ rfl
 refine seg 13 [(0, .v (.string s)), (2, .v (.bool false)), (16, .v (.bool (((s.toList == (ByteArray.mk #[]).toList) || (decide (((s.size : Int) : Int) > 20))) || (!(isLetter (byteAt s 0))))))] [] (by decide) (by kernel_rfl) ownOk_nil trivial ?_
 refine runI_end rfl ?_
 refine at_then ?_
 refine run_cond (((s.toList == (ByteArray.mk #[]).toList) || (decide (((s.size : Int) : Int) > 20))) || (!(isLetter (byteAt s 0)))) (by kernel_rfl) (fun hc3 => ?_) (fun hc3 => ?_)
 ·(try simp only [blS, str_beq, empty_iff] at hc3)
  refine run_seq ?_
  refine run_region ?_
  refine seg 1 [(0, .v (.string s)), (2, .v (.bool false))] [] (by decide) (by kernel_rfl) ownOk_nil trivial ?_
  refine runI_end rfl ?_
  refine at_then ?_
  refine run_ret ?_
  refine at_then_ret ?_
  refine at_ret (.bool false) (by kernel_rfl) ownOk_nil ?_
  exact ⟨ret_bool (nameB_head hc3).symm, rfl⟩
 ·(try simp only [blS, str_beq, empty_iff] at hc3)
  refine run_skip ?_
  refine at_then ?_
  refine run_seq ?_
  refine run_seq ?_
  refine run_region ?_
  refine seg 3 [(0, .v (.string s)), (2, .v (.bool false)), (18, .v (.int .i64 (s.size : Int))), (19, .v (.int .i64 0))] [] (by decide) (by kernel_rfl) ownOk_nil trivial ?_
  refine runI_end rfl ?_
  refine at_then ?_
  refine run_block ?_
  refine run_loop (σ := Nat) (fun k => s.size - k) (fun k => [(0, .v (.string s)), (18, .v (.int .i64 (s.size : Int))), (19, .v (.int .i64 (k : Int)))]) (fun _ => [])
   (fun k wv => (w = wv) ∧ k ≤ s.size ∧ (bs s).all tailByte = ((bs s).drop k).all tailByte) (0) ?_ (by kernel_rfl) rfl ?_
  ·refine ⟨rfl, ?_⟩; exact ⟨Nat.zero_le _, rfl⟩
  rintro k wv ⟨rfl, ⟨hk, hall⟩⟩
  refine run_seq ?_
  refine run_region ?_
  refine seg 1 [(0, .v (.string s)), (18, .v (.int .i64 (s.size : Int))), (19, .v (.int .i64 (k : Int))), (20, .v (.bool (decide (((k : Int) : Int) < (s.size : Int)))))] [] (by decide) (by kernel_rfl) ownOk_nil trivial ?_
  refine runI_end rfl ?_
  refine at_then ?_
  refine run_seq ?_
  refine run_cond (decide (((k : Int) : Int) < (s.size : Int))) (by kernel_rfl) (fun hc5 => ?_) (fun hc5 => ?_)
  ·(try simp only [blS, str_beq, empty_iff] at hc5)
   refine run_skip ?_
   refine at_then ?_
   refine run_seq ?_
   refine run_block ?_
   refine run_seq ?_
   refine run_region ?_
   refine seg 2 [(0, .v (.string s)), (3, .v (.int .i64 (k : Int))), (18, .v (.int .i64 (s.size : Int))), (19, .v (.int .i64 (k : Int)))] [] (by decide) (by kernel_rfl) ownOk_nil trivial ?_
   refine runI_end rfl ?_
   refine at_then ?_
   refine run_seq ?_
   refine run_region ?_
   refine seg 3 [(0, .v (.string s)), (3, .v (.int .i64 (k : Int))), (18, .v (.int .i64 (s.size : Int))), (19, .v (.int .i64 (k : Int))), (24, .v (.int .u8 (byteAt s (k : Int))))] [(0 : Int) ≤ (k : Int) ∧ (k : Int) < (s.size : Int)] (by decide) (by kernel_rfl) ownOk_nil (show (0 : Int) ≤ (k : Int) ∧ (k : Int) < (s.size : Int) from (by intros; first | omega | decide | (simp only [zq0, str_beq, empty_iff] at *; omega))) ?_
   refine callV (dst := (some 25)) (p := []) (f := 114) (args := #[.int .u8 (byteAt s (k : Int))]) (.bool (isLetter (byteAt s (k : Int)))) (fun wv => w = wv) (by kernel_rfl) (letter_any _ _) (fun _ => rfl) ?_
   rintro _ rfl
   refine seg 23 [(0, .v (.string s)), (18, .v (.int .i64 (s.size : Int))), (19, .v (.int .i64 (k : Int))), (44, .v (.bool (((!(isLetter (byteAt s (k : Int)))) && (!decide ((byteAt s (k : Int) : Int) = 95))) && ((decide ((byteAt s (k : Int) : Int) < 48)) || (decide ((byteAt s (k : Int) : Int) > 57))))))] [(!(isLetter (byteAt s (k : Int)))) = true → (0 : Int) ≤ (k : Int) ∧ (k : Int) < (s.size : Int), ((!(isLetter (byteAt s (k : Int)))) && (!decide ((byteAt s (k : Int) : Int) = 95))) = true → (0 : Int) ≤ (k : Int) ∧ (k : Int) < (s.size : Int), (decide ((byteAt s (k : Int) : Int) < 48)) = false → ((!(isLetter (byteAt s (k : Int)))) && (!decide ((byteAt s (k : Int) : Int) = 95))) = true → (0 : Int) ≤ (k : Int) ∧ (k : Int) < (s.size : Int)] (by decide) (by kernel_rfl) ownOk_nil (show ((!(isLetter (byteAt s (k : Int)))) = true → (0 : Int) ≤ (k : Int) ∧ (k : Int) < (s.size : Int)) ∧ (((!(isLetter (byteAt s (k : Int)))) && (!decide ((byteAt s (k : Int) : Int) = 95))) = true → (0 : Int) ≤ (k : Int) ∧ (k : Int) < (s.size : Int)) ∧ ((decide ((byteAt s (k : Int) : Int) < 48)) = false → ((!(isLetter (byteAt s (k : Int)))) && (!decide ((byteAt s (k : Int) : Int) = 95))) = true → (0 : Int) ≤ (k : Int) ∧ (k : Int) < (s.size : Int)) from ⟨(by intros; first | omega | decide | (simp only [zq0, str_beq, empty_iff] at *; omega)), (by intros; first | omega | decide | (simp only [zq0, str_beq, empty_iff] at *; omega)), (by intros; first | omega | decide | (simp only [zq0, str_beq, empty_iff] at *; omega))⟩) ?_
   refine runI_end rfl ?_
   refine at_then ?_
   refine run_cond (((!(isLetter (byteAt s (k : Int)))) && (!decide ((byteAt s (k : Int) : Int) = 95))) && ((decide ((byteAt s (k : Int) : Int) < 48)) || (decide ((byteAt s (k : Int) : Int) > 57)))) (by kernel_rfl) (fun hc6 => ?_) (fun hc6 => ?_)
   ·(try simp only [blS, str_beq, empty_iff] at hc6)
    refine run_seq ?_
    refine run_region ?_
    refine seg 1 [(0, .v (.string s)), (2, .v (.bool false)), (18, .v (.int .i64 (s.size : Int))), (19, .v (.int .i64 (k : Int)))] [] (by decide) (by kernel_rfl) ownOk_nil trivial ?_
    refine runI_end rfl ?_
    refine at_then ?_
    refine run_ret ?_
    refine at_block_ret ?_
    refine at_then_ret ?_
    refine at_then_ret ?_
    refine at_block_ret ?_
    refine at_then_ret ?_
    refine at_ret (.bool false) (by kernel_rfl) ownOk_nil ?_
    refine ⟨ret_bool (nameB_not ?_).symm, rfl⟩
    rw [hall, bs_drop s k (by omega)]
    simp only [byteAt_nat] at hc6
    rw [List.all_cons, tailByte, tail_not hc6, Bool.false_and]
   ·(try simp only [blS, str_beq, empty_iff] at hc6)
    refine run_skip ?_
    refine at_block ?_
    refine at_then ?_
    refine run_region ?_
    refine seg 2 [(0, .v (.string s)), (18, .v (.int .i64 (s.size : Int))), (19, .v (.int .i64 ((k : Int) + 1)))] [inR ((k : Int) + 1)] (by decide) (by kernel_rfl) ownOk_nil (show inR ((k : Int) + 1) from (by intros; first | omega | decide | (simp only [zq0, str_beq, empty_iff] at *; omega))) ?_
    refine runI_end rfl ?_
    refine at_round (k + 1) ?_ ?_ (by kernel_rfl) rfl
    ·exact (by omega)
    ·refine ⟨rfl, by omega, ?_⟩
     rw [hall, bs_drop s k (by omega)]
     simp only [byteAt_nat] at hc6
     rw [List.all_cons, tailByte, tail_of hc6, Bool.true_and]
  ·(try simp only [blS, str_beq, empty_iff] at hc5)
   refine run_exit ?_
   refine at_then_exit ?_
   refine at_then_exit ?_
   refine at_block_exit ?_
   refine at_then ?_
   refine run_seq ?_
   refine run_region ?_
   refine seg 1 [(2, .v (.bool true))] [] (by decide) (by kernel_rfl) ownOk_nil trivial ?_
   refine runI_end rfl ?_
   refine at_then ?_
   refine run_ret ?_
   refine at_ret (.bool true) (by kernel_rfl) ownOk_nil ?_
   exact ⟨ret_bool (nameB_yes hc3 (by rw [hall, bs_nil s k (by omega)]; rfl)).symm, rfl⟩
theorem refName_any (s : ByteArray) (w : World) (hs : s.size ≤ maxLen) :
  Calls Tryz.prog 116 #[.string s] w fun e w' => e = .returned (.bool (isNameB s)) ∧ w = w' := by
 unfold maxLen at hs
 refine enter (n := 55) Tryz.func116 rfl rfl rfl [(0, .v (.string s))] rfl ?_
 refine run_seq ?_
 refine run_region ?_
 refine seg 1 [(0, .v (.string s)), (2, .v (.bool false))] [] (by decide) (by kernel_rfl) ownOk_nil trivial ?_
 refine runI_end rfl ?_
 refine at_then ?_
 refine run_seq ?_
 refine run_seq ?_
 refine run_region ?_
 refine seg 1 [(0, .v (.string s)), (2, .v (.bool false)), (3, .v (.int .i64 0))] [] (by decide) (by kernel_rfl) ownOk_nil trivial ?_
 refine runI_end rfl ?_
 refine at_then ?_
 refine run_block ?_
 refine run_loop (σ := Nat) (fun k => s.size - k) (fun k => [(0, .v (.string s)), (3, .v (.int .i64 (k : Int)))]) (fun _ => [])
  (fun k wv => (w = wv) ∧ k ≤ s.size ∧ (bs s).all tailByte = ((bs s).drop k).all tailByte ∧ (1 ≤ k → isLetter (bAt s 0).toNat = true)) (0) ?_ (by kernel_rfl) rfl ?_
 ·refine ⟨rfl, ?_⟩; exact ⟨Nat.zero_le _, rfl, fun h => by omega⟩
 rintro k wv ⟨rfl, ⟨hk, hall, hl0⟩⟩
 refine run_seq ?_
 refine run_seq ?_
 refine run_region ?_
 refine seg 4 [(0, .v (.string s)), (3, .v (.int .i64 (k : Int))), (9, .v (.bool (decide (((k : Int) : Int) < (s.size : Int)))))] [] (by decide) (by kernel_rfl) ownOk_nil trivial ?_
 refine runI_end rfl ?_
 refine at_then ?_
 refine run_cond (decide (((k : Int) : Int) < (s.size : Int))) (by kernel_rfl) (fun hc2 => ?_) (fun hc2 => ?_)
 ·(try simp only [blS] at hc2)
  refine run_skip ?_
  refine at_then ?_
  refine run_seq ?_
  refine run_block ?_
  refine run_seq ?_
  refine run_region ?_
  refine seg 4 [(0, .v (.string s)), (3, .v (.int .i64 (k : Int))), (4, .v (.int .u8 (byteAt s (k : Int))))] [(0 : Int) ≤ (k : Int) ∧ (k : Int) < (s.size : Int)] (by decide) (by kernel_rfl) ownOk_nil (show (0 : Int) ≤ (k : Int) ∧ (k : Int) < (s.size : Int) from (by intros; first | omega | decide | (simp only [zq0] at *; omega))) ?_
  refine runI_end rfl ?_
  refine at_then ?_
  refine run_seq ?_
  refine run_region ?_
  refine seg 15 [(0, .v (.string s)), (3, .v (.int .i64 (k : Int))), (4, .v (.int .u8 (byteAt s (k : Int)))), (5, .v (.bool (((decide ((byteAt s (k : Int) : Int) ≥ 97)) && (decide ((byteAt s (k : Int) : Int) ≤ 122))) || ((decide ((byteAt s (k : Int) : Int) ≥ 65)) && (decide ((byteAt s (k : Int) : Int) ≤ 90))))))] [] (by decide) (by kernel_rfl) ownOk_nil trivial ?_
  refine runI_end rfl ?_
  refine at_then ?_
  refine run_seq ?_
  refine run_region ?_
  refine seg 18 [(0, .v (.string s)), (3, .v (.int .i64 (k : Int))), (46, .v (.bool ((!(((decide ((byteAt s (k : Int) : Int) ≥ 97)) && (decide ((byteAt s (k : Int) : Int) ≤ 122))) || ((decide ((byteAt s (k : Int) : Int) ≥ 65)) && (decide ((byteAt s (k : Int) : Int) ≤ 90))))) && ((decide (((k : Int) : Int) = 0)) || ((!decide ((byteAt s (k : Int) : Int) = 95)) && ((decide ((byteAt s (k : Int) : Int) < 48)) || (decide ((byteAt s (k : Int) : Int) > 57))))))))] [] (by decide) (by kernel_rfl) ownOk_nil trivial ?_
  refine runI_end rfl ?_
  refine at_then ?_
  refine run_cond ((!(((decide ((byteAt s (k : Int) : Int) ≥ 97)) && (decide ((byteAt s (k : Int) : Int) ≤ 122))) || ((decide ((byteAt s (k : Int) : Int) ≥ 65)) && (decide ((byteAt s (k : Int) : Int) ≤ 90))))) && ((decide (((k : Int) : Int) = 0)) || ((!decide ((byteAt s (k : Int) : Int) = 95)) && ((decide ((byteAt s (k : Int) : Int) < 48)) || (decide ((byteAt s (k : Int) : Int) > 57)))))) (by kernel_rfl) (fun hc3 => ?_) (fun hc3 => ?_)
  ·(try simp only [blS] at hc3)
   refine run_seq ?_
   refine run_region ?_
   refine seg 1 [(0, .v (.string s)), (2, .v (.bool false)), (3, .v (.int .i64 (k : Int)))] [] (by decide) (by kernel_rfl) ownOk_nil trivial ?_
   refine runI_end rfl ?_
   refine at_then ?_
   refine run_ret ?_
   refine at_block_ret ?_
   refine at_then_ret ?_
   refine at_then_ret ?_
   refine at_block_ret ?_
   refine at_then_ret ?_
   refine at_ret (.bool false) (by kernel_rfl) ownOk_nil ?_
   simp only [byteAt_nat] at hc3
   refine ⟨ret_bool (rn_bad (by omega) hall (bs_drop s k (by omega))).symm, rfl⟩
  ·(try simp only [blS] at hc3)
   refine run_skip ?_
   refine at_block ?_
   refine at_then ?_
   refine run_region ?_
   refine seg 3 [(0, .v (.string s)), (3, .v (.int .i64 ((k : Int) + 1)))] [inR ((k : Int) + 1)] (by decide) (by kernel_rfl) ownOk_nil (show inR ((k : Int) + 1) from (by intros; first | omega | decide | (simp only [zq0] at *; omega))) ?_
   refine runI_end rfl ?_
   refine at_round (k + 1) ?_ ?_ (by kernel_rfl) rfl
   ·exact (by omega)
   ·simp only [byteAt_nat] at hc3
    exact ⟨rfl, by omega, by rw [hall, bs_drop s k (by omega), List.all_cons, rn_tail hc3, Bool.true_and], fun _ => rn_head hc3 hl0⟩
 ·(try simp only [blS] at hc2)
  refine run_exit ?_
  refine at_then_exit ?_
  refine at_then_exit ?_
  refine at_block_exit ?_
  refine at_then ?_
  refine run_seq ?_
  refine run_region ?_
  refine seg 9 [(2, .v (.bool ((decide (((s.size : Int) : Int) ≥ 1)) && (decide (((s.size : Int) : Int) ≤ 20)))))] [] (by decide) (by kernel_rfl) ownOk_nil trivial ?_
  refine runI_end rfl ?_
  refine at_then ?_
  refine run_ret ?_
  refine at_ret (.bool ((decide (((s.size : Int) : Int) ≥ 1)) && (decide (((s.size : Int) : Int) ≤ 20)))) (by kernel_rfl) ownOk_nil ?_
  exact ⟨ret_bool (rn_end hall (bs_nil s k (by omega)) (by omega) hl0), rfl⟩
end Go.Proofs.YtmpgfchkkemngaaGreatDoor
namespace Go.Proofs.YtmpgfchkkemngaaGreatDoor
def lpI (y : Int) : Int := if leapB y then 1 else 0
def dimI (y m : Int) : Int := if m = 2 then 28 + lpI y else if m = 4 ∨ m = 6 ∨ m = 9 ∨ m = 11 then 30 else 31
def dby (y : Int) : Int := 365 * (y - 1) + (y - 1) / 4 - (y - 1) / 100 + (y - 1) / 400
def cumN (y : Int) : Nat → Int
 | 0 => 0
 | k + 1 => cumN y k + dimI y (k + 1)
def cum (y m : Int) : Int := cumN y (m - 1).toNat
def numI (y m d : Int) : Int := dby y + d - 1 + cum y m
def vld (y m d : Int) : Prop := 1 ≤ y ∧ y ≤ 9999 ∧ 1 ≤ m ∧ m ≤ 12 ∧ 1 ≤ d ∧ d ≤ dimI y m
theorem lpI_01 (y : Int) : lpI y = 0 ∨ lpI y = 1 := by unfold lpI; split <;> simp
theorem dby_succ (y : Int) (h : 1 ≤ y) : dby (y + 1) = dby y + 365 + lpI y := by
 have h2 : lpI y = if (y % 4 = 0 ∧ (y % 100 ≠ 0 ∨ y % 400 = 0)) then 1 else 0 := by
  unfold lpI leapB; simp
 rw [h2]
 unfold dby
 split <;> omega
theorem dby_mono (a b : Int) (h0 : 1 ≤ a) (h : a ≤ b) : dby a ≤ dby b := by unfold dby; omega
theorem dby_1 : dby 1 = 0 := by decide
theorem dby_max : dby 10000 = 3652059 := by decide
theorem dby_bd (y : Int) (h0 : 1 ≤ y) (h : y ≤ 10000) : 0 ≤ dby y ∧ dby y ≤ 3652059 := by
 have h1 := dby_mono 1 y (by omega) h0
 have h2 := dby_mono y 10000 h0 h
 rw [dby_1] at h1; rw [dby_max] at h2; exact ⟨h1, h2⟩
theorem dimI_lo (y m : Int) : 28 ≤ dimI y m ∧ dimI y m ≤ 31 := by
 have := lpI_01 y
 unfold dimI; split
 ·omega
 ·split <;> omega
theorem cum_1 (y : Int) : cum y 1 = 0 := rfl
theorem cum_succ (y m : Int) (h : 1 ≤ m) : cum y (m + 1) = cum y m + dimI y m := by
 unfold cum
 obtain ⟨k, hk⟩ : ∃ k : Nat, m = (k : Int) + 1 := ⟨(m - 1).toNat, by omega⟩
 subst hk
 have e1 : ((k : Int) + 1 + 1 - 1).toNat = k + 1 := by omega
 have e2 : ((k : Int) + 1 - 1).toNat = k := by omega
 rw [e1, e2]; rfl
theorem cum_13 (y : Int) : cum y 13 = 365 + lpI y := by
 have : cum y 13 = cumN y 12 := rfl
 rw [this]
 simp [cumN, dimI]; omega
theorem cum_mono (y : Int) : ∀ (a b : Int), 1 ≤ a → a ≤ b → cum y a ≤ cum y b := by
 intro a b ha hab
 obtain ⟨k, hk⟩ : ∃ k : Nat, b = a + k := ⟨(b - a).toNat, by omega⟩
 subst hk
 clear hab
 induction k with
 | zero => simp
 | succ k ih =>
  have := cum_succ y (a + k) (by omega)
  have h2 := dimI_lo y (a + k)
  have e : a + ((k + 1 : Nat) : Int) = a + k + 1 := by omega
  rw [e]; omega
theorem cum_bd (y m : Int) (h1 : 1 ≤ m) (h2 : m ≤ 13) : 0 ≤ cum y m ∧ cum y m ≤ 366 := by
 have a := cum_mono y 1 m (by omega) h1
 have b := cum_mono y m 13 h1 h2
 rw [cum_1] at a; rw [cum_13] at b
 have := lpI_01 y; omega
theorem num_year {y m d : Int} (h : vld y m d) : dby y ≤ numI y m d ∧ numI y m d < dby (y + 1) := by
 obtain ⟨h1, h2, h3, h4, h5, h6⟩ := h
 have a := cum_bd y m h3 (by omega)
 have b := cum_mono y (m + 1) 13 (by omega) (by omega)
 have c := cum_succ y m h3
 rw [cum_13] at b
 rw [dby_succ y h1]
 unfold numI; omega
theorem num_inj {y m d y' m' d' : Int} (h : vld y m d) (h' : vld y' m' d') (e : numI y m d = numI y' m' d') : y = y' ∧ m = m' ∧ d = d' := by
 have a := num_year h
 have b := num_year h'
 have hy : y = y' := by
  rcases Int.lt_trichotomy y y' with hlt | heq | hgt
  ·have := dby_mono (y + 1) y' (by have := h.1; omega) (by omega); omega
  ·exact heq
  ·have := dby_mono (y' + 1) y (by have := h'.1; omega) (by omega); omega
 subst hy
 obtain ⟨h1, h2, h3, h4, h5, h6⟩ := h
 obtain ⟨g1, g2, g3, g4, g5, g6⟩ := h'
 have hm : m = m' := by
  unfold numI at e
  rcases Int.lt_trichotomy m m' with hlt | heq | hgt
  ·have := cum_mono y (m + 1) m' (by omega) (by omega); have := cum_succ y m h3; omega
  ·exact heq
  ·have := cum_mono y (m' + 1) m (by omega) (by omega); have := cum_succ y m' g3; omega
 subst hm
 refine ⟨rfl, rfl, ?_⟩
 unfold numI at e; omega
theorem year_ex (n : Int) (h0 : 0 ≤ n) : ∀ k : Nat, n < dby (1 + k) → ∃ y : Int, 1 ≤ y ∧ y < 1 + k ∧ dby y ≤ n ∧ n < dby (y + 1)
 | 0, h => by rw [show (1 : Int) + ((0 : Nat) : Int) = 1 from rfl, dby_1] at h; omega
 | k + 1, h => by
  by_cases hk : n < dby (1 + k)
  ·obtain ⟨y, h1, h2, h3, h4⟩ := year_ex n h0 k hk
   exact ⟨y, h1, by omega, h3, h4⟩
  ·refine ⟨1 + k, by omega, by omega, by omega, ?_⟩
   rw [show (1 : Int) + k + 1 = 1 + ((k + 1 : Nat) : Int) by omega]
   exact h
theorem month_ex (y r : Int) (h0 : 0 ≤ r) : ∀ k : Nat, r < cum y (1 + k) → ∃ m : Int, 1 ≤ m ∧ m < 1 + k ∧ cum y m ≤ r ∧ r < cum y (m + 1)
 | 0, h => by rw [show (1 : Int) + ((0 : Nat) : Int) = 1 from rfl, cum_1] at h; omega
 | k + 1, h => by
  by_cases hk : r < cum y (1 + k)
  ·obtain ⟨m, h1, h2, h3, h4⟩ := month_ex y r h0 k hk
   exact ⟨m, h1, by omega, h3, h4⟩
  ·refine ⟨1 + k, by omega, by omega, by omega, ?_⟩
   rw [show (1 : Int) + k + 1 = 1 + ((k + 1 : Nat) : Int) by omega]
   exact h
theorem date_ex (n : Int) (h0 : 0 ≤ n) (h1 : n ≤ 3652058) : ∃ y m d : Int, vld y m d ∧ numI y m d = n := by
 obtain ⟨y, a1, a2, a3, a4⟩ := year_ex n h0 9999 (by rw [show (1 : Int) + ((9999 : Nat) : Int) = 10000 from rfl, dby_max]; omega)
 obtain ⟨m, b1, b2, b3, b4⟩ := month_ex y (n - dby y) (by omega) 12 (by rw [show (1 : Int) + ((12 : Nat) : Int) = 13 from rfl, cum_13]; have := dby_succ y a1; omega)
 refine ⟨y, m, n - dby y - cum y m + 1, ⟨a1, by omega, b1, by omega, by omega, ?_⟩, by unfold numI; omega⟩
 have := cum_succ y m b1
 omega
open Classical in
noncomputable def civ (n : Int) : Int × Int × Int := if h : ∃ t : Int × Int × Int, vld t.1 t.2.1 t.2.2 ∧ numI t.1 t.2.1 t.2.2 = n then Classical.choose h else (0, 0, 0)
theorem civ_eq {y m d n : Int} (h : vld y m d) (hn : numI y m d = n) : civ n = (y, m, d) := by
 unfold civ
 have hex : ∃ t : Int × Int × Int, vld t.1 t.2.1 t.2.2 ∧ numI t.1 t.2.1 t.2.2 = n := ⟨(y, m, d), h, hn⟩
 rw [dif_pos hex]
 obtain ⟨h1, h2⟩ := Classical.choose_spec hex
 obtain ⟨e1, e2, e3⟩ := num_inj h1 h (h2.trans hn.symm)
 exact Prod.ext e1 (Prod.ext e2 e3)
theorem civ_spec {n : Int} (h0 : 0 ≤ n) (h1 : n ≤ 3652058) : vld (civ n).1 (civ n).2.1 (civ n).2.2 ∧ numI (civ n).1 (civ n).2.1 (civ n).2.2 = n := by
 obtain ⟨y, m, d, h, e⟩ := date_ex n h0 h1
 rw [civ_eq h e]
 exact ⟨h, e⟩
theorem civ_bd {n : Int} (h0 : 0 ≤ n) (h1 : n ≤ 3652058) : 1 ≤ (civ n).1 ∧ (civ n).1 ≤ 9999 ∧ 1 ≤ (civ n).2.1 ∧ (civ n).2.1 ≤ 12 ∧ 1 ≤ (civ n).2.2 ∧ (civ n).2.2 ≤ 31 := by
 obtain ⟨h, _⟩ := civ_spec h0 h1
 have := dimI_lo (civ n).1 (civ n).2.1
 exact ⟨h.1, h.2.1, h.2.2.1, h.2.2.2.1, h.2.2.2.2.1, by have := h.2.2.2.2.2; omega⟩
def mlen : List Int := [31, 28, 31, 30, 31, 30, 31, 31, 30, 31, 30, 31]
theorem mlen_dim (y m : Int) (h1 : 1 ≤ m) (h2 : m ≤ 12) (h : ¬ (m = 2 ∧ leapB y = true)) : mlen.getD (m - 1).toNat 0 = dimI y m := by
 have : m = 1 ∨ m = 2 ∨ m = 3 ∨ m = 4 ∨ m = 5 ∨ m = 6 ∨ m = 7 ∨ m = 8 ∨ m = 9 ∨ m = 10 ∨ m = 11 ∨ m = 12 := by omega
 rcases this with rfl | rfl | rfl | rfl | rfl | rfl | rfl | rfl | rfl | rfl | rfl | rfl
 case inr.inl =>
  have hl : leapB y = false := by
   cases hb : leapB y with
   | false => rfl
   | true => exact absurd ⟨rfl, hb⟩ h
  simp [mlen, dimI, lpI, hl]
 all_goals simp [mlen, dimI]
end Go.Proofs.YtmpgfchkkemngaaGreatDoor
namespace Go.Proofs.YtmpgfchkkemngaaGreatDoor
open Go.RowKit Go.Eng
structure Laid (w : World) : Prop where
 months : ∀ i : Nat, i < 12 → w.cell? ⟨5, i, none⟩ = some (.int .i64 (mlen.getD i 0))
 lt : 5 < w.heap.size
theorem Laid.below {w w' : World} (h : Laid w) (hb : Below w.heap.size w w') : Laid w' :=
 ⟨fun i hi => (hb.cell (p := ⟨5, i, none⟩) h.lt).trans (h.months i hi), Nat.lt_of_lt_of_le h.lt hb.size⟩
theorem Laid.load {w : World} (h : Laid w) {m : Int} (h1 : 1 ≤ m) (h2 : m ≤ 12) :
  (Instr.loadAt 3 (.pointer (some (Addr.add ⟨5, 0, none⟩ ((m - 1 : Int).toNat * 1))))).run Tryz.prog w = .ok (.int .i64 (mlen.getD (m - 1).toNat 0)) w := by
 refine run_load1 (by kernel_rfl) ?_
 rw [addr_add, Nat.zero_add, Nat.mul_one]
 exact h.months _ (by omega)
theorem civ_up {n y m d : Int} (h1 : 1 ≤ y) (h2 : y ≤ 9999) (h3 : dby y ≤ n) (h4 : n ≤ 3652058) (hc : ¬ y < 9999 ∨ ¬ dby (y + 1) ≤ n) (hm1 : 1 ≤ m) (hm2 : m ≤ 12) (hd : d = n - dby y + 1 - cum y m) : m = 12 → d ≤ dimI y m := by
 rintro rfl
 have e1 := dby_succ y h1
 have e2 := cum_succ y 12 (by omega)
 have e3 : cum y (12 + 1) = 365 + lpI y := cum_13 y
 have e4 : n < dby (y + 1) := by
  rcases hc with hc | hc
  ·obtain rfl : y = 9999 := by omega
   have := dby_max
   have e : dby (9999 + 1) = dby 10000 := rfl
   omega
  ·omega
 omega
theorem days_any (y m : Int) (w : World) (hL : Laid w) (h0 : 0 ≤ y) (h1 : 1 ≤ m) (h2 : m ≤ 12) :
  Calls Tryz.prog 169 #[.int .i64 y, .int .i64 m] w fun e w' => e = .returned (.int .i64 (dimI y m)) ∧ w = w' := by
 refine enter (n := 15) Tryz.func169 rfl rfl rfl [(0, .v (.int .i64 y)), (1, .v (.int .i64 m))] rfl ?_
 refine run_seq ?_
 refine run_region ?_
 refine seg 1 [(0, .v (.int .i64 y)), (1, .v (.int .i64 m)), (4, .v (.int .i64 0))] [] (by decide) (by kernel_rfl) ownOk_nil trivial ?_
 refine runI_end rfl ?_
 refine at_then ?_
 refine run_seq ?_
 refine run_seq ?_
 refine run_region ?_
 refine segK 4 [⟨1, [], .v (.int .i64 m)⟩, ⟨4, [], .v (.int .i64 0)⟩, ⟨7, [], .v (.bool (decide ((m : Int) = 2)))⟩, ⟨8, [(7, true)], .v (.int .i64 y)⟩] [] (by decide) (by kernel_rfl) ownOk_nil trivial ?_
 refine callV (dst := (some 9)) (p := [(7, true)]) (f := 196) (args := #[.int .i64 y]) (.bool (leapB y)) (fun wv => w = wv) (by kernel_rfl) (by
  intro hg2
  (try simp only [blS] at hg2)
  exact leap_any _ _ (by omega)) (fun _ => rfl) ?_
 rintro _ rfl
 refine seg 6 [(1, .v (.int .i64 m)), (4, .v (.int .i64 0)), (10, .v (.bool ((decide ((m : Int) = 2)) && (leapB y))))] [] (by decide) (by kernel_rfl) ownOk_nil trivial ?_
 refine runI_end rfl ?_
 refine at_then ?_
 refine run_cond ((decide ((m : Int) = 2)) && (leapB y)) (by kernel_rfl) (fun hc3 => ?_) (fun hc3 => ?_)
 ·(try simp only [blS] at hc3)
  refine run_seq ?_
  refine run_region ?_
  refine seg 1 [(1, .v (.int .i64 m)), (4, .v (.int .i64 29))] [] (by decide) (by kernel_rfl) ownOk_nil trivial ?_
  refine runI_end rfl ?_
  refine at_then ?_
  refine run_ret ?_
  refine at_then_ret ?_
  refine at_ret (.int .i64 29) (by kernel_rfl) ownOk_nil ?_
  exact ⟨ret_int (by simp [dimI, lpI, hc3]), rfl⟩
 ·(try simp only [blS] at hc3)
  refine run_skip ?_
  refine at_then ?_
  refine run_seq ?_
  refine run_region ?_
  refine seg 3 [(4, .v (.int .i64 0)), (13, .v (.pointer (some (Addr.add ⟨5, 0, none⟩ ((m - 1 : Int).toNat * 1)))))] [inR (m - 1), (0 : Int) ≤ (m - 1) ∧ (m - 1) < ((12 : Nat) : Int)] (by decide) (by kernel_rfl) ownOk_nil (show (inR (m - 1)) ∧ ((0 : Int) ≤ (m - 1) ∧ (m - 1) < ((12 : Nat) : Int)) from ⟨(by intros; first | omega | decide | (simp only [zq0] at *; omega)), (by intros; first | omega | decide | (simp only [zq0] at *; omega))⟩) ?_
  refine ldX (t := 14) (p := []) (ty := 3) (ad := .pointer (some (Addr.add ⟨5, 0, none⟩ ((m - 1 : Int).toNat * 1)))) (.int .i64 (mlen.getD (m - 1 : Int).toNat 0)) (by kernel_rfl) (hL.load h1 h2) ?_
  refine seg 5 [(4, .v (.int .i64 (mlen.getD (m - 1 : Int).toNat 0)))] [] (by decide) (by kernel_rfl) ownOk_nil trivial ?_
  refine runI_end rfl ?_
  refine at_then ?_
  refine run_ret ?_
  refine at_ret (.int .i64 (mlen.getD (m - 1 : Int).toNat 0)) (by kernel_rfl) ownOk_nil ?_
  exact ⟨ret_int (mlen_dim y m h1 h2 (by intro h; simp [h] at hc3)), rfl⟩
theorem before_any (y : Int) (w : World) (h1 : 1 ≤ y) (h2 : y ≤ 10000) :
  Calls Tryz.prog 168 #[.int .i64 y] w fun e w' => e = .returned (.int .i64 (dby y)) ∧ w = w' := by
 refine enter (n := 17) Tryz.func168 rfl rfl rfl [(0, .v (.int .i64 y))] rfl ?_
 refine run_seq ?_
 refine run_region ?_
 refine seg 1 [(0, .v (.int .i64 y)), (2, .v (.int .i64 0))] [] (by decide) (by kernel_rfl) ownOk_nil trivial ?_
 refine runI_end rfl ?_
 refine at_then ?_
 refine run_seq ?_
 refine run_region ?_
 refine seg 3 [(2, .v (.int .i64 0)), (3, .v (.int .i64 (y - 1)))] [inR (y - 1)] (by decide) (by kernel_rfl) ownOk_nil (show inR (y - 1) from (by intros; first | omega | decide | (simp only [inR, Int.tdiv_eq_ediv_of_nonneg (show 0 ≤ y - 1 by omega)]; omega))) ?_
 refine runI_end rfl ?_
 refine at_then ?_
 refine run_seq ?_
 refine run_region ?_
 refine seg 12 [(2, .v (.int .i64 ((((365 * (y - 1)) + (Int.tdiv (y - 1) 4)) - (Int.tdiv (y - 1) 100)) + (Int.tdiv (y - 1) 400))))] [inR (365 * (y - 1)), 4 ≠ (0 : Int) ∧ inR (Int.tdiv (y - 1) 4), inR ((365 * (y - 1)) + (Int.tdiv (y - 1) 4)), 100 ≠ (0 : Int) ∧ inR (Int.tdiv (y - 1) 100), inR (((365 * (y - 1)) + (Int.tdiv (y - 1) 4)) - (Int.tdiv (y - 1) 100)), 400 ≠ (0 : Int) ∧ inR (Int.tdiv (y - 1) 400), inR ((((365 * (y - 1)) + (Int.tdiv (y - 1) 4)) - (Int.tdiv (y - 1) 100)) + (Int.tdiv (y - 1) 400))] (by decide) (by kernel_rfl) ownOk_nil (show (inR (365 * (y - 1))) ∧ (4 ≠ (0 : Int) ∧ inR (Int.tdiv (y - 1) 4)) ∧ (inR ((365 * (y - 1)) + (Int.tdiv (y - 1) 4))) ∧ (100 ≠ (0 : Int) ∧ inR (Int.tdiv (y - 1) 100)) ∧ (inR (((365 * (y - 1)) + (Int.tdiv (y - 1) 4)) - (Int.tdiv (y - 1) 100))) ∧ (400 ≠ (0 : Int) ∧ inR (Int.tdiv (y - 1) 400)) ∧ (inR ((((365 * (y - 1)) + (Int.tdiv (y - 1) 4)) - (Int.tdiv (y - 1) 100)) + (Int.tdiv (y - 1) 400))) from ⟨(by intros; first | omega | decide | (simp only [inR, Int.tdiv_eq_ediv_of_nonneg (show 0 ≤ y - 1 by omega)]; omega)), (by intros; first | omega | decide | (simp only [inR, Int.tdiv_eq_ediv_of_nonneg (show 0 ≤ y - 1 by omega)]; omega)), (by intros; first | omega | decide | (simp only [inR, Int.tdiv_eq_ediv_of_nonneg (show 0 ≤ y - 1 by omega)]; omega)), (by intros; first | omega | decide | (simp only [inR, Int.tdiv_eq_ediv_of_nonneg (show 0 ≤ y - 1 by omega)]; omega)), (by intros; first | omega | decide | (simp only [inR, Int.tdiv_eq_ediv_of_nonneg (show 0 ≤ y - 1 by omega)]; omega)), (by intros; first | omega | decide | (simp only [inR, Int.tdiv_eq_ediv_of_nonneg (show 0 ≤ y - 1 by omega)]; omega)), (by intros; first | omega | decide | (simp only [inR, Int.tdiv_eq_ediv_of_nonneg (show 0 ≤ y - 1 by omega)]; omega))⟩) ?_
 refine runI_end rfl ?_
 refine at_then ?_
 refine run_ret ?_
 refine at_ret (.int .i64 ((((365 * (y - 1)) + (Int.tdiv (y - 1) 4)) - (Int.tdiv (y - 1) 100)) + (Int.tdiv (y - 1) 400))) (by kernel_rfl) ownOk_nil ?_
 exact ⟨ret_int (by simp only [Int.tdiv_eq_ediv_of_nonneg (show 0 ≤ y - 1 by omega)]; rfl), rfl⟩
theorem civil_yes (n : Int) (w : World) (hL : Laid w) (h0 : 0 ≤ n) (h1 : n ≤ 3652058) :
  Calls Tryz.prog 122 #[.int .i64 n] w fun e w' => e = .returned (.tuple #[.int .i64 (civ n).1, .int .i64 (civ n).2.1, .int .i64 (civ n).2.2, .bool true]) ∧ w = w' := by
 refine enter (n := 43) Tryz.func122 rfl rfl rfl [(0, .v (.int .i64 n))] rfl ?_
 refine run_seq ?_
 refine run_region ?_
 refine seg 4 [(0, .v (.int .i64 n)), (2, .v (.int .i64 0)), (3, .v (.int .i64 0)), (4, .v (.int .i64 0)), (5, .v (.bool false))] [] (by decide) (by kernel_rfl) ownOk_nil trivial ?_
 refine runI_end rfl ?_
 refine at_then ?_
 refine run_seq ?_
 refine run_seq ?_
 refine run_region ?_
 refine seg 1 [(0, .v (.int .i64 n)), (2, .v (.int .i64 0)), (3, .v (.int .i64 0)), (4, .v (.int .i64 0)), (5, .v (.bool false)), (6, .v (.int .i64 n))] [] (by decide) (by kernel_rfl) ownOk_nil trivial ?_
 refine callV (dst := (some 7)) (p := []) (f := 167) (args := #[.int .i64 n]) (.bool (decide ((0 : Int) ≤ n) && decide (n ≤ (3652058 : Int)))) (fun wv => w = wv) (by kernel_rfl) (exists_any _ _) (fun _ => rfl) ?_
 rintro _ rfl
 refine seg 3 [(0, .v (.int .i64 n)), (2, .v (.int .i64 0)), (3, .v (.int .i64 0)), (4, .v (.int .i64 0)), (5, .v (.bool false)), (8, .v (.bool (!(decide ((0 : Int) ≤ n) && decide (n ≤ (3652058 : Int))))))] [] (by decide) (by kernel_rfl) ownOk_nil trivial ?_
 refine runI_end rfl ?_
 refine at_then ?_
 refine run_cond (!(decide ((0 : Int) ≤ n) && decide (n ≤ (3652058 : Int)))) (by kernel_rfl) (fun hc1 => ?_) (fun hc1 => ?_)
 ·(try simp only [blS] at hc1)
  exfalso; omega
 ·(try simp only [blS] at hc1)
  refine run_skip ?_
  refine at_then ?_
  refine run_seq ?_
  refine run_region ?_
  refine seg 4 [(0, .v (.int .i64 n)), (2, .v (.int .i64 ((Int.tdiv n 366) + 1))), (3, .v (.int .i64 0)), (4, .v (.int .i64 0)), (5, .v (.bool false))] [366 ≠ (0 : Int) ∧ inR (Int.tdiv n 366), inR ((Int.tdiv n 366) + 1)] (by decide) (by kernel_rfl) ownOk_nil (show (366 ≠ (0 : Int) ∧ inR (Int.tdiv n 366)) ∧ (inR ((Int.tdiv n 366) + 1)) from ⟨(by intros; first | omega | decide | (simp only [zq0] at *; first | omega | (rw [Int.tdiv_eq_ediv_of_nonneg h0] at *; omega))), (by intros; first | omega | decide | (simp only [zq0] at *; first | omega | (rw [Int.tdiv_eq_ediv_of_nonneg h0] at *; omega)))⟩) ?_
  refine runI_end rfl ?_
  refine at_then ?_
  refine run_seq ?_
  refine run_block ?_
  refine run_loop (σ := Int) (fun y => (9999 - y).toNat) (fun y => [(0, .v (.int .i64 n)), (2, .v (.int .i64 y)), (3, .v (.int .i64 0)), (4, .v (.int .i64 0)), (5, .v (.bool false))]) (fun _ => [])
   (fun y wv => (w = wv) ∧ 1 ≤ y ∧ y ≤ 9999 ∧ dby y ≤ n) ((Int.tdiv n 366) + 1) ?_ (by kernel_rfl) rfl ?_
  ·refine ⟨rfl, ?_⟩; rw [Int.tdiv_eq_ediv_of_nonneg h0]; exact ⟨by omega, by omega, by unfold dby; omega⟩
  rintro y wv ⟨rfl, ⟨hy1, hy2, hy3⟩⟩
  have hdb := dby_bd y hy1 (by omega)
  have hdb2 := dby_bd (y + 1) (by omega) (by omega)
  refine run_seq ?_
  refine run_seq ?_
  refine run_region ?_
  refine segK 5 [⟨0, [], .v (.int .i64 n)⟩, ⟨2, [], .v (.int .i64 y)⟩, ⟨3, [], .v (.int .i64 0)⟩, ⟨4, [], .v (.int .i64 0)⟩, ⟨5, [], .v (.bool false)⟩, ⟨14, [], .v (.bool (decide ((y : Int) < 9999)))⟩, ⟨16, [(14, true)], .v (.int .i64 (y + 1))⟩] [(decide ((y : Int) < 9999)) = true → inR (y + 1)] (by decide) (by kernel_rfl) ownOk_nil (show (decide ((y : Int) < 9999)) = true → inR (y + 1) from (by intros; first | omega | decide | (simp only [zq0] at *; first | omega | (rw [Int.tdiv_eq_ediv_of_nonneg h0] at *; omega)))) ?_
  refine callV (dst := (some 17)) (p := [(14, true)]) (f := 168) (args := #[.int .i64 (y + 1)]) (.int .i64 (dby (y + 1))) (fun wv => w = wv) (by kernel_rfl) (by
   intro hg4
   (try simp only [blS] at hg4)
   exact before_any _ _ (by omega) (by omega)) (fun _ => rfl) ?_
  rintro _ rfl
  refine seg 9 [(0, .v (.int .i64 n)), (2, .v (.int .i64 y)), (3, .v (.int .i64 0)), (4, .v (.int .i64 0)), (5, .v (.bool false)), (20, .v (.bool ((decide ((y : Int) < 9999)) && (decide ((dby (y + 1) : Int) ≤ n)))))] [] (by decide) (by kernel_rfl) ownOk_nil trivial ?_
  refine runI_end rfl ?_
  refine at_then ?_
  refine run_cond ((decide ((y : Int) < 9999)) && (decide ((dby (y + 1) : Int) ≤ n))) (by kernel_rfl) (fun hc5 => ?_) (fun hc5 => ?_)
  ·(try simp only [blS] at hc5)
   refine run_skip ?_
   refine at_then ?_
   refine run_block ?_
   refine run_region ?_
   refine seg 3 [(0, .v (.int .i64 n)), (2, .v (.int .i64 (y + 1))), (3, .v (.int .i64 0)), (4, .v (.int .i64 0)), (5, .v (.bool false))] [inR (y + 1)] (by decide) (by kernel_rfl) ownOk_nil (show inR (y + 1) from (by intros; first | omega | decide | (simp only [zq0] at *; first | omega | (rw [Int.tdiv_eq_ediv_of_nonneg h0] at *; omega)))) ?_
   refine runI_end rfl ?_
   refine at_block ?_
   refine at_round (y + 1) ?_ ?_ (by kernel_rfl) rfl
   ·exact (by first | omega | (dsimp only; omega))
   ·exact ⟨rfl, by omega, by omega, hc5.2⟩
  ·(try simp only [blS] at hc5)
   refine run_exit ?_
   refine at_then_exit ?_
   refine at_then_exit ?_
   refine at_block_exit ?_
   refine at_then ?_
   refine run_seq ?_
   refine run_region ?_
   refine seg 2 [(2, .v (.int .i64 y)), (3, .v (.int .i64 0)), (4, .v (.int .i64 0)), (5, .v (.bool false)), (23, .v (.int .i64 n)), (24, .v (.int .i64 y))] [] (by decide) (by kernel_rfl) ownOk_nil trivial ?_
   refine callV (dst := (some 25)) (p := []) (f := 168) (args := #[.int .i64 y]) (.int .i64 (dby y)) (fun wv => w = wv) (by kernel_rfl) (before_any _ _ (by omega) (by omega)) (fun _ => rfl) ?_
   rintro _ rfl
   refine seg 7 [(2, .v (.int .i64 y)), (3, .v (.int .i64 1)), (4, .v (.int .i64 ((n - (dby y)) + 1))), (5, .v (.bool false))] [inR (n - (dby y)), inR ((n - (dby y)) + 1)] (by decide) (by kernel_rfl) ownOk_nil (show (inR (n - (dby y))) ∧ (inR ((n - (dby y)) + 1)) from ⟨(by intros; first | omega | decide | (simp only [zq0] at *; first | omega | (rw [Int.tdiv_eq_ediv_of_nonneg h0] at *; omega))), (by intros; first | omega | decide | (simp only [zq0] at *; first | omega | (rw [Int.tdiv_eq_ediv_of_nonneg h0] at *; omega)))⟩) ?_
   refine runI_end rfl ?_
   refine at_then ?_
   refine run_seq ?_
   refine run_block ?_
   refine run_loop (σ := Int × Int) (fun ⟨m, d⟩ => (12 - m).toNat) (fun ⟨m, d⟩ => [(2, .v (.int .i64 y)), (3, .v (.int .i64 m)), (4, .v (.int .i64 d)), (5, .v (.bool false))]) (fun _ => [])
    (fun ⟨m, d⟩ wv => (w = wv) ∧ 1 ≤ m ∧ m ≤ 12 ∧ 1 ≤ d ∧ d = n - dby y + 1 - cum y m) ((1, (n - (dby y)) + 1)) ?_ (by kernel_rfl) rfl ?_
   ·refine ⟨rfl, ?_⟩; exact ⟨by omega, by omega, by omega, by rw [cum_1]; omega⟩
   rintro ⟨m, d⟩ wv ⟨rfl, ⟨hm1, hm2, hd1, hd2⟩⟩
   have hcb := cum_bd y m hm1 (by omega)
   have hdl := dimI_lo y m
   have hcs := cum_succ y m hm1
   have hup := civ_up hy1 hy2 hy3 h1 hc5 hm1 hm2 hd2
   refine run_seq ?_
   refine run_seq ?_
   refine run_region ?_
   refine seg 3 [(2, .v (.int .i64 y)), (3, .v (.int .i64 m)), (4, .v (.int .i64 d)), (5, .v (.bool false)), (28, .v (.int .i64 d)), (29, .v (.int .i64 y)), (30, .v (.int .i64 m))] [] (by decide) (by kernel_rfl) ownOk_nil trivial ?_
   refine callV (dst := (some 31)) (p := []) (f := 169) (args := #[.int .i64 y, .int .i64 m]) (.int .i64 (dimI y m)) (fun wv => w = wv) (by kernel_rfl) (days_any _ _ _ hL (by omega) (by omega) (by omega)) (fun _ => rfl) ?_
   rintro _ rfl
   refine seg 5 [(2, .v (.int .i64 y)), (3, .v (.int .i64 m)), (4, .v (.int .i64 d)), (5, .v (.bool false)), (32, .v (.bool (decide ((d : Int) > (dimI y m)))))] [] (by decide) (by kernel_rfl) ownOk_nil trivial ?_
   refine runI_end rfl ?_
   refine at_then ?_
   refine run_cond (decide ((d : Int) > (dimI y m))) (by kernel_rfl) (fun hc7 => ?_) (fun hc7 => ?_)
   ·(try simp only [blS] at hc7)
    refine run_skip ?_
    refine at_then ?_
    refine run_block ?_
    refine run_seq ?_
    refine run_region ?_
    refine seg 3 [(2, .v (.int .i64 y)), (3, .v (.int .i64 m)), (4, .v (.int .i64 d)), (5, .v (.bool false)), (33, .v (.int .i64 d)), (34, .v (.int .i64 y)), (35, .v (.int .i64 m))] [] (by decide) (by kernel_rfl) ownOk_nil trivial ?_
    refine callV (dst := (some 36)) (p := []) (f := 169) (args := #[.int .i64 y, .int .i64 m]) (.int .i64 (dimI y m)) (fun wv => w = wv) (by kernel_rfl) (days_any _ _ _ hL (by omega) (by omega) (by omega)) (fun _ => rfl) ?_
    rintro _ rfl
    refine seg 6 [(2, .v (.int .i64 y)), (3, .v (.int .i64 m)), (4, .v (.int .i64 (d - (dimI y m)))), (5, .v (.bool false))] [inR (d - (dimI y m))] (by decide) (by kernel_rfl) ownOk_nil (show inR (d - (dimI y m)) from (by intros; first | omega | decide | (simp only [zq0] at *; first | omega | (rw [Int.tdiv_eq_ediv_of_nonneg h0] at *; omega)))) ?_
    refine runI_end rfl ?_
    refine at_then ?_
    refine run_region ?_
    refine seg 3 [(2, .v (.int .i64 y)), (3, .v (.int .i64 (m + 1))), (4, .v (.int .i64 (d - (dimI y m)))), (5, .v (.bool false))] [inR (m + 1)] (by decide) (by kernel_rfl) ownOk_nil (show inR (m + 1) from (by intros; first | omega | decide | (simp only [zq0] at *; first | omega | (rw [Int.tdiv_eq_ediv_of_nonneg h0] at *; omega)))) ?_
    refine runI_end rfl ?_
    refine at_block ?_
    refine at_round ((m + 1, d - (dimI y m))) ?_ ?_ (by kernel_rfl) rfl
    ·exact (by first | omega | (dsimp only; omega))
    ·exact ⟨rfl, by omega, by omega, by omega, by omega⟩
   ·(try simp only [blS] at hc7)
    refine run_exit ?_
    refine at_then_exit ?_
    refine at_then_exit ?_
    refine at_block_exit ?_
    refine at_then ?_
    refine run_seq ?_
    refine run_region ?_
    refine seg 7 [(2, .v (.int .i64 y)), (3, .v (.int .i64 m)), (4, .v (.int .i64 d)), (5, .v (.bool true))] [] (by decide) (by kernel_rfl) ownOk_nil trivial ?_
    refine runI_end rfl ?_
    refine at_then ?_
    refine run_ret ?_
    refine at_ret (.tuple #[.int .i64 y, .int .i64 m, .int .i64 d, .bool true]) (by kernel_rfl) ownOk_nil ?_
    have hv : vld y m d := ⟨hy1, hy2, hm1, hm2, hd1, by omega⟩
    rw [civ_eq hv (by unfold numI; omega)]
    exact ⟨rfl, rfl⟩
end Go.Proofs.YtmpgfchkkemngaaGreatDoor
namespace Go.Proofs.YtmpgfchkkemngaaGreatDoor
open Go.RowKit Go.Eng
end Go.Proofs.YtmpgfchkkemngaaGreatDoor
namespace Go.Proofs.YtmpgfchkkemngaaGreatDoor
open Go.RowKit Go.Eng
def S (l : List UInt8) : ByteArray := ⟨l.toArray⟩
theorem S_app (a b : List UInt8) : S a ++ S b = S (a ++ b) := by
 have : (S a ++ S b).data = (S (a ++ b)).data := by simp [S]
 cases h1 : S a ++ S b; cases h2 : S (a ++ b); rw [h1, h2] at this; simpa using this
theorem S_size (l : List UInt8) : (S l).size = l.length := by simp [S, ByteArray.size]
def dec2 (n : Int) : List UInt8 := if n < 10 then [u8 (48 + n)] else [u8 (48 + n.tdiv 10), u8 (48 + n.tmod 10)]
def digs : Nat → Int → Int → List UInt8 → List UInt8
 | 0, _, _, acc => acc
 | f + 1, n, k, acc => if n > 0 ∨ k > 0 then digs f (n / 10) (k - 1) (u8 (48 + n % 10) :: acc) else acc
theorem digs_len : ∀ (f : Nat) (x k : Int) (acc : List UInt8), (digs f x k acc).length ≤ f + acc.length
 | 0, _, _, acc => by simp [digs]
 | f + 1, x, k, acc => by
  rw [digs]
  split
  ·have := digs_len f (x / 10) (k - 1) (u8 (48 + x % 10) :: acc); simp at this; omega
  ·omega
noncomputable def dateText (n : Int) : List UInt8 := digs 5 (civ n).1 4 [] ++ [45] ++ digs 5 (civ n).2.1 2 [] ++ [45] ++ digs 5 (civ n).2.2 2 []
end Go.Proofs.YtmpgfchkkemngaaGreatDoor
namespace Go.Proofs.YtmpgfchkkemngaaGreatDoor
open Go.RowKit Go.Eng
def valB (l : List UInt8) : Nat := l.foldl (fun a b => 256 * a + b.toNat) 0
def canonL (l : List UInt8) : List UInt8 := l.dropWhile (· == 0)
def nb (n : Nat) : List UInt8 := if h : n = 0 then [] else nb (n / 256) ++ [UInt8.ofNat (n % 256)]
termination_by n
decreasing_by exact Nat.div_lt_self (Nat.pos_of_ne_zero h) (by decide)
theorem nb_zero : nb 0 = [] := by rw [nb]; simp
theorem nb_pos {n : Nat} (h : n ≠ 0) : nb n = nb (n / 256) ++ [UInt8.ofNat (n % 256)] := by rw [nb]; simp [h]
theorem valB_snoc (l : List UInt8) (x : UInt8) : valB (l ++ [x]) = 256 * valB l + x.toNat := by simp [valB, List.foldl_append]
theorem valB_nil : valB [] = 0 := rfl
theorem foldB (l : List UInt8) : ∀ a : Nat, l.foldl (fun a b => 256 * a + b.toNat) a = a * 256 ^ l.length + valB l := by
 induction l with
 | nil => intro a; simp [valB]
 | cons x t ih =>
  intro a
  have hv : valB (x :: t) = (256 * 0 + x.toNat) * 256 ^ t.length + valB t := ih (256 * 0 + x.toNat)
  rw [List.foldl_cons, ih, hv]
  simp only [List.length_cons, Nat.pow_succ, Nat.mul_zero, Nat.zero_add, Nat.add_mul]
  rw [Nat.mul_comm 256 a, Nat.mul_assoc, Nat.mul_comm 256 (256 ^ t.length)]
  omega
theorem valB_cons (x : UInt8) (t : List UInt8) : valB (x :: t) = x.toNat * 256 ^ t.length + valB t := by
 rw [valB, List.foldl_cons, foldB]; simp
theorem valB_app (a b : List UInt8) : valB (a ++ b) = valB a * 256 ^ b.length + valB b := by
 rw [valB, List.foldl_append, foldB]; rfl
theorem valB_lt (l : List UInt8) : valB l < 256 ^ l.length := by
 induction l with
 | nil => simp [valB]
 | cons x t ih =>
  rw [valB_cons, List.length_cons, Nat.pow_succ]
  have := x.toNat_lt
  have h : (x.toNat + 1) * 256 ^ t.length ≤ 256 * 256 ^ t.length := Nat.mul_le_mul_right _ (by omega)
  rw [Nat.add_mul] at h
  rw [Nat.mul_comm (256 ^ t.length) 256]
  omega
theorem valB_nb (n : Nat) : valB (nb n) = n := by
 induction n using Nat.strongRecOn with
 | ind n ih =>
  by_cases h : n = 0
  ·subst h; rw [nb_zero]; rfl
  ·rw [nb_pos h, valB_snoc, ih _ (Nat.div_lt_self (Nat.pos_of_ne_zero h) (by decide))]
   have : (UInt8.ofNat (n % 256)).toNat = n % 256 := by simp
   rw [this]; omega
theorem nb_mul {v : Nat} {x : UInt8} (h : ¬ (v = 0 ∧ x = 0)) : nb (256 * v + x.toNat) = nb v ++ [x] := by
 have hx := x.toNat_lt
 have hn : 256 * v + x.toNat ≠ 0 := by
  intro hz
  have hx0 : x.toNat = 0 := by omega
  exact h ⟨by omega, UInt8.toNat_inj.1 (by simpa using hx0)⟩
 rw [nb_pos hn]
 have h1 : (256 * v + x.toNat) / 256 = v := by omega
 have h2 : (256 * v + x.toNat) % 256 = x.toNat := by omega
 rw [h1, h2]; simp
theorem rev_ind {P : List UInt8 → Prop} (h0 : P []) (h1 : ∀ l x, P l → P (l ++ [x])) (l : List UInt8) : P l := by
 have : ∀ r : List UInt8, P r.reverse := by
  intro r
  induction r with
  | nil => exact h0
  | cons x t ih => rw [List.reverse_cons]; exact h1 _ _ ih
 have := this l.reverse
 rwa [List.reverse_reverse] at this
theorem dw_append (l : List UInt8) (x : UInt8) : canonL (l ++ [x]) = if canonL l = [] then (if x = 0 then [] else [x]) else canonL l ++ [x] := by
 induction l with
 | nil => simp [canonL, List.dropWhile_cons]
 | cons y t ih =>
  simp only [canonL, List.cons_append, List.dropWhile_cons] at ih ⊢
  by_cases hy : (y == 0) = true
  ·simp only [hy, if_true]; exact ih
  ·simp [hy]
theorem canon_nil (l : List UInt8) : canonL l = [] ↔ valB l = 0 := by
 refine rev_ind (P := fun l => canonL l = [] ↔ valB l = 0) ?_ ?_ l
 ·simp [canonL, valB]
 ·intro l x ih
  rw [dw_append, valB_snoc]
  by_cases h : canonL l = []
  ·rw [if_pos h, ih.1 h]
   by_cases hx : x = 0
   ·simp [hx]
   ·rw [if_neg hx]
    constructor
    ·intro h; simp at h
    ·intro h; exact absurd (UInt8.toNat_inj.1 (by simpa using h)) hx
  ·rw [if_neg h]
   have : valB l ≠ 0 := fun hz => h (ih.2 hz)
   constructor
   ·intro h; simp at h
   ·intro h; omega
theorem canon_nb (l : List UInt8) : canonL l = nb (valB l) := by
 refine rev_ind (P := fun l => canonL l = nb (valB l)) ?_ ?_ l
 ·simp [canonL, valB, nb_zero]
 ·intro l x ih
  rw [dw_append, valB_snoc]
  by_cases h : canonL l = []
  ·rw [if_pos h, (canon_nil l).1 h]
   by_cases hx : x = 0
   ·subst hx; simp [nb_zero]
   ·rw [if_neg hx, nb_mul (v := 0) (fun hh => hx hh.2), nb_zero]; rfl
  ·rw [if_neg h]
   have : valB l ≠ 0 := fun hz => h ((canon_nil l).2 hz)
   rw [nb_mul (fun hh => this hh.1), ih]
theorem nb_len {n k : Nat} (h : n < 256 ^ k) : (nb n).length ≤ k := by
 induction k generalizing n with
 | zero => simp at h; subst h; rw [nb_zero]; simp
 | succ k ih =>
  by_cases hn : n = 0
  ·subst hn; rw [nb_zero]; simp
  ·rw [nb_pos hn]; simp
   refine ih ?_
   rw [Nat.pow_succ] at h
   exact Nat.div_lt_of_lt_mul (by rw [Nat.mul_comm]; exact h)
theorem nb_len_ge {n k : Nat} (h : 256 ^ k ≤ n) : k < (nb n).length := by
 rcases Nat.lt_or_ge k (nb n).length with h1 | h1
 ·exact h1
 ·have := valB_lt (nb n)
  rw [valB_nb] at this
  have h2 := Nat.pow_le_pow_right (n := 256) (by decide) h1
  omega
theorem nb_len_zero (n : Nat) : (nb n).length = 0 ↔ n = 0 := by
 constructor
 ·intro h
  have := valB_nb n
  rw [List.length_eq_zero_iff.1 h] at this
  exact this.symm
 ·intro h; subst h; rw [nb_zero]; rfl
theorem nb_inj {a b : Nat} (h : nb a = nb b) : a = b := by rw [← valB_nb a, h, valB_nb]
theorem nb_head {n : Nat} (h : n < 2 ^ 63) (hl : (nb n).length = 8) : ((nb n).getD 0 0).toNat ≤ 127 := by
 have hv := valB_nb n
 cases hn : nb n with
 | nil => rw [hn] at hl; simp at hl
 | cons x t =>
  rw [hn] at hl hv
  rw [valB_cons] at hv
  simp at hl
  rw [hl] at hv
  simp
  have : x.toNat * 256 ^ 7 < 2 ^ 63 := by omega
  omega
theorem valB_take_le (l : List UInt8) (k : Nat) : valB (l.take k) ≤ valB l := by
 have h := valB_app (l.take k) (l.drop k)
 rw [List.take_append_drop] at h
 have h1 : 1 ≤ 256 ^ (l.drop k).length := Nat.one_le_pow _ _ (by decide)
 have h2 := Nat.mul_le_mul_left (valB (l.take k)) h1
 omega
theorem valB_take_succ {l : List UInt8} {k : Nat} (h : k < l.length) : valB (l.take (k + 1)) = 256 * valB (l.take k) + (l.getD k 0).toNat := by
 rw [List.take_add_one, List.getElem?_eq_getElem h]
 simp only [Option.toList]
 rw [valB_snoc]
 simp [List.getD, h]
theorem byteAt_S (l : List UInt8) (i : Int) : byteAt (S l) i = ((l.getD i.toNat 0).toNat : Int) := by simp [byteAt, S]
theorem S_drop (l : List UInt8) (k : Nat) : (S l).extract k (S l).size = S (l.drop k) := by
 have h : ((S l).extract k (S l).size).data = (S (l.drop k)).data := by
  rw [ByteArray.data_extract, S_size]
  simp [S, List.take_of_length_le]
 cases h1 : (S l).extract k (S l).size; cases h2 : S (l.drop k); rw [h1, h2] at h; simpa using h
theorem canon_zero {l : List UInt8} {k : Nat} (h : k < l.length) (hz : (l.getD k 0).toNat = 0) : canonL (l.drop k) = canonL (l.drop (k + 1)) := by
 rw [List.drop_eq_getElem_cons h]
 have : l[k] = 0 := by
  simp [List.getD, h] at hz
  exact UInt8.toNat_inj.1 (by simpa using hz)
 simp [canonL, List.dropWhile_cons, this]
theorem canon_stop {l : List UInt8} {k : Nat} (h : ¬ (k < l.length ∧ (l.getD k 0).toNat = 0)) : canonL (l.drop k) = l.drop k := by
 rcases Nat.lt_or_ge k l.length with hk | hk
 ·rw [List.drop_eq_getElem_cons hk]
  have : ¬ (l[k] = 0) := by
   intro hz
   exact h ⟨hk, by simp [List.getD, hk, hz]⟩
  have h2 : (l[k] == 0) = false := by simpa using this
  rw [canonL, List.dropWhile_cons, h2]; rfl
 ·rw [List.drop_eq_nil_of_le hk]; rfl
theorem u8_toNat (x : Int) : ((u8 x).toNat : Int) = x % 256 := by
 have h1 := Int.emod_nonneg x (show (256 : Int) ≠ 0 by decide)
 have h2 := Int.emod_lt_of_pos x (show (0 : Int) < 256 by decide)
 rw [u8]; simp; omega
theorem wrap64 {x : Int} (h : inR x) : IntKind.wrap .i64 x = x := by
 unfold inR at h
 simp [IntKind.wrap, IntKind.bits, IntKind.signed]
 omega
theorem wrap64_byte (x : UInt8) : IntKind.wrap .i64 (x.toNat : Int) = (x.toNat : Int) := by
 have := x.toNat_lt
 exact wrap64 (by unfold inR; omega)
end Go.Proofs.YtmpgfchkkemngaaGreatDoor
namespace Go.Proofs.YtmpgfchkkemngaaGreatDoor
open Go.RowKit Go.Eng
theorem pow8_step (n f : Nat) : n / 2 ^ (8 * f) = 256 * (n / 2 ^ (8 * (f + 1))) + n / 2 ^ (8 * f) % 256 := by
 have h : (2 : Nat) ^ (8 * (f + 1)) = 2 ^ (8 * f) * 256 := by rw [Nat.mul_add, Nat.pow_add]
 rw [h, ← Nat.div_div_eq_div_mul]
 omega
theorem ofShift {n : Int} {f : Nat} (h : 0 ≤ n) (hf : f < 8) : ((u8 (Int.fdiv n (2 ^ min (8 * (f : Int)).toNat 64))).toNat) = n.toNat / 2 ^ (8 * f) % 256 := by
 have h1 : min (8 * (f : Int)).toNat 64 = 8 * f := by omega
 obtain ⟨m, rfl⟩ := Int.eq_ofNat_of_zero_le h
 have h3 : Int.fdiv (m : Int) (2 ^ (8 * f)) = ((m / 2 ^ (8 * f) : Nat) : Int) := by
  rw [Int.fdiv_eq_ediv_of_nonneg _ (Int.le_of_lt (Int.pow_pos (by decide)))]
  simp
 have h4 := u8_toNat (Int.fdiv (m : Int) (2 ^ min (8 * (f : Int)).toNat 64))
 rw [h1, h3] at h4 ⊢
 simp only [Int.toNat_natCast]
 omega
theorem intStepV {l : List UInt8} {x : Int} {k : Nat} (h : valB l < 2 ^ 63) (hv : x = (valB (l.take k) : Int)) (hk : k < l.length) :
  IntKind.wrap .i64 (x * 2 ^ 8) + IntKind.wrap .i64 (byteAt (S l) (k : Int)) = (valB (l.take (k + 1)) : Int) ∧ (valB (l.take (k + 1)) : Int) < 2 ^ 63 := by
 have h1 := valB_take_le l (k + 1)
 have h2 := valB_take_succ hk
 rw [byteAt_S, Int.toNat_natCast, wrap64_byte, wrap64 (by unfold inR; omega), h2, hv]
 constructor
 ·simp; omega
 ·omega
theorem intR {l : List UInt8} {x : Int} {k : Nat} (h : valB l < 2 ^ 63) (hv : x = (valB (l.take k) : Int)) (hk : k < l.length) :
  inR (IntKind.wrap .i64 (x * 2 ^ 8) + IntKind.wrap .i64 (byteAt (S l) (k : Int))) := by
 obtain ⟨e, h2⟩ := intStepV h hv hk
 rw [e]; unfold inR; omega
theorem intStep {l : List UInt8} {x : Int} {k : Nat} (h : valB l < 2 ^ 63) (hv : x = (valB (l.take k) : Int)) (hk : k < l.length) :
  IntKind.wrap .i64 (x * 2 ^ 8) + IntKind.wrap .i64 (byteAt (S l) (k : Int)) = (valB (l.take (k + 1)) : Int) := (intStepV h hv hk).1
def zq1 := And.intro @S_size (And.intro @blS (And.intro @byteAt_S (@inR.eq_1)))
def zq2 := And.intro @S_size (And.intro @blS (@byteAt_S))
theorem canon_any (l : List UInt8) (w : World) (hl : l.length ≤ maxLen) :
  Calls Tryz.prog 138 #[.string (S l)] w fun e w' => e = .returned (.string (S (nb (valB l)))) ∧ w = w' := by
 unfold maxLen at hl
 refine enter (n := 19) Tryz.func138 rfl rfl rfl [(0, .v (.string (S l)))] rfl ?_
 refine run_seq ?_
 refine run_region ?_
 refine seg 1 [(0, .v (.string (S l))), (2, .v (.string (ByteArray.mk #[])))] [] (by decide) (by kernel_rfl) ownOk_nil trivial ?_
 refine runI_end rfl ?_
 refine at_then ?_
 refine run_seq ?_
 refine run_region ?_
 refine seg 1 [(0, .v (.string (S l))), (2, .v (.string (ByteArray.mk #[]))), (3, .v (.int .i64 0))] [] (by decide) (by kernel_rfl) ownOk_nil trivial ?_
 refine runI_end rfl ?_
 refine at_then ?_
 refine run_seq ?_
 refine run_block ?_
 refine run_loop (σ := Nat) (fun k => l.length - k) (fun k => [(0, .v (.string (S l))), (2, .v (.string (ByteArray.mk #[]))), (3, .v (.int .i64 (k : Int)))]) (fun _ => [])
  (fun k wv => (w = wv) ∧ k ≤ l.length ∧ canonL l = canonL (l.drop k)) (0) ?_ (by kernel_rfl) rfl ?_
 ·refine ⟨rfl, ?_⟩; exact ⟨Nat.zero_le _, by rw [List.drop_zero]⟩
 rintro k wv ⟨rfl, ⟨hk, hc⟩⟩
 refine run_seq ?_
 refine run_seq ?_
 refine run_region ?_
 refine seg 10 [(0, .v (.string (S l))), (2, .v (.string (ByteArray.mk #[]))), (3, .v (.int .i64 (k : Int))), (13, .v (.bool ((decide (((k : Int) : Int) < ((S l).size : Int))) && (decide ((byteAt (S l) (k : Int) : Int) = 0)))))] [(decide (((k : Int) : Int) < ((S l).size : Int))) = true → (0 : Int) ≤ (k : Int) ∧ (k : Int) < ((S l).size : Int)] (by decide) (by kernel_rfl) ownOk_nil (show (decide (((k : Int) : Int) < ((S l).size : Int))) = true → (0 : Int) ≤ (k : Int) ∧ (k : Int) < ((S l).size : Int) from (by intros; first | omega | decide | (simp only [zq1] at *; omega))) ?_
 refine runI_end rfl ?_
 refine at_then ?_
 refine run_cond ((decide (((k : Int) : Int) < ((S l).size : Int))) && (decide ((byteAt (S l) (k : Int) : Int) = 0))) (by kernel_rfl) (fun hc2 => ?_) (fun hc2 => ?_)
 ·(try simp only [zq2, Int.toNat_natCast] at hc2)
  refine run_skip ?_
  refine at_then ?_
  refine run_block ?_
  refine run_region ?_
  refine seg 3 [(0, .v (.string (S l))), (2, .v (.string (ByteArray.mk #[]))), (3, .v (.int .i64 ((k : Int) + 1)))] [inR ((k : Int) + 1)] (by decide) (by kernel_rfl) ownOk_nil (show inR ((k : Int) + 1) from (by intros; first | omega | decide | (simp only [zq1] at *; omega))) ?_
  refine runI_end rfl ?_
  refine at_block ?_
  refine at_round (k + 1) ?_ ?_ (by kernel_rfl) rfl
  ·exact (by first | omega | (dsimp only; omega))
  ·exact ⟨rfl, by omega, by rw [hc, canon_zero (by omega) (by have := hc2.2; omega)]⟩
 ·(try simp only [zq2, Int.toNat_natCast] at hc2)
  refine run_exit ?_
  refine at_then_exit ?_
  refine at_then_exit ?_
  refine at_block_exit ?_
  refine at_then ?_
  refine run_seq ?_
  refine run_region ?_
  refine seg 4 [(2, .v (.string ((S l).extract ((k : Int) : Int).toNat (S l).size)))] [(0 : Int) ≤ (k : Int) ∧ (k : Int) ≤ ((S l).size : Int)] (by decide) (by kernel_rfl) ownOk_nil (show (0 : Int) ≤ (k : Int) ∧ (k : Int) ≤ ((S l).size : Int) from (by intros; first | omega | decide | (simp only [zq1] at *; omega))) ?_
  refine runI_end rfl ?_
  refine at_then ?_
  refine run_ret ?_
  refine at_ret (.string ((S l).extract ((k : Int) : Int).toNat (S l).size)) (by kernel_rfl) ownOk_nil ?_
  refine ⟨?_, rfl⟩
  show Ending.returned (.string ((S l).extract ((k : Int)).toNat (S l).size)) = _
  rw [Int.toNat_natCast, S_drop, ← canon_stop (k := k) (by have := hc2; omega), ← hc, canon_nb]
theorem canonNb_any (n : Nat) (w : World) (h : (nb n).length ≤ maxLen) :
  Calls Tryz.prog 138 #[.string (S (nb n))] w fun e w' => e = .returned (.string (S (nb n))) ∧ w = w' := by
 have := canon_any (nb n) w h
 rwa [valB_nb] at this
theorem of_any (n : Int) (w : World) (h0 : 0 ≤ n) (h1 : n < 2 ^ 63) :
  Calls Tryz.prog 136 #[.int .i64 n] w fun e w' => e = .returned (.string (S (nb n.toNat))) ∧ Below w.heap.size w w' := by
 have hz : n.toNat / 2 ^ 64 = 0 := Nat.div_eq_of_lt (by omega)
 refine enter (n := 23) Tryz.func136 rfl rfl rfl [(0, .v (.int .i64 n))] rfl ?_
 refine run_seq ?_
 refine run_region ?_
 refine seg 1 [(0, .v (.int .i64 n)), (2, .v (.string (ByteArray.mk #[])))] [] (by decide) (by kernel_rfl) ownOk_nil trivial ?_
 refine runI_end rfl ?_
 refine at_then ?_
 refine run_seq ?_
 refine run_region ?_
 refine seg 1 [(0, .v (.int .i64 n)), (2, .v (.string (ByteArray.mk #[]))), (3, .v (.slice none 0 0))] [] (by decide) (by kernel_rfl) ownOk_nil trivial ?_
 refine runI_end rfl ?_
 refine at_then ?_
 refine run_seq ?_
 refine run_seq ?_
 refine run_region ?_
 refine seg 1 [(0, .v (.int .i64 n)), (2, .v (.string (ByteArray.mk #[]))), (3, .v (.slice none 0 0)), (4, .v (.int .i64 56))] [] (by decide) (by kernel_rfl) ownOk_nil trivial ?_
 refine runI_end rfl ?_
 refine at_then ?_
 refine run_block ?_
 refine run_loop (σ := Option Addr × Nat × Nat × Int × Nat × List UInt8) (fun ⟨A, m, c, k, f, xs⟩ => f) (fun ⟨A, m, c, k, f, xs⟩ => [(0, .v (.int .i64 n)), (2, .v (.string (ByteArray.mk #[]))), (3, .v (.slice A m c)), (4, .v (.int .i64 k))]) (fun _ => [])
  (fun ⟨A, m, c, k, f, xs⟩ wv => (OwnOk wv [] ∧ Below w.heap.size w wv) ∧ Own1 wv w.heap.size 5 1 A m c (bytesV xs) ∧ f ≤ 8 ∧ k = 8 * (f : Int) - 8 ∧ xs.length = 8 - f ∧ m = xs.length ∧ valB xs = n.toNat / 2 ^ (8 * f)) ((none, 0, 0, 56, 8, [])) ?_ (by kernel_rfl) rfl ?_
 ·refine ⟨⟨ownOk_nil, (Below.refl w.heap.size w)⟩, ?_⟩; exact ⟨Own1.nil w w.heap.size 5 1, by omega, by omega, rfl, rfl, hz.symm⟩
 rintro ⟨A, m, c, k, f, xs⟩ w1 ⟨⟨hO2, hB3⟩, ⟨hR, hf, hk, hx, hm, hv⟩⟩
 refine run_seq ?_
 refine run_seq ?_
 refine run_region ?_
 refine seg 6 [(0, .v (.int .i64 n)), (2, .v (.string (ByteArray.mk #[]))), (3, .v (.slice A m c)), (4, .v (.int .i64 k)), (10, .v (.bool ((decide ((k : Int) ≥ 0)) && (decide ((n : Int) > 0)))))] [] (by decide) (by kernel_rfl) ownOk_nil trivial ?_
 refine runI_end rfl ?_
 refine at_then ?_
 refine run_cond ((decide ((k : Int) ≥ 0)) && (decide ((n : Int) > 0))) (by kernel_rfl) (fun hc4 => ?_) (fun hc4 => ?_)
 ·(try simp only [blS] at hc4)
  refine run_skip ?_
  refine at_then ?_
  refine run_seq ?_
  refine run_block ?_
  refine run_region ?_
  refine seg 5 [(0, .v (.int .i64 n)), (2, .v (.string (ByteArray.mk #[]))), (3, .v (.slice A m c)), (4, .v (.int .i64 k)), (13, .v (.slice A m c)), (17, .v (.int .u8 (IntKind.wrap .u8 (Int.fdiv n (2 ^ min (k : Int).toNat 64)))))] [(0 : Int) ≤ k] (by decide) (by kernel_rfl) ownOk_nil (show (0 : Int) ≤ k from (by intros; first | omega | decide | (simp only [zq0] at *; omega))) ?_
  refine runI_of rfl ?_
  refine bslK (t := 18) (e := 5) (len := 1) (cells := #[.int .u8 (IntKind.wrap .u8 (Int.fdiv n (2 ^ min (k : Int).toNat 64)))]) (by kernel_rfl) ?_
  intro b5 w6 hb7 hN8 hX9
  have hB11 : Below w.heap.size w w6 := below_ext hB3 hX9
  have own_12 := Own1.below hR hX9
  refine runI_of rfl ?_
  refine appK (t := 19) (e := 5) (sz := 1) (bytes := 1) (A := A) (A2 := some ⟨b5, 0, none⟩) (n := m) (c := c) (m := 1) (c2 := 1) (B := w.heap.size) (xs := bytesV xs) (news := [.int .u8 (IntKind.wrap .u8 (Int.fdiv n (2 ^ min (k : Int).toNat 64)))]) (by kernel_rfl) own_12 (Row.of_blk (n := 1) (sz := 1) hN8 rfl) (by intro u hu; simp only [List.mem_cons, List.not_mem_nil, or_false] at hu; rcases hu with rfl <;> rfl) ?_ ?_ ?_ (by intro h; first | rfl | cases h) ?_
  ·(unfold maxLen; omega)
  ·omega
  ·exact (hB11).size
  intro A13 c14 w15 hR16 hG17 hA18
  have hB20 : Below w.heap.size w w15 := below_grown hB11 hG17 own_12 (Nat.le_refl _)
  refine seg 8 [(0, .v (.int .i64 n)), (2, .v (.string (ByteArray.mk #[]))), (3, .v (.slice A13 (m + 1) c14)), (4, .v (.int .i64 k))] [] (by decide) (by kernel_rfl) ownOk_nil trivial ?_
  refine runI_end rfl ?_
  refine at_block ?_
  refine at_then ?_
  refine run_region ?_
  refine seg 3 [(0, .v (.int .i64 n)), (2, .v (.string (ByteArray.mk #[]))), (3, .v (.slice A13 (m + 1) c14)), (4, .v (.int .i64 (k - 8)))] [inR (k - 8)] (by decide) (by kernel_rfl) ownOk_nil (show inR (k - 8) from (by intros; first | omega | decide | (simp only [zq0] at *; omega))) ?_
  refine runI_end rfl ?_
  refine at_round ((A13, m + 1, c14, k - 8, f - 1, xs ++ [u8 (Int.fdiv n (2 ^ min k.toNat 64))])) ?_ ?_ (by kernel_rfl) rfl
  ·exact (by dsimp only; omega)
  ·obtain ⟨f, rfl⟩ : ∃ f', f = f' + 1 := ⟨f - 1, by omega⟩
   obtain rfl : k = 8 * (f : Int) := by omega
   refine ⟨⟨ownOk_nil, hB20⟩, Own1.cast hR16 rfl (bytesV_snoc xs _), by omega, by omega, by simp; omega, by simp; omega, ?_⟩
   rw [valB_snoc, hv, ofShift h0 (by omega)]
   exact (pow8_step n.toNat f).symm
 ·(try simp only [blS] at hc4)
  refine run_exit ?_
  refine at_then_exit ?_
  refine at_then_exit ?_
  refine at_block_exit ?_
  refine at_then ?_
  refine run_seq ?_
  refine run_region ?_
  refine seg 1 [(2, .v (.string (ByteArray.mk #[]))), (20, .v (.slice A m c))] [] (by decide) (by kernel_rfl) ownOk_nil trivial ?_
  refine runI_of rfl ?_
  refine cvXK (t := 21) (p := []) (s := 41) (d := 121) (x := .slice A m c) (.string (ByteArray.mk (List.toArray xs))) (by kernel_rfl) (Row.str (Row.cast (Own1.row hR) rfl) Tryz.underlying41 Tryz.underlying5 Tryz.underlying121) ?_
  refine callV (dst := (some 22)) (p := []) (f := 138) (args := #[.string (ByteArray.mk (List.toArray xs))]) (.string (S (nb (valB xs)))) (fun wv => w1 = wv) (by kernel_rfl) (canon_any xs _ (by first | assumption | omega | (unfold maxLen; omega))) (fun _ => rfl) ?_
  rintro _ rfl
  refine seg 4 [(2, .v (.string (S (nb (valB xs)))))] [] (by decide) (by kernel_rfl) ownOk_nil trivial ?_
  refine runI_end rfl ?_
  refine at_then ?_
  refine run_ret ?_
  refine at_ret (.string (S (nb (valB xs)))) (by kernel_rfl) ownOk_nil ?_
  refine ⟨?_, hB3⟩
  have : valB xs = n.toNat := by
   have := hc4
   try simp only [blS] at this
   rcases Nat.eq_zero_or_pos f with rfl | hf0
   ·rw [hv]; simp
   ·obtain rfl : n = 0 := by omega
    rw [hv]; simp
  show Ending.returned (.string (S (nb (valB xs)))) = _
  rw [this]
theorem int_any (n : Nat) (w : World) (h : n < 2 ^ 63) :
  Calls Tryz.prog 147 #[.string (S (nb n))] w fun e w' => e = .returned (.tuple #[.int .i64 (n : Int), .bool true]) ∧ w = w' := by
 have hl : (nb n).length ≤ 8 := nb_len (by omega)
 have hh := nb_head (n := n) h
 refine enter (n := 35) Tryz.func147 rfl rfl rfl [(0, .v (.string (S (nb n))))] rfl ?_
 refine run_seq ?_
 refine run_region ?_
 refine seg 2 [(0, .v (.string (S (nb n)))), (2, .v (.int .i64 0)), (3, .v (.bool false))] [] (by decide) (by kernel_rfl) ownOk_nil trivial ?_
 refine runI_end rfl ?_
 refine at_then ?_
 refine run_seq ?_
 refine run_region ?_
 refine seg 1 [(0, .v (.string (S (nb n)))), (2, .v (.int .i64 0)), (3, .v (.bool false)), (6, .v (.string (S (nb n))))] [] (by decide) (by kernel_rfl) ownOk_nil trivial ?_
 refine callV (dst := (some 7)) (p := []) (f := 138) (args := #[.string (S (nb n))]) (.string (S (nb n))) (fun wv => w = wv) (by kernel_rfl) (canonNb_any n _ (by first | assumption | omega | (unfold maxLen; omega))) (fun _ => rfl) ?_
 rintro _ rfl
 refine seg 3 [(0, .v (.string (S (nb n)))), (2, .v (.int .i64 0)), (3, .v (.bool false))] [] (by decide) (by kernel_rfl) ownOk_nil trivial ?_
 refine runI_end rfl ?_
 refine at_then ?_
 refine run_seq ?_
 refine run_seq ?_
 refine run_region ?_
 refine seg 13 [(0, .v (.string (S (nb n)))), (2, .v (.int .i64 0)), (3, .v (.bool false)), (20, .v (.bool ((decide ((((S (nb n)).size : Int) : Int) > 8)) || ((decide ((((S (nb n)).size : Int) : Int) = 8)) && (decide ((byteAt (S (nb n)) 0 : Int) > 127))))))] [(decide ((((S (nb n)).size : Int) : Int) = 8)) = true → (decide ((((S (nb n)).size : Int) : Int) > 8)) = false → (0 : Int) ≤ 0 ∧ 0 < ((S (nb n)).size : Int)] (by decide) (by kernel_rfl) ownOk_nil (show (decide ((((S (nb n)).size : Int) : Int) = 8)) = true → (decide ((((S (nb n)).size : Int) : Int) > 8)) = false → (0 : Int) ≤ 0 ∧ 0 < ((S (nb n)).size : Int) from (by intros; first | omega | (simp only [zq1] at *; omega) | exact intR (l := nb n) (by rw [valB_nb]; exact h) hv (by omega))) ?_
 refine runI_end rfl ?_
 refine at_then ?_
 refine run_cond ((decide ((((S (nb n)).size : Int) : Int) > 8)) || ((decide ((((S (nb n)).size : Int) : Int) = 8)) && (decide ((byteAt (S (nb n)) 0 : Int) > 127)))) (by kernel_rfl) (fun hc1 => ?_) (fun hc1 => ?_)
 ·(try simp only [zq2] at hc1)
  exact absurd hc1 (by have := hh; intro hx; simp only [Int.toNat_zero, gt_iff_lt] at hx; omega)
 ·(try simp only [zq2] at hc1)
  refine run_skip ?_
  refine at_then ?_
  refine run_seq ?_
  refine run_region ?_
  refine seg 1 [(0, .v (.string (S (nb n)))), (2, .v (.int .i64 0)), (3, .v (.bool false)), (4, .v (.int .i64 0))] [] (by decide) (by kernel_rfl) ownOk_nil trivial ?_
  refine runI_end rfl ?_
  refine at_then ?_
  refine run_seq ?_
  refine run_seq ?_
  refine run_region ?_
  refine seg 1 [(0, .v (.string (S (nb n)))), (2, .v (.int .i64 0)), (3, .v (.bool false)), (4, .v (.int .i64 0)), (5, .v (.int .i64 0))] [] (by decide) (by kernel_rfl) ownOk_nil trivial ?_
  refine runI_end rfl ?_
  refine at_then ?_
  refine run_block ?_
  refine run_loop (σ := Int × Nat) (fun ⟨x, k⟩ => (nb n).length - k) (fun ⟨x, k⟩ => [(0, .v (.string (S (nb n)))), (2, .v (.int .i64 0)), (3, .v (.bool false)), (4, .v (.int .i64 x)), (5, .v (.int .i64 (k : Int)))]) (fun _ => [])
   (fun ⟨x, k⟩ wv => (w = wv) ∧ k ≤ (nb n).length ∧ x = (valB ((nb n).take k) : Int)) ((0, 0)) ?_ (by kernel_rfl) rfl ?_
  ·refine ⟨rfl, ?_⟩; exact ⟨Nat.zero_le _, rfl⟩
  rintro ⟨x, k⟩ wv ⟨rfl, ⟨hk, hv⟩⟩
  refine run_seq ?_
  refine run_seq ?_
  refine run_region ?_
  refine seg 4 [(0, .v (.string (S (nb n)))), (2, .v (.int .i64 0)), (3, .v (.bool false)), (4, .v (.int .i64 x)), (5, .v (.int .i64 (k : Int))), (24, .v (.bool (decide (((k : Int) : Int) < ((S (nb n)).size : Int)))))] [] (by decide) (by kernel_rfl) ownOk_nil trivial ?_
  refine runI_end rfl ?_
  refine at_then ?_
  refine run_cond (decide (((k : Int) : Int) < ((S (nb n)).size : Int))) (by kernel_rfl) (fun hc3 => ?_) (fun hc3 => ?_)
  ·(try simp only [zq2] at hc3)
   refine run_skip ?_
   refine at_then ?_
   refine run_seq ?_
   refine run_block ?_
   refine run_region ?_
   refine seg 8 [(0, .v (.string (S (nb n)))), (2, .v (.int .i64 0)), (3, .v (.bool false)), (4, .v (.int .i64 ((IntKind.wrap .i64 (x * 2 ^ 8)) + (IntKind.wrap .i64 (byteAt (S (nb n)) (k : Int)))))), (5, .v (.int .i64 (k : Int)))] [(0 : Int) ≤ (k : Int) ∧ (k : Int) < ((S (nb n)).size : Int), inR ((IntKind.wrap .i64 (x * 2 ^ 8)) + (IntKind.wrap .i64 (byteAt (S (nb n)) (k : Int))))] (by decide) (by kernel_rfl) ownOk_nil (show ((0 : Int) ≤ (k : Int) ∧ (k : Int) < ((S (nb n)).size : Int)) ∧ (inR ((IntKind.wrap .i64 (x * 2 ^ 8)) + (IntKind.wrap .i64 (byteAt (S (nb n)) (k : Int))))) from ⟨(by intros; first | omega | (simp only [zq1] at *; omega) | exact intR (l := nb n) (by rw [valB_nb]; exact h) hv (by omega)), (by intros; first | omega | (simp only [zq1] at *; omega) | exact intR (l := nb n) (by rw [valB_nb]; exact h) hv (by omega))⟩) ?_
   refine runI_end rfl ?_
   refine at_block ?_
   refine at_then ?_
   refine run_region ?_
   refine seg 3 [(0, .v (.string (S (nb n)))), (2, .v (.int .i64 0)), (3, .v (.bool false)), (4, .v (.int .i64 ((IntKind.wrap .i64 (x * 2 ^ 8)) + (IntKind.wrap .i64 (byteAt (S (nb n)) (k : Int)))))), (5, .v (.int .i64 ((k : Int) + 1)))] [inR ((k : Int) + 1)] (by decide) (by kernel_rfl) ownOk_nil (show inR ((k : Int) + 1) from (by intros; first | omega | (simp only [zq1] at *; omega) | exact intR (l := nb n) (by rw [valB_nb]; exact h) hv (by omega))) ?_
   refine runI_end rfl ?_
   refine at_round (((IntKind.wrap .i64 (x * 2 ^ 8)) + (IntKind.wrap .i64 (byteAt (S (nb n)) (k : Int))), k + 1)) ?_ ?_ (by kernel_rfl) rfl
   ·exact (by first | omega | (dsimp only; omega))
   ·refine ⟨rfl, by omega, ?_⟩
    exact intStep (l := nb n) (by rw [valB_nb]; exact h) hv (by omega)
  ·(try simp only [zq2] at hc3)
   refine run_exit ?_
   refine at_then_exit ?_
   refine at_then_exit ?_
   refine at_block_exit ?_
   refine at_then ?_
   refine run_seq ?_
   refine run_region ?_
   refine seg 3 [(2, .v (.int .i64 x)), (3, .v (.bool true))] [] (by decide) (by kernel_rfl) ownOk_nil trivial ?_
   refine runI_end rfl ?_
   refine at_then ?_
   refine run_ret ?_
   refine at_ret (.tuple #[.int .i64 x, .bool true]) (by kernel_rfl) ownOk_nil ?_
   refine ⟨?_, rfl⟩
   have : k = (nb n).length := by omega
   rw [hv, this, List.take_length, valB_nb]
def zq3 := And.intro @S_size (@blS)
theorem small_any (n : Nat) (k : Nat) (w : World) (h : n < 2 ^ 63) (hk : n < 256 ^ k) :
  Calls Tryz.prog 139 #[.string (S (nb n)), .int .i64 (k : Int)] w fun e w' => e = .returned (.tuple #[.int .i64 (n : Int), .bool true]) ∧ w = w' := by
 have hl : (nb n).length ≤ k := nb_len hk
 have hl8 : (nb n).length ≤ 8 := nb_len (by omega)
 refine enter (n := 15) Tryz.func139 rfl rfl rfl [(0, .v (.string (S (nb n)))), (1, .v (.int .i64 (k : Int)))] rfl ?_
 refine run_seq ?_
 refine run_region ?_
 refine seg 2 [(0, .v (.string (S (nb n)))), (1, .v (.int .i64 (k : Int))), (4, .v (.int .i64 0)), (5, .v (.bool false))] [] (by decide) (by kernel_rfl) ownOk_nil trivial ?_
 refine runI_end rfl ?_
 refine at_then ?_
 refine run_seq ?_
 refine run_seq ?_
 refine run_region ?_
 refine seg 1 [(0, .v (.string (S (nb n)))), (1, .v (.int .i64 (k : Int))), (4, .v (.int .i64 0)), (5, .v (.bool false)), (6, .v (.string (S (nb n))))] [] (by decide) (by kernel_rfl) ownOk_nil trivial ?_
 refine callV (dst := (some 7)) (p := []) (f := 138) (args := #[.string (S (nb n))]) (.string (S (nb n))) (fun wv => w = wv) (by kernel_rfl) (canonNb_any n _ (by first | assumption | omega | (unfold maxLen; omega))) (fun _ => rfl) ?_
 rintro _ rfl
 refine seg 5 [(0, .v (.string (S (nb n)))), (4, .v (.int .i64 0)), (5, .v (.bool false)), (10, .v (.bool (decide ((((S (nb n)).size : Int) : Int) > (k : Int)))))] [] (by decide) (by kernel_rfl) ownOk_nil trivial ?_
 refine runI_end rfl ?_
 refine at_then ?_
 refine run_cond (decide ((((S (nb n)).size : Int) : Int) > (k : Int))) (by kernel_rfl) (fun hc1 => ?_) (fun hc1 => ?_)
 ·(try simp only [zq3] at hc1)
  exfalso; omega
 ·(try simp only [zq3] at hc1)
  refine run_skip ?_
  refine at_then ?_
  refine run_seq ?_
  refine run_region ?_
  refine seg 1 [(4, .v (.int .i64 0)), (5, .v (.bool false)), (11, .v (.string (S (nb n))))] [] (by decide) (by kernel_rfl) ownOk_nil trivial ?_
  refine callV (dst := (some 12)) (p := []) (f := 147) (args := #[.string (S (nb n))]) (.tuple #[.int .i64 (n : Int), .bool true]) (fun wv => w = wv) (by kernel_rfl) (int_any n _ (by first | omega | assumption)) (fun _ => rfl) ?_
  rintro _ rfl
  refine seg 6 [(4, .v (.int .i64 (n : Int))), (5, .v (.bool true))] [] (by decide) (by kernel_rfl) ownOk_nil trivial ?_
  refine runI_end rfl ?_
  refine at_then ?_
  refine run_ret ?_
  refine at_ret (.tuple #[.int .i64 (n : Int), .bool true]) (by kernel_rfl) ownOk_nil ?_
  exact ⟨rfl, rfl⟩
theorem add_any (x y : Nat) (w : World) (hx : x < 256 ^ 7) (hy : y < 256 ^ 7) :
  Calls Tryz.prog 91 #[.string (S (nb x)), .string (S (nb y))] w fun e w' => e = .returned (.string (S (nb (x + y)))) ∧ Below w.heap.size w w' := by
 refine enter (n := 83) Tryz.func91 rfl rfl rfl [(0, .v (.string (S (nb x)))), (1, .v (.string (S (nb y))))] rfl ?_
 refine run_seq ?_
 refine run_region ?_
 refine seg 1 [(0, .v (.string (S (nb x)))), (1, .v (.string (S (nb y)))), (4, .v (.string (ByteArray.mk #[])))] [] (by decide) (by kernel_rfl) ownOk_nil trivial ?_
 refine runI_end rfl ?_
 refine at_then ?_
 refine run_seq ?_
 refine run_region ?_
 refine seg 1 [(0, .v (.string (S (nb x)))), (1, .v (.string (S (nb y)))), (4, .v (.string (ByteArray.mk #[]))), (16, .v (.string (S (nb x))))] [] (by decide) (by kernel_rfl) ownOk_nil trivial ?_
 refine callV (dst := (some 17)) (p := []) (f := 139) (args := #[.string (S (nb x)), .int .i64 7]) (.tuple #[.int .i64 (x : Int), .bool true]) (fun wv => w = wv) (by kernel_rfl) (small_any x 7 _ (by first | omega | assumption | decide) (by first | omega | assumption | decide)) (fun _ => rfl) ?_
 rintro _ rfl
 refine seg 7 [(0, .v (.string (S (nb x)))), (1, .v (.string (S (nb y)))), (4, .v (.string (ByteArray.mk #[]))), (5, .v (.int .i64 (x : Int))), (6, .v (.bool true))] [] (by decide) (by kernel_rfl) ownOk_nil trivial ?_
 refine runI_end rfl ?_
 refine at_then ?_
 refine run_seq ?_
 refine run_region ?_
 refine seg 1 [(0, .v (.string (S (nb x)))), (1, .v (.string (S (nb y)))), (4, .v (.string (ByteArray.mk #[]))), (5, .v (.int .i64 (x : Int))), (6, .v (.bool true)), (21, .v (.string (S (nb y))))] [] (by decide) (by kernel_rfl) ownOk_nil trivial ?_
 refine callV (dst := (some 22)) (p := []) (f := 139) (args := #[.string (S (nb y)), .int .i64 7]) (.tuple #[.int .i64 (y : Int), .bool true]) (fun wv => w = wv) (by kernel_rfl) (small_any y 7 _ (by first | omega | assumption | decide) (by first | omega | assumption | decide)) (fun _ => rfl) ?_
 rintro _ rfl
 refine seg 7 [(0, .v (.string (S (nb x)))), (1, .v (.string (S (nb y)))), (4, .v (.string (ByteArray.mk #[]))), (5, .v (.int .i64 (x : Int))), (6, .v (.bool true)), (7, .v (.int .i64 (y : Int))), (8, .v (.bool true))] [] (by decide) (by kernel_rfl) ownOk_nil trivial ?_
 refine runI_end rfl ?_
 refine at_then ?_
 refine run_seq ?_
 refine run_seq ?_
 refine run_region ?_
 refine seg 4 [(0, .v (.string (S (nb x)))), (1, .v (.string (S (nb y)))), (4, .v (.string (ByteArray.mk #[]))), (5, .v (.int .i64 (x : Int))), (7, .v (.int .i64 (y : Int))), (28, .v (.bool (true && true)))] [] (by decide) (by kernel_rfl) ownOk_nil trivial ?_
 refine runI_end rfl ?_
 refine at_then ?_
 refine run_cond (true && true) (by kernel_rfl) (fun _ => ?_) (fun h1 => absurd h1 (by decide))
 refine run_seq ?_
 refine run_region ?_
 refine seg 3 [(0, .v (.string (S (nb x)))), (1, .v (.string (S (nb y)))), (4, .v (.string (ByteArray.mk #[]))), (31, .v (.int .i64 ((x : Int) + (y : Int))))] [inR ((x : Int) + (y : Int))] (by decide) (by kernel_rfl) ownOk_nil (show inR ((x : Int) + (y : Int)) from (by intros; first | omega | decide | (simp only [zq0] at *; omega))) ?_
 refine callV (dst := (some 32)) (p := []) (f := 136) (args := #[.int .i64 ((x : Int) + (y : Int))]) (.string (S (nb ((x : Int) + (y : Int) : Int).toNat))) (fun wv => Below w.heap.size w wv) (by kernel_rfl) (of_any _ _ (by first | omega | assumption) (by first | omega | assumption)) (fun _ => Below.refl _ _) ?_
 intro w2 hX3
 have hB5 : Below w.heap.size w w2 := below_ext (Below.refl w.heap.size w) hX3
 refine seg 5 [(0, .v (.string (S (nb x)))), (1, .v (.string (S (nb y)))), (4, .v (.string (S (nb ((x : Int) + (y : Int) : Int).toNat))))] [] (by decide) (by kernel_rfl) ownOk_nil trivial ?_
 refine runI_end rfl ?_
 refine at_then ?_
 refine run_ret ?_
 refine at_then_ret ?_
 refine at_ret (.string (S (nb ((x : Int) + (y : Int) : Int).toNat))) (by kernel_rfl) ownOk_nil ?_
 refine ⟨?_, hB5⟩
 rfl
theorem quo_any (x y : Nat) (w : World) (hx : x < 256 ^ 7) (hy : y < 256 ^ 7) (h0 : 0 < y) :
  Calls Tryz.prog 89 #[.string (S (nb x)), .string (S (nb y))] w fun e w' => e = .returned (.tuple #[.string (S (nb (x / y))), .string (S (nb (x % y))), .bool true]) ∧ Below w.heap.size w w' := by
 have hl : (nb y).length ≤ 7 := nb_len hy
 have hz := nb_len_zero y
 obtain ⟨q, eq⟩ : ∃ q, q = x / y := ⟨_, rfl⟩
 obtain ⟨r, er⟩ : ∃ r, r = x % y := ⟨_, rfl⟩
 have hq : q ≤ x := by rw [eq]; exact Nat.div_le_self _ _
 have hr : r < y := by rw [er]; exact Nat.mod_lt _ h0
 have hd : Int.tdiv (x : Int) (y : Int) = (q : Int) := by rw [Int.tdiv_eq_ediv_of_nonneg (by omega), eq]; simp
 have hm : Int.tmod (x : Int) (y : Int) = (r : Int) := by rw [Int.tmod_eq_emod_of_nonneg (by omega), er]; simp
 refine enter (n := 87) Tryz.func89 rfl rfl rfl [(0, .v (.string (S (nb x)))), (1, .v (.string (S (nb y))))] rfl ?_
 refine run_seq ?_
 refine run_region ?_
 refine seg 3 [(0, .v (.string (S (nb x)))), (1, .v (.string (S (nb y)))), (4, .v (.string (ByteArray.mk #[]))), (5, .v (.string (ByteArray.mk #[]))), (6, .v (.bool false))] [] (by decide) (by kernel_rfl) ownOk_nil trivial ?_
 refine runI_end rfl ?_
 refine at_then ?_
 refine run_seq ?_
 refine run_region ?_
 refine seg 1 [(0, .v (.string (S (nb x)))), (1, .v (.string (S (nb y)))), (4, .v (.string (ByteArray.mk #[]))), (5, .v (.string (ByteArray.mk #[]))), (6, .v (.bool false)), (16, .v (.string (S (nb y))))] [] (by decide) (by kernel_rfl) ownOk_nil trivial ?_
 refine callV (dst := (some 17)) (p := []) (f := 138) (args := #[.string (S (nb y))]) (.string (S (nb y))) (fun wv => w = wv) (by kernel_rfl) (canonNb_any y _ (by first | assumption | omega | (unfold maxLen; omega))) (fun _ => rfl) ?_
 rintro _ rfl
 refine seg 3 [(0, .v (.string (S (nb x)))), (1, .v (.string (S (nb y)))), (4, .v (.string (ByteArray.mk #[]))), (5, .v (.string (ByteArray.mk #[]))), (6, .v (.bool false))] [] (by decide) (by kernel_rfl) ownOk_nil trivial ?_
 refine runI_end rfl ?_
 refine at_then ?_
 refine run_seq ?_
 refine run_seq ?_
 refine run_region ?_
 refine seg 3 [(0, .v (.string (S (nb x)))), (1, .v (.string (S (nb y)))), (4, .v (.string (ByteArray.mk #[]))), (5, .v (.string (ByteArray.mk #[]))), (6, .v (.bool false)), (20, .v (.bool (decide ((((S (nb y)).size : Int) : Int) = 0))))] [] (by decide) (by kernel_rfl) ownOk_nil trivial ?_
 refine runI_end rfl ?_
 refine at_then ?_
 refine run_cond (decide ((((S (nb y)).size : Int) : Int) = 0)) (by kernel_rfl) (fun hc1 => ?_) (fun hc1 => ?_)
 ·(try simp only [zq3] at hc1)
  exfalso; omega
 ·(try simp only [zq3] at hc1)
  refine run_skip ?_
  refine at_then ?_
  refine run_seq ?_
  refine run_region ?_
  refine seg 1 [(0, .v (.string (S (nb x)))), (1, .v (.string (S (nb y)))), (4, .v (.string (ByteArray.mk #[]))), (5, .v (.string (ByteArray.mk #[]))), (6, .v (.bool false)), (22, .v (.string (S (nb x))))] [] (by decide) (by kernel_rfl) ownOk_nil trivial ?_
  refine callV (dst := (some 23)) (p := []) (f := 139) (args := #[.string (S (nb x)), .int .i64 7]) (.tuple #[.int .i64 (x : Int), .bool true]) (fun wv => w = wv) (by kernel_rfl) (small_any x 7 _ (by first | omega | assumption | decide) (by first | omega | assumption | decide)) (fun _ => rfl) ?_
  rintro _ rfl
  refine seg 7 [(0, .v (.string (S (nb x)))), (1, .v (.string (S (nb y)))), (4, .v (.string (ByteArray.mk #[]))), (5, .v (.string (ByteArray.mk #[]))), (6, .v (.bool false)), (7, .v (.int .i64 (x : Int))), (8, .v (.bool true))] [] (by decide) (by kernel_rfl) ownOk_nil trivial ?_
  refine runI_end rfl ?_
  refine at_then ?_
  refine run_seq ?_
  refine run_region ?_
  refine seg 1 [(0, .v (.string (S (nb x)))), (1, .v (.string (S (nb y)))), (4, .v (.string (ByteArray.mk #[]))), (5, .v (.string (ByteArray.mk #[]))), (6, .v (.bool false)), (7, .v (.int .i64 (x : Int))), (8, .v (.bool true)), (27, .v (.string (S (nb y))))] [] (by decide) (by kernel_rfl) ownOk_nil trivial ?_
  refine callV (dst := (some 28)) (p := []) (f := 139) (args := #[.string (S (nb y)), .int .i64 7]) (.tuple #[.int .i64 (y : Int), .bool true]) (fun wv => w = wv) (by kernel_rfl) (small_any y 7 _ (by first | omega | assumption | decide) (by first | omega | assumption | decide)) (fun _ => rfl) ?_
  rintro _ rfl
  refine seg 7 [(0, .v (.string (S (nb x)))), (1, .v (.string (S (nb y)))), (4, .v (.string (ByteArray.mk #[]))), (5, .v (.string (ByteArray.mk #[]))), (6, .v (.bool false)), (7, .v (.int .i64 (x : Int))), (8, .v (.bool true)), (9, .v (.int .i64 (y : Int))), (10, .v (.bool true))] [] (by decide) (by kernel_rfl) ownOk_nil trivial ?_
  refine runI_end rfl ?_
  refine at_then ?_
  refine run_seq ?_
  refine run_seq ?_
  refine run_region ?_
  refine seg 4 [(0, .v (.string (S (nb x)))), (1, .v (.string (S (nb y)))), (4, .v (.string (ByteArray.mk #[]))), (5, .v (.string (ByteArray.mk #[]))), (6, .v (.bool false)), (7, .v (.int .i64 (x : Int))), (9, .v (.int .i64 (y : Int))), (34, .v (.bool (true && true)))] [] (by decide) (by kernel_rfl) ownOk_nil trivial ?_
  refine runI_end rfl ?_
  refine at_then ?_
  refine run_cond (true && true) (by kernel_rfl) (fun _ => ?_) (fun h2 => absurd h2 (by decide))
  refine run_seq ?_
  refine run_drawn (fun wx => OwnOk wx [] ∧ Below w.heap.size w wx) (by kernel_rfl) ownOk_nil ?_
  intro w3 hX4 hO5
  have hS6 : OwnOk w3 [] ∧ Below w.heap.size w w3 := ⟨hO5, hX4⟩
  have hB7 : Below w.heap.size w w3 := below_ext (Below.refl w.heap.size w) hX4
  refine segD (is := []) (fuel := 5) [0, 1, 2, 4, 5, 6] [⟨0, [], .v (.string (S (nb x)))⟩, ⟨1, [], .v (.string (S (nb y)))⟩, ⟨4, [], .v (.string (ByteArray.mk #[]))⟩, ⟨5, [], .v (.string (ByteArray.mk #[]))⟩, ⟨6, [], .v (.bool false)⟩, ⟨37, [], .v (.int .i64 (Int.tdiv (x : Int) (y : Int)))⟩, ⟨41, [], .v (.int .i64 (Int.tmod (x : Int) (y : Int)))⟩] [(y : Int) ≠ (0 : Int) ∧ inR (Int.tdiv (x : Int) (y : Int)), (y : Int) ≠ (0 : Int)] (by decide) (by kernel_rfl) (fun _ h => h.1) hS6 (show ((y : Int) ≠ (0 : Int) ∧ inR (Int.tdiv (x : Int) (y : Int))) ∧ ((y : Int) ≠ (0 : Int)) from ⟨(by intros; first | omega | decide | (rw [hd]; unfold inR; omega) | (simp only [zq0] at *; omega)), (by intros; first | omega | decide | (rw [hd]; unfold inR; omega) | (simp only [zq0] at *; omega))⟩) ?_
  refine effD (is := [0, 1, 2, 4, 5, 6]) (fuel := 4) 3 rfl (by kernel_rfl) ?_
  refine callVK (dst := (some 38)) (p := []) (f := 136) (args := #[.int .i64 (Int.tdiv (x : Int) (y : Int))]) (.string (S (nb (Int.tdiv (x : Int) (y : Int) : Int).toNat))) (fun wv => Below w3.heap.size w3 wv) (by kernel_rfl) (of_any _ _ (by first | omega | assumption) (by first | omega | assumption)) (fun _ => Below.refl _ _) ?_
  intro w8 hX9
  have hS10 : OwnOk w8 [] ∧ Below w.heap.size w w8 := ⟨OwnOk.ext hS6.1 hX9, below_ext hS6.2 hX9⟩
  have hB11 : Below w.heap.size w w8 := below_ext hB7 hX9
  refine nextD (fun _ => hS10) ?_
  refine effD (is := [0, 1, 2, 4, 5, 6, 3]) (fuel := 3) 7 rfl (by kernel_rfl) ?_
  refine callVK (dst := (some 42)) (p := []) (f := 136) (args := #[.int .i64 (Int.tmod (x : Int) (y : Int))]) (.string (S (nb (Int.tmod (x : Int) (y : Int) : Int).toNat))) (fun wv => Below w8.heap.size w8 wv) (by kernel_rfl) (of_any _ _ (by first | omega | assumption) (by first | omega | assumption)) (fun _ => Below.refl _ _) ?_
  intro w12 hX13
  have hS14 : OwnOk w12 [] ∧ Below w.heap.size w w12 := ⟨OwnOk.ext hS10.1 hX13, below_ext hS10.2 hX13⟩
  have hB15 : Below w.heap.size w w12 := below_ext hB11 hX13
  refine nextD (fun _ => hS14) ?_
  refine segD (is := [0, 1, 2, 4, 5, 6, 3, 7]) (fuel := 0) [8, 9, 10] [⟨0, [], .v (.string (S (nb x)))⟩, ⟨1, [], .v (.string (S (nb y)))⟩, ⟨4, [], .v (.string (S (nb (Int.tdiv (x : Int) (y : Int) : Int).toNat)))⟩, ⟨5, [], .v (.string (S (nb (Int.tmod (x : Int) (y : Int) : Int).toNat)))⟩, ⟨6, [], .v (.bool true)⟩] [] (by decide) (by kernel_rfl) (fun _ h => h.1) hS14 trivial ?_
  refine endD (by kernel_rfl) ?_
  refine at_then ?_
  refine run_ret ?_
  refine at_then_ret ?_
  refine at_ret (.tuple #[.string (S (nb (Int.tdiv (x : Int) (y : Int) : Int).toNat)), .string (S (nb (Int.tmod (x : Int) (y : Int) : Int).toNat)), .bool true]) (by kernel_rfl) hS14.1 ?_
  refine ⟨?_, hB15⟩
  rw [hd, hm, ← eq, ← er]; rfl
end Go.Proofs.YtmpgfchkkemngaaGreatDoor
namespace Go.Proofs.YtmpgfchkkemngaaGreatDoor
open Go.RowKit Go.Eng
def fitL : Nat → Nat → Nat × Nat
 | m, 0 => (m, 0)
 | m, s + 1 => if m % 10 = 0 then fitL (m / 10) s else (m, s + 1)
theorem fitL_odd : ∀ (s m : Nat), (fitL m s).2 = 0 ∨ (fitL m s).1 % 10 ≠ 0
 | 0, m => by simp [fitL]
 | s + 1, m => by
  rw [fitL]
  split
  ·exact fitL_odd s (m / 10)
  ·rename_i h; exact .inr h
theorem fitL_step {m : Nat} {s : Int} (h : s > 0) (hm : m % 10 = 0) : fitL m s.toNat = fitL (m / 10) (s - 1).toNat := by
 obtain ⟨k, rfl⟩ : ∃ k : Nat, s = (k : Int) + 1 := ⟨(s - 1).toNat, by omega⟩
 have h1 : ((k : Int) + 1).toNat = k + 1 := by omega
 have h2 : ((k : Int) + 1 - 1).toNat = k := by omega
 rw [h1, h2, fitL, if_pos hm]
theorem fitL_stop {m : Nat} {s : Int} (h0 : 0 ≤ s) (h : s = 0 ∨ m % 10 ≠ 0) : fitL m s.toNat = (m, s.toNat) := by
 rcases h with rfl | h
 ·rfl
 ·rcases Nat.eq_zero_or_pos s.toNat with hz | hp
  ·rw [hz]; rfl
  ·obtain ⟨k, hk⟩ : ∃ k, s.toNat = k + 1 := ⟨s.toNat - 1, by omega⟩
   rw [hk, fitL, if_neg h]
def fitB (m : Nat) (s : Int) : Bool := decide ((fitL m s.toNat).1 ≤ 1000000000000000 ∧ (fitL m s.toNat).2 ≤ 6)
def fitN (neg : Bool) (m : Nat) (s : Int) : Int := if fitB m s then (if neg then -((fitL m s.toNat).1 : Int) else ((fitL m s.toNat).1 : Int)) else 0
def fitS (m : Nat) (s : Int) : Int := if fitB m s then ((fitL m s.toNat).2 : Int) else 0
theorem wrap_neg {m : Nat} (h : m ≤ 1000000000000000) : IntKind.wrap .i64 (0 - (m : Int)) = -(m : Int) := by
 rw [wrap64 (by unfold inR; omega)]; omega
def natD (n : Nat) : List UInt8 := if h : n = 0 then [] else natD (n / 10) ++ [u8 (48 + ((n % 10 : Nat) : Int))]
termination_by n
decreasing_by exact Nat.div_lt_self (Nat.pos_of_ne_zero h) (by decide)
theorem natD_zero : natD 0 = [] := by rw [natD]; simp
theorem natD_pos {n : Nat} (h : n ≠ 0) : natD n = natD (n / 10) ++ [u8 (48 + ((n % 10 : Nat) : Int))] := by rw [natD]; simp [h]
theorem natD_len {n k : Nat} (h : n < 10 ^ k) : (natD n).length ≤ k := by
 induction k generalizing n with
 | zero => simp at h; subst h; rw [natD_zero]; simp
 | succ k ih =>
  by_cases hn : n = 0
  ·subst hn; rw [natD_zero]; simp
  ·rw [natD_pos hn]; simp
   refine ih ?_
   rw [Nat.pow_succ] at h
   exact Nat.div_lt_of_lt_mul (by rw [Nat.mul_comm]; exact h)
def natT (n : Nat) : List UInt8 := if n = 0 then [48] else natD n
theorem natT_len {n k : Nat} (h : n < 10 ^ k) (hk : 1 ≤ k) : (natT n).length ≤ k := by
 unfold natT; split
 ·simpa using hk
 ·exact natD_len h
theorem natT_pos (n : Nat) : 1 ≤ (natT n).length := by
 unfold natT; split
 ·simp
 ·rename_i h; rw [natD_pos h]; simp
def decT (n s : Int) : List UInt8 :=
 (if n < 0 then [45] else []) ++ natT (n.natAbs / 10 ^ s.toNat) ++ (if s > 0 then [46] ++ (natT (10 ^ s.toNat + n.natAbs % 10 ^ s.toNat)).drop 1 else [])
theorem pow10_le {k : Nat} (h : k ≤ 6) : 1 ≤ 10 ^ k ∧ 10 ^ k ≤ 1000000 := ⟨Nat.one_le_pow _ _ (by decide), Nat.pow_le_pow_right (by decide) h⟩
theorem decB_bd {n s : Int} (h : decB n s = true) : 0 ≤ s ∧ s ≤ 6 ∧ -1000000000000000 ≤ n ∧ n ≤ 1000000000000000 ∧ (s = 0 ∨ n.tmod 10 ≠ 0) := by
 simp [decB] at h; omega
theorem natural_any (n : Int) (w : World) (h0 : -72000000000000000 ≤ n) (h1 : n ≤ 72000000000000000) :
  Calls Tryz.prog 135 #[.int .i64 n] w fun e w' => e = .returned (.string (S (nb n.natAbs))) ∧ Below w.heap.size w w' := by
 refine enter (n := 13) Tryz.func135 rfl rfl rfl [(0, .v (.int .i64 n))] rfl ?_
 refine run_seq ?_
 refine run_region ?_
 refine seg 1 [(0, .v (.int .i64 n)), (2, .v (.string (ByteArray.mk #[])))] [] (by decide) (by kernel_rfl) ownOk_nil trivial ?_
 refine runI_end rfl ?_
 refine at_then ?_
 refine run_seq ?_
 refine run_seq ?_
 refine run_region ?_
 refine seg 2 [(0, .v (.int .i64 n)), (2, .v (.string (ByteArray.mk #[]))), (4, .v (.bool (decide ((n : Int) ≥ 0))))] [] (by decide) (by kernel_rfl) ownOk_nil trivial ?_
 refine runI_end rfl ?_
 refine at_then ?_
 refine run_cond (decide ((n : Int) ≥ 0)) (by kernel_rfl) (fun hc1 => ?_) (fun hc1 => ?_)
 ·(try simp only [blS] at hc1)
  refine run_seq ?_
  refine run_region ?_
  refine seg 1 [(0, .v (.int .i64 n)), (2, .v (.string (ByteArray.mk #[]))), (5, .v (.int .i64 n))] [] (by decide) (by kernel_rfl) ownOk_nil trivial ?_
  refine callV (dst := (some 6)) (p := []) (f := 136) (args := #[.int .i64 n]) (.string (S (nb (n : Int).toNat))) (fun wv => Below w.heap.size w wv) (by kernel_rfl) (of_any n _ (by first | omega | (rw [wrap64 (by unfold inR; omega)]; omega)) (by first | omega | (rw [wrap64 (by unfold inR; omega)]; omega))) (fun _ => Below.refl _ _) ?_
  intro w2 hX3
  have hB5 : Below w.heap.size w w2 := below_ext (Below.refl w.heap.size w) hX3
  refine seg 3 [(0, .v (.int .i64 n)), (2, .v (.string (S (nb (n : Int).toNat))))] [] (by decide) (by kernel_rfl) ownOk_nil trivial ?_
  refine runI_end rfl ?_
  refine at_then ?_
  refine run_ret ?_
  refine at_then_ret ?_
  refine at_ret (.string (S (nb (n : Int).toNat))) (by kernel_rfl) ownOk_nil ?_
  refine ⟨?_, hB5⟩
  have : n.toNat = n.natAbs := by omega
  rw [this]
 ·(try simp only [blS] at hc1)
  refine run_skip ?_
  refine at_then ?_
  refine run_seq ?_
  refine run_region ?_
  refine seg 3 [(2, .v (.string (ByteArray.mk #[]))), (9, .v (.int .i64 (IntKind.wrap .i64 (0 - (n + 1)))))] [inR (n + 1)] (by decide) (by kernel_rfl) ownOk_nil (show inR (n + 1) from (by intros; first | omega | decide | (simp only [inR, S_size, blS] at *; omega))) ?_
  refine callV (dst := (some 10)) (p := []) (f := 136) (args := #[.int .i64 (IntKind.wrap .i64 (0 - (n + 1)))]) (.string (S (nb (IntKind.wrap .i64 (0 - (n + 1)) : Int).toNat))) (fun wv => Below w.heap.size w wv) (by kernel_rfl) (of_any (IntKind.wrap .i64 (0 - (n + 1))) _ (by first | omega | (rw [wrap64 (by unfold inR; omega)]; omega)) (by first | omega | (rw [wrap64 (by unfold inR; omega)]; omega))) (fun _ => Below.refl _ _) ?_
  intro w6 hX7
  have hB9 : Below w.heap.size w w6 := below_ext (Below.refl w.heap.size w) hX7
  refine callV (dst := (some 11)) (p := []) (f := 136) (args := #[.int .i64 1]) (.string (S (nb 1))) (fun wv => Below w6.heap.size w6 wv) (by kernel_rfl) (of_any 1 _ (by decide) (by decide)) (fun _ => Below.refl _ _) ?_
  intro w10 hX11
  have hB13 : Below w.heap.size w w10 := below_ext hB9 hX11
  refine callV (dst := (some 12)) (p := []) (f := 91) (args := #[.string (S (nb (IntKind.wrap .i64 (0 - (n + 1)) : Int).toNat)), .string (S (nb 1))]) (.string (S (nb ((IntKind.wrap .i64 (0 - (n + 1)) : Int).toNat + 1)))) (fun wv => Below w10.heap.size w10 wv) (by kernel_rfl) (add_any (IntKind.wrap .i64 (0 - (n + 1)) : Int).toNat 1 _ (by rw [wrap64 (by unfold inR; omega)]; omega) (by decide)) (fun _ => Below.refl _ _) ?_
  intro w14 hX15
  have hB17 : Below w.heap.size w w14 := below_ext hB13 hX15
  refine seg 7 [(2, .v (.string (S (nb ((IntKind.wrap .i64 (0 - (n + 1)) : Int).toNat + 1)))))] [] (by decide) (by kernel_rfl) ownOk_nil trivial ?_
  refine runI_end rfl ?_
  refine at_then ?_
  refine run_ret ?_
  refine at_ret (.string (S (nb ((IntKind.wrap .i64 (0 - (n + 1)) : Int).toNat + 1)))) (by kernel_rfl) ownOk_nil ?_
  refine ⟨?_, hB17⟩
  have hw : IntKind.wrap .i64 (0 - (n + 1)) = 0 - (n + 1) := wrap64 (by unfold inR; omega)
  have : (0 - (n + 1)).toNat + 1 = n.natAbs := by omega
  rw [hw, this]
theorem fit_any (neg : Bool) (m0 : Nat) (s0 : Int) (w : World) (h0 : m0 < 256 ^ 7) (h1 : 0 ≤ s0) (h2 : s0 ≤ 18) :
  Calls Tryz.prog 151 #[.agg #[.bool neg, .string (S (nb m0)), .int .i64 s0]] w fun e w' => e = .returned (.tuple #[.agg #[.int .i64 (fitN neg m0 s0), .int .i64 (fitS m0 s0)], .bool (fitB m0 s0)]) ∧ Below w.heap.size w w' := by
 refine enter (n := 55) Tryz.func151 rfl rfl rfl [(0, .v (.agg #[.bool neg, .string (S (nb m0)), .int .i64 s0]))] rfl ?_
 refine run_seq ?_
 refine run_region ?_
 refine newB (t := 1) (ty := 123) (cells := [.bool neg, .string (S (nb m0)), .int .i64 s0]) (by kernel_rfl) ownOk_nil ?_
 intro b1 w2 hb3 hO4 hB5
 have hB5' : Below w.heap.size w w2 := below_ext (Below.refl w.heap.size w) hB5
 have hb3' : w.heap.size ≤ b1 := Nat.le_trans ((Below.refl w.heap.size w)).size hb3
 refine newB (t := 2) (ty := 26) (cells := [.int .i64 0, .int .i64 0]) (by kernel_rfl) hO4 ?_
 intro b6 w7 hb8 hO9 hB10
 have hB10' : Below w.heap.size w w7 := below_ext hB5' hB10
 have hb8' : w.heap.size ≤ b6 := Nat.le_trans (hB5').size hb8
 refine seg 3 [(1, .box 0 0), (2, .box 1 0), (3, .v (.bool false))] [] (by decide) (by kernel_rfl) hO9 trivial ?_
 refine runI_end rfl ?_
 refine at_then ?_
 refine run_seq ?_
 refine run_block ?_
 refine run_loop (σ := Nat × Int) (fun ⟨m, s⟩ => s.toNat) (fun ⟨m, s⟩ => [(1, .box 0 0), (2, .box 1 0), (3, .v (.bool false))]) (fun ⟨m, s⟩ => [⟨b1, 123, [.bool neg, .string (S (nb m)), .int .i64 s]⟩, ⟨b6, 26, [.int .i64 0, .int .i64 0]⟩])
  (fun ⟨m, s⟩ wv => (OwnOk wv [⟨b1, 123, [.bool neg, .string (S (nb m)), .int .i64 s]⟩, ⟨b6, 26, [.int .i64 0, .int .i64 0]⟩] ∧ Below w.heap.size w wv) ∧ m < 256 ^ 7 ∧ 0 ≤ s ∧ s ≤ 18 ∧ fitL m s.toNat = fitL m0 s0.toNat) ((m0, s0)) ?_ (by kernel_rfl) rfl ?_
 ·refine ⟨⟨hO9, hB10'⟩, ?_⟩; exact ⟨h0, h1, h2, rfl⟩
 rintro ⟨m, s⟩ w11 ⟨⟨hO12, hB13⟩, ⟨hm, hs0, hs1, hf⟩⟩
 have hz := nb_len_zero (m % 10)
 refine run_seq ?_
 refine run_seq ?_
 refine run_region ?_
 refine seg 3 [(1, .box 0 0), (2, .box 1 0), (3, .v (.bool false)), (11, .v (.bool (decide ((s : Int) > 0))))] [] (by decide) (by kernel_rfl) hO12 trivial ?_
 refine runI_end rfl ?_
 refine at_then ?_
 refine run_cond (decide ((s : Int) > 0)) (by kernel_rfl) (fun hc14 => ?_) (fun hc14 => ?_)
 ·(try simp only [zq3, Bool.not_true, Bool.false_or] at hc14)
  refine run_skip ?_
  refine at_then ?_
  refine run_block ?_
  refine run_seq ?_
  refine run_drawn (fun wx => OwnOk wx [⟨b1, 123, [.bool neg, .string (S (nb m)), .int .i64 s]⟩, ⟨b6, 26, [.int .i64 0, .int .i64 0]⟩] ∧ Below w11.heap.size w11 wx) (by kernel_rfl) hO12 ?_
  intro w15 hX16 hO17
  have hS18 : OwnOk w15 [⟨b1, 123, [.bool neg, .string (S (nb m)), .int .i64 s]⟩, ⟨b6, 26, [.int .i64 0, .int .i64 0]⟩] ∧ Below w11.heap.size w11 w15 := ⟨hO17, hX16⟩
  have hB19 : Below w.heap.size w w15 := below_ext hB13 hX16
  refine segD (is := []) (fuel := 9) [0, 1] [⟨1, [], .box 0 0⟩, ⟨2, [], .box 1 0⟩, ⟨3, [], .v (.bool false)⟩, ⟨14, [], .v (.string (S (nb m)))⟩] [] (by decide) (by kernel_rfl) (fun _ h => h.1) hS18 trivial ?_
  refine effD (is := [0, 1]) (fuel := 8) 2 rfl (by kernel_rfl) ?_
  refine callVK (dst := (some 15)) (p := []) (f := 136) (args := #[.int .i64 10]) (.string (S (nb 10))) (fun wv => Below w15.heap.size w15 wv) (by kernel_rfl) (of_any 10 _ (by decide) (by decide)) (fun _ => Below.refl _ _) ?_
  intro w20 hX21
  have hS22 : OwnOk w20 [⟨b1, 123, [.bool neg, .string (S (nb m)), .int .i64 s]⟩, ⟨b6, 26, [.int .i64 0, .int .i64 0]⟩] ∧ Below w11.heap.size w11 w20 := ⟨OwnOk.ext hS18.1 hX21, below_ext hS18.2 hX21⟩
  have hB23 : Below w.heap.size w w20 := below_ext hB19 hX21
  refine nextD (fun _ => hS22) ?_
  refine effD (is := [0, 1, 2]) (fuel := 7) 3 rfl (by kernel_rfl) ?_
  refine callVK (dst := (some 16)) (p := []) (f := 89) (args := #[.string (S (nb m)), .string (S (nb 10))]) (.tuple #[.string (S (nb (m / 10))), .string (S (nb (m % 10))), .bool true]) (fun wv => Below w20.heap.size w20 wv) (by kernel_rfl) (quo_any m 10 _ (by first | omega | assumption | decide) (by first | omega | assumption | decide) (by first | omega | assumption | decide)) (fun _ => Below.refl _ _) ?_
  intro w24 hX25
  have hS26 : OwnOk w24 [⟨b1, 123, [.bool neg, .string (S (nb m)), .int .i64 s]⟩, ⟨b6, 26, [.int .i64 0, .int .i64 0]⟩] ∧ Below w11.heap.size w11 w24 := ⟨OwnOk.ext hS22.1 hX25, below_ext hS22.2 hX25⟩
  have hB27 : Below w.heap.size w w24 := below_ext hB23 hX25
  refine nextD (fun _ => hS26) ?_
  refine segD (is := [0, 1, 2, 3]) (fuel := 0) [4, 5, 6, 7, 8, 9, 10] [⟨1, [], .box 0 0⟩, ⟨2, [], .box 1 0⟩, ⟨3, [], .v (.bool false)⟩, ⟨4, [], .v (.string (S (nb (m / 10))))⟩, ⟨5, [], .v (.string (S (nb (m % 10))))⟩] [] (by decide) (by kernel_rfl) (fun _ h => h.1) hS26 trivial ?_
  refine endD (by kernel_rfl) ?_
  refine at_then ?_
  refine run_seq ?_
  refine run_seq ?_
  refine run_region ?_
  refine seg 3 [(1, .box 0 0), (2, .box 1 0), (3, .v (.bool false)), (4, .v (.string (S (nb (m / 10))))), (22, .v (.bool (decide ((((S (nb (m % 10))).size : Int) : Int) > 0))))] [] (by decide) (by kernel_rfl) hS26.1 trivial ?_
  refine runI_end rfl ?_
  refine at_then ?_
  refine run_cond (decide ((((S (nb (m % 10))).size : Int) : Int) > 0)) (by kernel_rfl) (fun hc28 => ?_) (fun hc28 => ?_)
  ·(try simp only [zq3, Bool.not_true, Bool.false_or] at hc28)
   refine run_exit ?_
   refine at_then_exit ?_
   refine at_block_out (by decide) ?_
   refine at_then_exit ?_
   refine at_block_exit ?_
   refine at_then ?_
   refine run_seq ?_
   refine run_region ?_
   refine seg 2 [(1, .box 0 0), (2, .box 1 0), (3, .v (.bool false)), (31, .v (.string (S (nb m))))] [] (by decide) (by kernel_rfl) hS26.1 trivial ?_
   refine callV (dst := (some 32)) (p := []) (f := 147) (args := #[.string (S (nb m))]) (.tuple #[.int .i64 (m : Int), .bool true]) (fun wv => w24 = wv) (by kernel_rfl) (int_any m _ (by first | omega | assumption)) (fun _ => rfl) ?_
   rintro _ rfl
   refine seg 8 [(1, .box 0 0), (2, .box 1 0), (3, .v (.bool false)), (7, .v (.int .i64 (m : Int))), (8, .v (.bool true))] [] (by decide) (by kernel_rfl) hS26.1 trivial ?_
   refine runI_end rfl ?_
   refine at_then ?_
   refine run_seq ?_
   refine run_seq ?_
   refine run_region ?_
   refine seg 11 [(1, .box 0 0), (2, .box 1 0), (3, .v (.bool false)), (7, .v (.int .i64 (m : Int))), (45, .v (.bool ((!true || (decide (((m : Int) : Int) > 1000000000000000))) || (decide ((s : Int) > 6)))))] [] (by decide) (by kernel_rfl) hS26.1 trivial ?_
   refine runI_end rfl ?_
   refine at_then ?_
   refine run_cond ((!true || (decide (((m : Int) : Int) > 1000000000000000))) || (decide ((s : Int) > 6))) (by kernel_rfl) (fun hc29 => ?_) (fun hc29 => ?_)
   ·(try simp only [zq3, Bool.not_true, Bool.false_or] at hc29)
    refine run_seq ?_
    refine run_region ?_
    refine seg 1 [(1, .box 0 0), (2, .box 1 0), (3, .v (.bool false)), (7, .v (.int .i64 (m : Int))), (46, .v (.agg #[.int .i64 0, .int .i64 0]))] [] (by decide) (by kernel_rfl) hS26.1 trivial ?_
    refine storeB (i := 1) (b := ⟨b6, 26, [.int .i64 0, .int .i64 0]⟩) (by kernel_rfl) hS26.1 ?_
    intro w30 hO31 hG32
    have hB33 : Below w.heap.size w w30 := below_own hB27 hG32 hb8'
    refine seg 3 [(1, .box 0 0), (2, .box 1 0), (3, .v (.bool false)), (7, .v (.int .i64 (m : Int)))] [] (by decide) (by kernel_rfl) hO31 trivial ?_
    refine runI_end rfl ?_
    refine at_then ?_
    refine run_ret ?_
    refine at_then_ret ?_
    refine at_ret (.tuple #[.agg #[.int .i64 0, .int .i64 0], .bool false]) (by kernel_rfl) hO31 ?_
    have hL : fitL m s.toNat = (m, s.toNat) := fitL_stop hs0 (by omega)
    rw [hf] at hL
    have hb : fitB m0 s0 = false := by unfold fitB; rw [hL]; simp; omega
    exact ⟨by rw [fitN, fitS, hb]; rfl, hB33⟩
   ·(try simp only [zq3, Bool.not_true, Bool.false_or] at hc29)
    refine run_skip ?_
    refine at_then ?_
    refine run_seq ?_
    refine run_seq ?_
    refine run_region ?_
    refine seg 2 [(1, .box 0 0), (2, .box 1 0), (3, .v (.bool false)), (7, .v (.int .i64 (m : Int))), (48, .v (.bool neg))] [] (by decide) (by kernel_rfl) hS26.1 trivial ?_
    refine runI_end rfl ?_
    refine at_then ?_
    refine run_cond (neg) (by kernel_rfl) (fun hc34 => ?_) (fun hc34 => ?_)
    ·(try simp only [zq3, Bool.not_true, Bool.false_or] at hc34)
     refine run_region ?_
     refine seg 3 [(1, .box 0 0), (2, .box 1 0), (3, .v (.bool false)), (7, .v (.int .i64 (IntKind.wrap .i64 (0 - (m : Int)))))] [] (by decide) (by kernel_rfl) hS26.1 trivial ?_
     refine runI_end rfl ?_
     refine at_then ?_
     refine run_seq ?_
     refine run_region ?_
     refine seg 4 [(2, .box 1 0), (3, .v (.bool false)), (54, .v (.agg #[.int .i64 (IntKind.wrap .i64 (0 - (m : Int))), .int .i64 s]))] [] (by decide) (by kernel_rfl) hS26.1 trivial ?_
     refine storeB (i := 1) (b := ⟨b6, 26, [.int .i64 (IntKind.wrap .i64 (0 - (m : Int))), .int .i64 s]⟩) (by kernel_rfl) hS26.1 ?_
     intro w35 hO36 hG37
     have hB38 : Below w.heap.size w w35 := below_own hB27 hG37 hb8'
     refine seg 6 [(2, .box 1 0), (3, .v (.bool true))] [] (by decide) (by kernel_rfl) hO36 trivial ?_
     refine runI_end rfl ?_
     refine at_then ?_
     refine run_ret ?_
     refine at_ret (.tuple #[.agg #[.int .i64 (IntKind.wrap .i64 (0 - (m : Int))), .int .i64 s], .bool true]) (by kernel_rfl) hO36 ?_
     have hL : fitL m s.toNat = (m, s.toNat) := fitL_stop hs0 (by omega)
     rw [hf] at hL
     have hb : fitB m0 s0 = true := by unfold fitB; rw [hL]; simp; omega
     have hs : (s.toNat : Int) = s := by omega
     refine ⟨?_, hB38⟩
     rw [fitN, fitS, hb, hL]
     simp only [if_true, hs]
     rw [wrap_neg (by omega)]; simp [hc34]
    ·(try simp only [zq3, Bool.not_true, Bool.false_or] at hc34)
     refine run_skip ?_
     refine at_then ?_
     refine run_seq ?_
     refine run_region ?_
     refine seg 4 [(2, .box 1 0), (3, .v (.bool false)), (54, .v (.agg #[.int .i64 (m : Int), .int .i64 s]))] [] (by decide) (by kernel_rfl) hS26.1 trivial ?_
     refine storeB (i := 1) (b := ⟨b6, 26, [.int .i64 (m : Int), .int .i64 s]⟩) (by kernel_rfl) hS26.1 ?_
     intro w39 hO40 hG41
     have hB42 : Below w.heap.size w w39 := below_own hB27 hG41 hb8'
     refine seg 6 [(2, .box 1 0), (3, .v (.bool true))] [] (by decide) (by kernel_rfl) hO40 trivial ?_
     refine runI_end rfl ?_
     refine at_then ?_
     refine run_ret ?_
     refine at_ret (.tuple #[.agg #[.int .i64 (m : Int), .int .i64 s], .bool true]) (by kernel_rfl) hO40 ?_
     have hL : fitL m s.toNat = (m, s.toNat) := fitL_stop hs0 (by omega)
     rw [hf] at hL
     have hb : fitB m0 s0 = true := by unfold fitB; rw [hL]; simp; omega
     have hs : (s.toNat : Int) = s := by omega
     refine ⟨?_, hB42⟩
     rw [fitN, fitS, hb, hL]
     simp only [if_true, hs]
     simp [hc34]
  ·(try simp only [zq3, Bool.not_true, Bool.false_or] at hc28)
   refine run_skip ?_
   refine at_then ?_
   refine run_seq ?_
   refine run_region ?_
   refine seg 2 [(1, .box 0 0), (2, .box 1 0), (3, .v (.bool false)), (23, .v (.string (S (nb (m / 10))))), (24, .box 0 1)] [] (by decide) (by kernel_rfl) hS26.1 trivial ?_
   refine storeB (i := 0) (b := ⟨b1, 123, [.bool neg, .string (S (nb (m / 10))), .int .i64 s]⟩) (by kernel_rfl) hS26.1 ?_
   intro w43 hO44 hG45
   have hB46 : Below w.heap.size w w43 := below_own hB27 hG45 hb3'
   refine runI_end rfl ?_
   refine at_then ?_
   refine run_region ?_
   refine seg 4 [(1, .box 0 0), (2, .box 1 0), (3, .v (.bool false)), (27, .v (.int .i64 (s - 1))), (28, .box 0 2)] [inR (s - 1)] (by decide) (by kernel_rfl) hO44 (show inR (s - 1) from (by intros; first | omega | decide | (simp only [inR, S_size, blS] at *; omega))) ?_
   refine storeB (i := 0) (b := ⟨b1, 123, [.bool neg, .string (S (nb (m / 10))), .int .i64 (s - 1)]⟩) (by kernel_rfl) hO44 ?_
   intro w47 hO48 hG49
   have hB50 : Below w.heap.size w w47 := below_own hB46 hG49 hb3'
   refine runI_end rfl ?_
   refine at_block ?_
   refine at_round ((m / 10, s - 1)) ?_ ?_ (by kernel_rfl) rfl
   ·exact (by first | omega | (dsimp only; omega))
   ·exact ⟨⟨hO48, hB50⟩, by omega, by omega, by omega, (fitL_step (by omega) (by omega)).symm.trans hf⟩
 ·(try simp only [zq3, Bool.not_true, Bool.false_or] at hc14)
  refine run_exit ?_
  refine at_then_exit ?_
  refine at_then_exit ?_
  refine at_block_exit ?_
  refine at_then ?_
  refine run_seq ?_
  refine run_region ?_
  refine seg 2 [(1, .box 0 0), (2, .box 1 0), (3, .v (.bool false)), (31, .v (.string (S (nb m))))] [] (by decide) (by kernel_rfl) hO12 trivial ?_
  refine callV (dst := (some 32)) (p := []) (f := 147) (args := #[.string (S (nb m))]) (.tuple #[.int .i64 (m : Int), .bool true]) (fun wv => w11 = wv) (by kernel_rfl) (int_any m _ (by first | omega | assumption)) (fun _ => rfl) ?_
  rintro _ rfl
  refine seg 8 [(1, .box 0 0), (2, .box 1 0), (3, .v (.bool false)), (7, .v (.int .i64 (m : Int))), (8, .v (.bool true))] [] (by decide) (by kernel_rfl) hO12 trivial ?_
  refine runI_end rfl ?_
  refine at_then ?_
  refine run_seq ?_
  refine run_seq ?_
  refine run_region ?_
  refine seg 11 [(1, .box 0 0), (2, .box 1 0), (3, .v (.bool false)), (7, .v (.int .i64 (m : Int))), (45, .v (.bool ((!true || (decide (((m : Int) : Int) > 1000000000000000))) || (decide ((s : Int) > 6)))))] [] (by decide) (by kernel_rfl) hO12 trivial ?_
  refine runI_end rfl ?_
  refine at_then ?_
  refine run_cond ((!true || (decide (((m : Int) : Int) > 1000000000000000))) || (decide ((s : Int) > 6))) (by kernel_rfl) (fun hc51 => ?_) (fun hc51 => ?_)
  ·(try simp only [zq3, Bool.not_true, Bool.false_or] at hc51)
   refine run_seq ?_
   refine run_region ?_
   refine seg 1 [(1, .box 0 0), (2, .box 1 0), (3, .v (.bool false)), (7, .v (.int .i64 (m : Int))), (46, .v (.agg #[.int .i64 0, .int .i64 0]))] [] (by decide) (by kernel_rfl) hO12 trivial ?_
   refine storeB (i := 1) (b := ⟨b6, 26, [.int .i64 0, .int .i64 0]⟩) (by kernel_rfl) hO12 ?_
   intro w52 hO53 hG54
   have hB55 : Below w.heap.size w w52 := below_own hB13 hG54 hb8'
   refine seg 3 [(1, .box 0 0), (2, .box 1 0), (3, .v (.bool false)), (7, .v (.int .i64 (m : Int)))] [] (by decide) (by kernel_rfl) hO53 trivial ?_
   refine runI_end rfl ?_
   refine at_then ?_
   refine run_ret ?_
   refine at_then_ret ?_
   refine at_ret (.tuple #[.agg #[.int .i64 0, .int .i64 0], .bool false]) (by kernel_rfl) hO53 ?_
   have hL : fitL m s.toNat = (m, s.toNat) := fitL_stop hs0 (by omega)
   rw [hf] at hL
   have hb : fitB m0 s0 = false := by unfold fitB; rw [hL]; simp; omega
   exact ⟨by rw [fitN, fitS, hb]; rfl, hB55⟩
  ·(try simp only [zq3, Bool.not_true, Bool.false_or] at hc51)
   refine run_skip ?_
   refine at_then ?_
   refine run_seq ?_
   refine run_seq ?_
   refine run_region ?_
   refine seg 2 [(1, .box 0 0), (2, .box 1 0), (3, .v (.bool false)), (7, .v (.int .i64 (m : Int))), (48, .v (.bool neg))] [] (by decide) (by kernel_rfl) hO12 trivial ?_
   refine runI_end rfl ?_
   refine at_then ?_
   refine run_cond (neg) (by kernel_rfl) (fun hc56 => ?_) (fun hc56 => ?_)
   ·(try simp only [zq3, Bool.not_true, Bool.false_or] at hc56)
    refine run_region ?_
    refine seg 3 [(1, .box 0 0), (2, .box 1 0), (3, .v (.bool false)), (7, .v (.int .i64 (IntKind.wrap .i64 (0 - (m : Int)))))] [] (by decide) (by kernel_rfl) hO12 trivial ?_
    refine runI_end rfl ?_
    refine at_then ?_
    refine run_seq ?_
    refine run_region ?_
    refine seg 4 [(2, .box 1 0), (3, .v (.bool false)), (54, .v (.agg #[.int .i64 (IntKind.wrap .i64 (0 - (m : Int))), .int .i64 s]))] [] (by decide) (by kernel_rfl) hO12 trivial ?_
    refine storeB (i := 1) (b := ⟨b6, 26, [.int .i64 (IntKind.wrap .i64 (0 - (m : Int))), .int .i64 s]⟩) (by kernel_rfl) hO12 ?_
    intro w57 hO58 hG59
    have hB60 : Below w.heap.size w w57 := below_own hB13 hG59 hb8'
    refine seg 6 [(2, .box 1 0), (3, .v (.bool true))] [] (by decide) (by kernel_rfl) hO58 trivial ?_
    refine runI_end rfl ?_
    refine at_then ?_
    refine run_ret ?_
    refine at_ret (.tuple #[.agg #[.int .i64 (IntKind.wrap .i64 (0 - (m : Int))), .int .i64 s], .bool true]) (by kernel_rfl) hO58 ?_
    have hL : fitL m s.toNat = (m, s.toNat) := fitL_stop hs0 (by omega)
    rw [hf] at hL
    have hb : fitB m0 s0 = true := by unfold fitB; rw [hL]; simp; omega
    have hs : (s.toNat : Int) = s := by omega
    refine ⟨?_, hB60⟩
    rw [fitN, fitS, hb, hL]
    simp only [if_true, hs]
    rw [wrap_neg (by omega)]; simp [hc56]
   ·(try simp only [zq3, Bool.not_true, Bool.false_or] at hc56)
    refine run_skip ?_
    refine at_then ?_
    refine run_seq ?_
    refine run_region ?_
    refine seg 4 [(2, .box 1 0), (3, .v (.bool false)), (54, .v (.agg #[.int .i64 (m : Int), .int .i64 s]))] [] (by decide) (by kernel_rfl) hO12 trivial ?_
    refine storeB (i := 1) (b := ⟨b6, 26, [.int .i64 (m : Int), .int .i64 s]⟩) (by kernel_rfl) hO12 ?_
    intro w61 hO62 hG63
    have hB64 : Below w.heap.size w w61 := below_own hB13 hG63 hb8'
    refine seg 6 [(2, .box 1 0), (3, .v (.bool true))] [] (by decide) (by kernel_rfl) hO62 trivial ?_
    refine runI_end rfl ?_
    refine at_then ?_
    refine run_ret ?_
    refine at_ret (.tuple #[.agg #[.int .i64 (m : Int), .int .i64 s], .bool true]) (by kernel_rfl) hO62 ?_
    have hL : fitL m s.toNat = (m, s.toNat) := fitL_stop hs0 (by omega)
    rw [hf] at hL
    have hb : fitB m0 s0 = true := by unfold fitB; rw [hL]; simp; omega
    have hs : (s.toNat : Int) = s := by omega
    refine ⟨?_, hB64⟩
    rw [fitN, fitS, hb, hL]
    simp only [if_true, hs]
    simp [hc56]
theorem make_any (n s : Int) (w : World) (h0 : -72000000000000000 ≤ n) (h1 : n ≤ 72000000000000000) (h2 : 0 ≤ s) (h3 : s ≤ 18) :
  Calls Tryz.prog 113 #[.int .i64 n, .int .i64 s] w fun e w' => e = .returned (.tuple #[.agg #[.int .i64 (fitN (decide (n < 0)) n.natAbs s), .int .i64 (fitS n.natAbs s)], .bool (fitB n.natAbs s)]) ∧ Below w.heap.size w w' := by
 refine enter (n := 22) Tryz.func113 rfl rfl rfl [(0, .v (.int .i64 n)), (1, .v (.int .i64 s))] rfl ?_
 refine run_seq ?_
 refine run_region ?_
 refine newB (t := 4) (ty := 26) (cells := [.int .i64 0, .int .i64 0]) (by kernel_rfl) ownOk_nil ?_
 intro b1 w2 hb3 hO4 hB5
 have hB5' : Below w.heap.size w w2 := below_ext (Below.refl w.heap.size w) hB5
 have hb3' : w.heap.size ≤ b1 := Nat.le_trans ((Below.refl w.heap.size w)).size hb3
 refine seg 2 [(0, .v (.int .i64 n)), (1, .v (.int .i64 s)), (4, .box 0 0), (5, .v (.bool false))] [] (by decide) (by kernel_rfl) hO4 trivial ?_
 refine runI_end rfl ?_
 refine at_then ?_
 refine run_seq ?_
 refine run_seq ?_
 refine run_region ?_
 refine seg 6 [(0, .v (.int .i64 n)), (1, .v (.int .i64 s)), (4, .box 0 0), (5, .v (.bool false)), (11, .v (.bool ((decide ((s : Int) < 0)) || (decide ((s : Int) > 18)))))] [] (by decide) (by kernel_rfl) hO4 trivial ?_
 refine runI_end rfl ?_
 refine at_then ?_
 refine run_cond ((decide ((s : Int) < 0)) || (decide ((s : Int) > 18))) (by kernel_rfl) (fun hc6 => ?_) (fun hc6 => ?_)
 ·(try simp only [blS] at hc6)
  exfalso; omega
 ·(try simp only [blS] at hc6)
  refine run_skip ?_
  refine at_then ?_
  refine run_seq ?_
  refine run_region ?_
  refine seg 3 [(1, .v (.int .i64 s)), (4, .box 0 0), (5, .v (.bool false)), (14, .v (.bool (decide ((n : Int) < 0)))), (15, .v (.int .i64 n))] [] (by decide) (by kernel_rfl) hO4 trivial ?_
  refine callV (dst := (some 16)) (p := []) (f := 135) (args := #[.int .i64 n]) (.string (S (nb (n : Int).natAbs))) (fun wv => Below w2.heap.size w2 wv) (by kernel_rfl) (natural_any n _ (by omega) (by omega)) (fun _ => Below.refl _ _) ?_
  intro w7 hX8
  have hO9 := OwnOk.ext hO4 hX8
  have hB10 : Below w.heap.size w w7 := below_ext hB5' hX8
  refine seg 6 [(4, .box 0 0), (5, .v (.bool false)), (18, .v (.agg #[.bool (decide ((n : Int) < 0)), .string (S (nb (n : Int).natAbs)), .int .i64 s]))] [] (by decide) (by kernel_rfl) hO9 trivial ?_
  refine callV (dst := (some 19)) (p := []) (f := 151) (args := #[.agg #[.bool (decide ((n : Int) < 0)), .string (S (nb (n : Int).natAbs)), .int .i64 s]]) (.tuple #[.agg #[.int .i64 (fitN (decide ((n : Int) < 0)) (n : Int).natAbs s), .int .i64 (fitS (n : Int).natAbs s)], .bool (fitB (n : Int).natAbs s)]) (fun wv => Below w7.heap.size w7 wv) (by kernel_rfl) (fit_any (decide ((n : Int) < 0)) (n : Int).natAbs s _ (by omega) (by omega) (by omega)) (fun _ => Below.refl _ _) ?_
  intro w11 hX12
  have hO13 := OwnOk.ext hO9 hX12
  have hB14 : Below w.heap.size w w11 := below_ext hB10 hX12
  refine seg 9 [(4, .box 0 0), (5, .v (.bool false)), (20, .v (.agg #[.int .i64 (fitN (decide ((n : Int) < 0)) (n : Int).natAbs s), .int .i64 (fitS (n : Int).natAbs s)])), (21, .v (.bool (fitB (n : Int).natAbs s)))] [] (by decide) (by kernel_rfl) hO13 trivial ?_
  refine storeB (i := 0) (b := ⟨b1, 26, [.int .i64 (fitN (decide ((n : Int) < 0)) (n : Int).natAbs s), .int .i64 (fitS (n : Int).natAbs s)]⟩) (by kernel_rfl) hO13 ?_
  intro w15 hO16 hG17
  have hB18 : Below w.heap.size w w15 := below_own hB14 hG17 hb3'
  refine seg 11 [(4, .box 0 0), (5, .v (.bool (fitB (n : Int).natAbs s)))] [] (by decide) (by kernel_rfl) hO16 trivial ?_
  refine runI_end rfl ?_
  refine at_then ?_
  refine run_ret ?_
  refine at_ret (.tuple #[.agg #[.int .i64 (fitN (decide ((n : Int) < 0)) (n : Int).natAbs s), .int .i64 (fitS (n : Int).natAbs s)], .bool (fitB (n : Int).natAbs s)]) (by kernel_rfl) hO16 ?_
  exact ⟨rfl, hB18⟩
end Go.Proofs.YtmpgfchkkemngaaGreatDoor
namespace Go.Proofs.YtmpgfchkkemngaaGreatDoor
open Go.RowKit Go.V
open Go.Eng (inR byteAt u8 bytesV)
structure Gv where
 maxLen : Int
 more : List (Nat × List Value) := []
def tensL : List Int := [1, 10, 100, 1000, 10000, 100000, 1000000]
def powL : List Int := [1, 10, 100, 1000, 10000, 100000, 1000000, 10000000, 100000000, 1000000000, 10000000000, 100000000000, 1000000000000, 10000000000000, 100000000000000, 1000000000000000, 10000000000000000, 100000000000000000, 1000000000000000000, 10000000000000000000]
def Gl (g : Gv) : List (Nat × List Value) := (0, [.int .i64 g.maxLen]) :: (2, powL.map (Value.int .u64)) :: (5, mlen.map (Value.int .i64)) :: g.more
def SpG (g : Gv) (f : FuncId) (ins : List SV) (refs : OwnL) (out : SV) (post : OwnL) : Prop := V.Spec Tryz.prog (Gl g) f ins refs out post
theorem hmix : Tryz.prog.follows .mixedOrders = true := by kernel_rfl
section
variable {R : Wp Tryz.prog} {fr : Fr} {n : Nat} {root : Code} {Q : Exit → Act → World → Prop} {G : List (Nat × List Value)} {pids : List Nat} {now : Now} {st : V.St} {cs : List Prop}
theorem zC (hG : FrIs fr G pids) (hs : Hints) (pos : List Nat) (b : Bool) (st' : V.St) (h : goS Tryz.prog G pids n root hs 1000 now st st' = told (.cond pos b) st' cs) (hc : V.conj cs) (ht : b = true → W R fr n root Q (.code (0 :: pos)) st') (hf : b = false → W R fr n root Q (.code (1 :: pos)) st') : W R fr n root Q now st := stepC hG hmix hs pos b st' cs h hc ht hf
theorem zc (hG : FrIs fr G pids) (hs : Hints) (pos : List Nat) (b : Bool) (h : goS Tryz.prog G pids n root hs 1000 now st st = told (.cond pos b) st cs) (hc : V.conj cs) (ht : b = true → W R fr n root Q (.code (0 :: pos)) st) (hf : b = false → W R fr n root Q (.code (1 :: pos)) st) : W R fr n root Q now st := stepC hG hmix hs pos b st cs h hc ht hf
theorem zr {fn : Func} {out : SV} {post : OwnL} (hG : FrIs fr G []) (hs : Hints) (ids : List Nat) (h : goR Tryz.prog G n root hs 1000 now st fn ids = some (out, post, cs)) (hc : V.conj cs) : W R fr n root (bodyPost Tryz.prog fn (RetR fr out post)) now st := stepR' hG hmix hs ids out post h hc rfl rfl
theorem zR {fn : Func} {out : SV} {post : OwnL} (hG : FrIs fr G []) (hs : Hints) (ids : List Nat) (out' : SV) (post' : OwnL) (h : goR Tryz.prog G n root hs 1000 now st fn ids = some (out', post', cs)) (hc : V.conj cs) (ho : out' = out) (hp : post' = post) : W R fr n root (bodyPost Tryz.prog fn (RetR fr out post)) now st := stepR' hG hmix hs ids out' post' h hc ho hp
theorem zL {σ : Type} (hG : FrIs fr G pids) (hs : Hints) (pos : List Nat) (F : σ → Nat × V.St × Prop) (x0 : σ) (h : goS Tryz.prog G pids n root hs 1000 now st (F x0).2.1 = told (.loop pos) (F x0).2.1 cs) (hc : V.conj cs) (hl : isLoop root pos = true) (h0 : (F x0).2.2)
  (round : ∀ x, (F x).2.2 → W R fr n (loopBody root pos) (Exit.then (V.Handed fr n (fun x => (F x).1) (fun x => (F x).2.1) (fun x => (F x).2.2) x) (ctx R root Q pos)) (.code []) (F x).2.1) : W R fr n root Q now st :=
 stepL hG hmix hs pos (F x0).2.1 cs h hc (loopR (fun x => (F x).1) (fun x => (F x).2.1) (fun x => (F x).2.2) x0 hl h0 round)
theorem zA {σ : Type} (hG : FrIs fr G pids) (hs : Hints) (pos : List Nat) (st6 : V.St) (ss : List (Nat × Nat × Nat × Nat)) (cc : List (Nat × Nat × Nat × Nat × Nat)) (F : σ → Nat × V.St × Prop) (x0 : σ) (h : goS Tryz.prog G pids n root hs 1000 now st st6 = told (.loop pos) st6 cs) (hc : V.conj cs) (ha : adK pids ss cc st6 (F x0).2.1 = told (.loop []) (F x0).2.1 []) (hl : isLoop root pos = true) (h0 : (F x0).2.2)
  (round : ∀ x, (F x).2.2 → W R fr n (loopBody root pos) (Exit.then (V.Handed fr n (fun x => (F x).1) (fun x => (F x).2.1) (fun x => (F x).2.2) x) (ctx R root Q pos)) (.code []) (F x).2.1) : W R fr n root Q now st :=
 stepL hG hmix hs pos st6 cs h hc (stepA hG ss cc (F x0).2.1 ha (loopR (fun x => (F x).1) (fun x => (F x).2.1) (fun x => (F x).2.2) x0 hl h0 round))
theorem zD {σ : Type} {m : σ → Nat} {S : σ → V.St} {Inv : σ → Prop} {x : σ} {Q0 : Exit → Act → World → Prop} (hG : FrIs fr G pids) (hs : Hints) (y : σ) (h : goS Tryz.prog G pids n root hs 1000 now st (S y) = told (.done .normal) (S y) cs) (hc : V.conj cs) (hlt : m y < m x) (hI : Inv y) : W R fr n root (Exit.then (V.Handed fr n m S Inv x) Q0) now st := roundE hG hmix hs y cs h hc hlt hI
theorem zE {H : Act → World → Prop} {root' : Code} {pos : List Nat} (hG : FrIs fr G pids) (hs : Hints) (e : Ex) (st' : V.St) (h : goS Tryz.prog G pids n root hs 1000 now st st' = told (.done e) st' cs) (hc : V.conj cs) (he : e.isNormal = false) (hk : W R fr n root' Q (.exit pos e) st') : W R fr n root (Exit.then H (ctx R root' Q pos)) now st := leaveE hG hmix hs e st' cs h hc he hk
end
structure Cl where
 kind : Int
 s : List UInt8
 dn : Int
 ds : Int
 n : Int
 deriving DecidableEq
structure Vl where
 kind : Int
 s : List UInt8
 dn : Int
 ds : Int
 n : Int
 cols : List (List UInt8)
 rows : List (List Cl)
 deriving DecidableEq
def Cl.toV (c : Cl) : Vl := ⟨c.kind, c.s, c.dn, c.ds, c.n, [], []⟩
def strD (s : List UInt8) : List D := [.s (S s)]
def strs (l : List (List UInt8)) : List (List D) := l.map strD
def ClD (c : Cl) : List D := [.i c.kind, .s (S c.s), .i c.dn, .i c.ds, .i c.n, .sl 1 [], .sl 1 []]
def rowD (r : List Cl) : List (List D) := r.map ClD
def rows1 (r : List Cl) : List D := [.sl 7 (rowD r)]
def rowsD (l : List (List Cl)) : List (List D) := l.map rows1
def VlD (v : Vl) : List D := [.i v.kind, .s (S v.s), .i v.dn, .i v.ds, .i v.n, .sl 1 (strs v.cols), .sl 1 (rowsD v.rows)]
def valsD (l : List Vl) : List (List D) := l.map VlD
def vArg (v : Vl) : SV := .agg [.d (.i v.kind), .d (.s (S v.s)), .d (.i v.dn), .d (.i v.ds), .d (.i v.n), .d (.sl 1 (strs v.cols)), .d (.sl 1 (rowsD v.rows))]
def Cl.z : Cl := ⟨0, [], 0, 0, 0⟩
def Vl.z : Vl := ⟨0, [], 0, 0, 0, [], []⟩
theorem map_at {α β : Type} {f : α → β} {l : List α} {i : Int} (z : α) (h0 : 0 ≤ i) (h : i < (l.length : Int)) : 0 ≤ i ∧ (l.map f)[i.toNat]? = some (f (l.getD i.toNat z)) := by
 have : i.toNat < l.length := by omega
 exact ⟨h0, by simp [this]⟩
theorem map_nat {α β : Type} {f : α → β} {l : List α} {k : Nat} (z : α) (h : k < l.length) : (l.map f)[k]? = some (f (l.getD k z)) := by simp [h]
end Go.Proofs.YtmpgfchkkemngaaGreatDoor
namespace Go.Proofs.YtmpgfchkkemngaaGreatDoor
open Go.RowKit Go.V
open Go.Eng (inR byteAt u8 bytesV)
variable {g : Gv}
theorem S_inj {a b : List UInt8} : S a = S b ↔ a = b := by
 constructor
 ·intro h; have := congrArg (fun x => x.data.toList) h; simpa [S] using this
 ·rintro rfl; rfl
theorem S_beq (a b : List UInt8) : ((S a).toList == (S b).toList) = decide (a = b) := by rw [str_beq]; simp [S_inj]
theorem S_eqv {a b : List UInt8} : (((S a).toList == (S b).toList) = true) = (a = b) := by rw [S_beq]; simp
theorem S_eqf {a b : List UInt8} : (((S a).toList == (S b).toList) = false) = ¬ (a = b) := by rw [S_beq]; simp
theorem of_exact {f : FuncId} {ins : List SV} {out : SV} {args : List Value} {v : Value} (hi : exAll ins = some args) (ho : exT out = some v) (hk : okS out = true)
  (h : ∀ w : World, Calls Tryz.prog f args.toArray w fun e w' => e = .returned v ∧ w = w') : SpG g f ins [] out [] :=
 spec_of hi ho hk fun w _ => (h w).mono fun e w' ⟨h1, h2⟩ => ⟨h1, by subst h2; exact Below.refl _ _⟩
theorem of_below {f : FuncId} {ins : List SV} {out : SV} {args : List Value} {v : Value} (hi : exAll ins = some args) (ho : exT out = some v) (hk : okS out = true)
  (h : ∀ w : World, Calls Tryz.prog f args.toArray w fun e w' => e = .returned v ∧ Below w.heap.size w w') : SpG g f ins [] out [] := spec_of hi ho hk fun w _ => h w
def bareB (v : Vl) : Bool := decide (v.s = []) && (v.dn == 0 && v.ds == 0) && decide (v.n = 0) && decide (v.cols = []) && decide (v.rows = [])
def isNameL (l : List UInt8) : Bool := isNameB (S l)
def isTextL (l : List UInt8) : Bool := isTextB (S l)
theorem isName_ok (l : List UInt8) : SpG g 74 [.c (.d (.s (S l)))] [] (.c (.d (.b (isNameL l)))) [] := of_exact (args := [.string (S l)]) rfl rfl rfl (isName_any (S l))
theorem isText_ok (l : List UInt8) (h : l.length ≤ maxLen) : SpG g 38 [.c (.d (.s (S l)))] [] (.c (.d (.b (isTextL l)))) [] := of_exact (args := [.string (S l)]) rfl rfl rfl (fun w => isText_any (S l) w (by rw [S_size]; exact h))
theorem refName_ok (l : List UInt8) (h : l.length ≤ maxLen) : SpG g 116 [.c (.d (.s (S l)))] [] (.c (.d (.b (isNameL l)))) [] := of_exact (args := [.string (S l)]) rfl rfl rfl (fun w => refName_any (S l) w (by rw [S_size]; exact h))
theorem refPlain_ok (l : List UInt8) (h : l.length ≤ maxLen) : SpG g 41 [.c (.d (.s (S l)))] [] (.c (.d (.b (isTextL l)))) [] := of_exact (args := [.string (S l)]) rfl rfl rfl (fun w => plain_any (S l) w (by rw [S_size]; exact h))
theorem decRight_ok (n s : Int) : SpG g 39 [.agg [.d (.i n), .d (.i s)]] [] (.c (.d (.b (decB n s)))) [] := of_below (args := [.agg #[.int .i64 n, .int .i64 s]]) rfl rfl rfl (decRight_any n s)
theorem refDecRight_ok (n s : Int) : SpG g 42 [.agg [.d (.i n), .d (.i s)]] [] (.c (.d (.b (decB n s)))) [] := of_below (args := [.agg #[.int .i64 n, .int .i64 s]]) rfl rfl rfl (refDecRight_any n s)
def idxI (l : List (List UInt8)) (x : List UInt8) : Int := match l.findIdx? (fun y => decide (x = y)) with
 | some k => (k : Int)
 | none => -1
theorem idxI_at {l : List (List UInt8)} {k : Nat} {x : List UInt8} (hk : k < l.length) (hn : ∀ j, j < k → x ≠ l.getD j []) (hx : x = l.getD k []) : idxI l x = (k : Int) := by
 have : l.findIdx? (fun y => decide (x = y)) = some k := by
  rw [List.findIdx?_eq_some_iff_getElem]
  refine ⟨hk, by simpa [hk] using hx, fun j hj => ?_⟩
  have := hn j hj
  simpa [show j < l.length by omega] using this
 rw [idxI, this]
theorem idxI_none {l : List (List UInt8)} {x : List UInt8} (hn : ∀ j, j < l.length → x ≠ l.getD j []) : idxI l x = -1 := by
 have : l.findIdx? (fun y => decide (x = y)) = none := by
  rw [List.findIdx?_eq_none_iff]
  intro y hy
  obtain ⟨j, hj, rfl⟩ := List.mem_iff_getElem.1 hy
  have := hn j hj
  simpa [hj] using this
 rw [idxI, this]
theorem idxI_nonneg {l : List (List UInt8)} {x : List UInt8} : decide (idxI l x ≥ 0) = decide (x ∈ l) := by
 unfold idxI
 cases h : l.findIdx? (fun y => decide (x = y)) with
 | none =>
  rw [List.findIdx?_eq_none_iff] at h
  have : x ∉ l := fun hm => by have := h x hm; simp at this
  simp [this]
 | some k =>
  obtain ⟨hk, h1, _⟩ := List.findIdx?_eq_some_iff_getElem.1 h
  simp only [decide_eq_true_eq] at h1
  have : x ∈ l := by rw [h1]; exact List.getElem_mem hk
  simp [this]
def allR (n : Nat) (p : Nat → Bool) : Bool := (List.range n).all p
theorem allR_true {n : Nat} {p : Nat → Bool} (h : ∀ i, i < n → p i = true) : allR n p = true := by
 simp only [allR, List.all_eq_true, List.mem_range]; exact h
theorem allR_false {n : Nat} {p : Nat → Bool} {i : Nat} (hi : i < n) (h : p i = false) : allR n p = false := by
 cases hh : allR n p with
 | false => rfl
 | true => simp only [allR, List.all_eq_true, List.mem_range] at hh; rw [hh i hi] at h; cases h
theorem allR_get {n : Nat} {p : Nat → Bool} (h : allR n p = true) {i : Nat} (hi : i < n) : p i = true := by
 simp only [allR, List.all_eq_true, List.mem_range] at h; exact h i hi
theorem below_succ {k : Nat} {q : Nat → Prop} (h : ∀ j, j < k → q j) (hk : q k) : ∀ j, j < k + 1 → q j := fun j hj => by
 rcases Nat.lt_succ_iff_lt_or_eq.1 hj with h' | h'
 ·exact h j h'
 ·rw [h']; exact hk
def rightK (T : Bool) (v : Vl) : Bool :=
 if v.kind = 0 then decide (0 ≤ v.n) && decide (v.n ≤ 99) && bareB { v with n := 0 }
 else if v.kind = 1 then isTextL v.s && bareB { v with s := [] }
 else if v.kind = 2 then decB v.dn v.ds && bareB { v with dn := 0, ds := 0 }
 else if v.kind = 3 then decide (0 ≤ v.n) && decide (v.n ≤ 3652058) && bareB { v with n := 0 }
 else if v.kind = 4 then (decide (v.n = 0) || decide (v.n = 1)) && bareB { v with n := 0 }
 else if v.kind = 5 then T && bareB { v with cols := [], rows := [] }
 else false
def nameAt (cols : List (List UInt8)) (i : Nat) : Bool := isNameL (cols.getD i []) && !decide (cols.getD i [] ∈ cols.take i)
def cellAt (r : List Cl) (j : Nat) : Bool := !decide ((r.getD j Cl.z).kind = 5) && rightK false (r.getD j Cl.z).toV
def rowAt (cols : List (List UInt8)) (rows : List (List Cl)) (i : Nat) : Bool := decide ((rows.getD i []).length = cols.length) && allR (rows.getD i []).length (cellAt (rows.getD i []))
def tableB (cols : List (List UInt8)) (rows : List (List Cl)) : Bool := decide (cols.length ≤ 8) && decide (rows.length ≤ 100) && allR cols.length (nameAt cols) && allR rows.length (rowAt cols rows)
def rightB (v : Vl) : Bool := rightK (tableB v.cols v.rows) v
structure Vl.fit (v : Vl) : Prop where
 s : v.s.length ≤ maxLen
 cols : ∀ t, t ∈ v.cols → t.length ≤ maxLen
 cells : ∀ r, r ∈ v.rows → ∀ c, c ∈ r → c.s.length ≤ maxLen
def clArg (c : Cl) : SV := .agg [.d (.i c.kind), .d (.s (S c.s)), .d (.i c.dn), .d (.i c.ds), .d (.i c.n), .d (.sl 1 []), .d (.sl 1 [])]
theorem getD_mem {α : Type} {l : List α} {k : Nat} {z : α} (h : k < l.length) : l.getD k z ∈ l := by simp [h]
theorem tableB_long {cols : List (List UInt8)} {rows : List (List Cl)} (h : (cols.length : Int) > 8 ∨ (rows.length : Int) > 100) : tableB cols rows = false := by
 have : (decide (cols.length ≤ 8) && decide (rows.length ≤ 100)) = false := by
  rcases h with h | h
  ·simp; omega
  ·simp; omega
 simp only [tableB, this, Bool.false_and]
theorem tableB_name {cols : List (List UInt8)} {rows : List (List Cl)} {k : Nat} (hk : k < cols.length) (h : nameAt cols k = false) : tableB cols rows = false := by
 rw [tableB, allR_false hk h]; simp
theorem tableB_row {cols : List (List UInt8)} {rows : List (List Cl)} {k : Nat} (hk : k < rows.length) (h : rowAt cols rows k = false) : tableB cols rows = false := by
 rw [tableB, allR_false (p := rowAt cols rows) hk h]; simp
theorem tableB_ok {cols : List (List UInt8)} {rows : List (List Cl)} (h : ¬ (cols.length : Int) > 8 ∧ ¬ (rows.length : Int) > 100) (hn : ∀ j, j < cols.length → nameAt cols j = true) (hr : ∀ j, j < rows.length → rowAt cols rows j = true) : tableB cols rows = true := by
 rw [tableB, allR_true hn, allR_true hr]; simp; omega
theorem rowAt_len {cols : List (List UInt8)} {rows : List (List Cl)} {i : Nat} (h : ¬ ((rows.getD i []).length : Int) = (cols.length : Int)) : rowAt cols rows i = false := by
 have : ¬ (rows.getD i []).length = cols.length := by omega
 simp only [rowAt, this, decide_false, Bool.false_and]
theorem rowAt_cell {cols : List (List UInt8)} {rows : List (List Cl)} {i m : Nat} (hm : m < (rows.getD i []).length) (h : cellAt (rows.getD i []) m = false) : rowAt cols rows i = false := by
 rw [rowAt, allR_false hm h]; simp
theorem fail_ok (e : Int) :
  SpG g 25 [.c (.d (.i e))] [] (.agg [.d (.i 0), .d (.s (S [])), .d (.i 0), .d (.i 0), .d (.i e), .d (.nil), .d (.nil)]) [] := by
 refine enterB 5 Tryz.func25 (by kernel_rfl) fun fr hG => ?_
 exact zr hG [] [] (by kernel_rfl) conj0
theorem bare_ok (v : Vl) :
  SpG g 37 [.agg [.d (.i v.kind), .d (.s (S v.s)), .d (.i v.dn), .d (.i v.ds), .d (.i v.n), .d (.sl 1 (strs v.cols)), .d (.sl 1 (rowsD v.rows))]] [] (.c (.d (.b (bareB v)))) [] := by
 refine enterB 29 Tryz.func37 (by kernel_rfl) fun fr hG => ?_
 refine zR hG [] [] (.c (.d (.b ((((((S v.s).toList == (S []).toList) && (((v.dn : Int) == 0) && ((v.ds : Int) == 0))) && (decide ((v.n : Int) = 0))) && (decide ((((strs v.cols).length : Int) : Int) = 0))) && (decide ((((rowsD v.rows).length : Int) : Int) = 0)))))) [] (by kernel_rfl) conj0 ?_ ?_
 ·rw [S_beq]; simp [bareB, strs, rowsD]
 ·rfl
def zq4 := And.intro @List.length_map.{0, 0} (And.intro @S_eqf (And.intro @S_eqv (And.intro @blS (And.intro @rowD.eq_1 (And.intro @rowsD.eq_1 (And.intro @strs.eq_1 (@valsD.eq_1)))))))
def zq5 := And.intro @List.length_map.{0, 0} (@strs.eq_1)
theorem index_ok (l : List (List UInt8)) (x : List UInt8) :
  SpG g 115 [.c (.d (.sl 1 (strs l))), .c (.d (.s (S x)))] [] (.c (.d (.i (idxI l x)))) [] := by
 refine enterB 19 Tryz.func115 (by kernel_rfl) fun fr hG => ?_
 refine stepLen 0 rfl fun hl => ?_
 refine zL hG [] [0, 1, 0, 1] (fun (zz : Nat) => match zz with | k => (l.length - k, ⟨[(0, [], .c (.d (.sl 1 (strs l)))), (1, [], .c (.d (.s (S x)))), (4, [], .c (.d (.i 0))), (7, [], .c (.d (.i ((strs l).length : Int)))), (8, [], .c (.d (.i (k : Int))))], []⟩, k ≤ l.length ∧ ∀ j, j < k → x ≠ l.getD j [])) 0 (by kernel_rfl) conj0 (by kernel_rfl) ?_ ?_
 ·exact ⟨Nat.zero_le _, fun j hj => by omega⟩
 rintro k ⟨hk, hn⟩
 refine zc hG [] [0, 1] (decide (((k : Int) : Int) < ((strs l).length : Int))) (by kernel_rfl) conj0 (fun hc2 => ?_) (fun hc2 => ?_)
 ·(try simp only [zq4] at hc2)
  refine zC hG [(4, 3, .elem (strD ((l).getD k [])))] [1, 1, 0, 0, 1, 1] ((S x).toList == (S ((l).getD k [])).toList) (⟨[(0, [], .c (.d (.sl 1 (strs l)))), (1, [], .c (.d (.s (S x)))), (4, [], .c (.d (.i 0))), (5, [], .c (.d (.i (k : Int)))), (7, [], .c (.d (.i ((strs l).length : Int)))), (8, [], .c (.d (.i (k : Int))))], []⟩) (by kernel_rfl) (conj1 (show (0 : Int) ≤ (k : Int) ∧ (strs l)[k]? = some (strD ((l).getD k [])) from (by intros; exact map_at [] (by omega) (by (try simp only [zq5] at *); omega)))) (fun hc3 => ?_) (fun hc3 => ?_)
  ·(try simp only [zq4] at hc3)
   refine zE hG [] .ret (⟨[(4, [], .c (.d (.i (k : Int))))], []⟩) (by kernel_rfl) conj0 rfl ?_
   refine zR hG [] [] (.c (.d (.i (k : Int)))) [] (by kernel_rfl) conj0 ?_ ?_
   ·rw [idxI_at (by omega) hn (by simpa using hc3)]
   ·rfl
  ·(try simp only [zq4] at hc3)
   refine zD hG [] (k + 1) (by kernel_rfl) (conj1 (show inR ((k : Int) + 1) from (by (try simp only [strs, List.length_map, inR, maxLen] at *); omega))) ?_ ?_
   ·(try simp only [zq5] at *); (try dsimp only); omega
   ·exact ⟨by omega, fun j hj => by rcases Nat.lt_succ_iff_lt_or_eq.1 hj with h | h; (· exact hn j h); rw [h]; simpa using hc3⟩
 ·(try simp only [zq4] at hc2)
  refine zE hG [] (.exit 0) (⟨[(4, [], .c (.d (.i 0)))], []⟩) (by kernel_rfl) conj0 rfl ?_
  refine zR hG [] [] (.c (.d (.i (-1)))) [] (by kernel_rfl) conj0 ?_ ?_
  ·rw [idxI_none (fun j hj => hn j (by omega))]
  ·rfl
theorem contains_ok (l : List (List UInt8)) (x : List UInt8) :
  SpG g 75 [.c (.d (.sl 1 (strs l))), .c (.d (.s (S x)))] [] (.c (.d (.b (decide (x ∈ l))))) [] := by
 refine enterB 9 Tryz.func75 (by kernel_rfl) fun fr hG => ?_
 refine zR hG [(1, 2, .call (.c (.d (.i (idxI (l) (x))))) [] [])] [] (.c (.d (.b (decide ((idxI (l) (x) : Int) ≥ 0))))) [] (by kernel_rfl) (conj1 ((index_ok (l) (x) : SpG g _ _ _ _ _))) ?_ ?_
 ·rw [idxI_nonneg]
 ·rfl
theorem contains_at {es : List (List D)} {l : List (List UInt8)} (h : es = strs l) (x : List UInt8) : SpG g 75 [.c (.d (.sl 1 es)), .c (.d (.s (S x)))] [] (.c (.d (.b (decide (x ∈ l))))) [] := by subst h; exact contains_ok l x
theorem right_of (v : Vl) (T : Bool) (hs : v.s.length ≤ maxLen) (hT : SpG g 40 [.c (.d (.sl 1 (strs v.cols))), .c (.d (.sl 1 (rowsD v.rows)))] [] (.c (.d (.b T))) []) :
  SpG g 13 [.agg [.d (.i v.kind), .d (.s (S v.s)), .d (.i v.dn), .d (.i v.ds), .d (.i v.n), .d (.sl 1 (strs v.cols)), .d (.sl 1 (rowsD v.rows))]] [] (.c (.d (.b (rightK T v)))) [] := by
 refine enterB 86 Tryz.func13 (by kernel_rfl) fun fr hG => ?_
 refine zC hG [] [1, 0, 1, 0, 1, 1] (decide ((v.kind : Int) = 0)) (⟨[(1, [], .c (.bx 100 0)), (2, [], .c (.d (.b false))), (3, [], .c (.bx 201 0)), (6, [], .c (.d (.i v.kind)))], [(100, .box 30 [.d (.i v.kind), .d (.s (S v.s)), .d (.i v.dn), .d (.i v.ds), .d (.i v.n), .d (.sl 1 (strs v.cols)), .d (.sl 1 (rowsD v.rows))]), (201, .box 30 [.d (.i v.kind), .d (.s (S v.s)), .d (.i v.dn), .d (.i v.ds), .d (.i v.n), .d (.sl 1 (strs v.cols)), .d (.sl 1 (rowsD v.rows))])]⟩) (by kernel_rfl) conj0 (fun hc1 => ?_) (fun hc1 => ?_)
 ·(try simp only [blS] at hc1)
  refine zR hG [(5, 10, .call (.c (.d (.b (bareB (⟨v.kind, v.s, v.dn, v.ds, 0, v.cols, v.rows⟩ : Vl))))) [] [])] [] (.c (.d (.b (((decide ((v.n : Int) ≥ 0)) && (decide ((v.n : Int) ≤ 99))) && (bareB (⟨v.kind, v.s, v.dn, v.ds, 0, v.cols, v.rows⟩ : Vl)))))) [] (by kernel_rfl) (conj1 (fun (hg1 : ((decide ((v.n : Int) ≥ 0)) && (decide ((v.n : Int) ≤ 99))) = true) => ((bare_ok (⟨v.kind, v.s, v.dn, v.ds, 0, v.cols, v.rows⟩ : Vl) : SpG g _ _ _ _ _)))) ?_ ?_
  ·simp [rightK, *]
  ·rfl
 ·(try simp only [blS] at hc1)
  refine zc hG [] [1, 1, 1, 0, 1, 0, 1, 1] (decide ((v.kind : Int) = 1)) (by kernel_rfl) conj0 (fun hc2 => ?_) (fun hc2 => ?_)
  ·(try simp only [blS] at hc2)
   refine zR hG [(8, 2, .call (.c (.d (.b (isTextL (v.s))))) [] []), (8, 5, .call (.c (.d (.b (bareB (⟨v.kind, [], v.dn, v.ds, v.n, v.cols, v.rows⟩ : Vl))))) [] [])] [] (.c (.d (.b ((isTextL (v.s)) && (bareB (⟨v.kind, [], v.dn, v.ds, v.n, v.cols, v.rows⟩ : Vl)))))) [] (by kernel_rfl) (conjC ((isText_ok (v.s) (by assumption) : SpG g _ _ _ _ _)) (conj1 (fun (hg1 : (isTextL (v.s)) = true) => ((bare_ok (⟨v.kind, [], v.dn, v.ds, v.n, v.cols, v.rows⟩ : Vl) : SpG g _ _ _ _ _))))) ?_ ?_
   ·simp [rightK, *]
   ·rfl
  ·(try simp only [blS] at hc2)
   refine zc hG [] [1, 1, 1, 1, 1, 0, 1, 0, 1, 1] (decide ((v.kind : Int) = 2)) (by kernel_rfl) conj0 (fun hc3 => ?_) (fun hc3 => ?_)
   ·(try simp only [blS] at hc3)
    refine zR hG [(11, 2, .call (.c (.d (.b (decB v.dn v.ds)))) [] []), (11, 5, .call (.c (.d (.b (bareB (⟨v.kind, v.s, 0, 0, v.n, v.cols, v.rows⟩ : Vl))))) [] [])] [] (.c (.d (.b ((decB v.dn v.ds) && (bareB (⟨v.kind, v.s, 0, 0, v.n, v.cols, v.rows⟩ : Vl)))))) [] (by kernel_rfl) (conjC ((decRight_ok v.dn v.ds : SpG g _ _ _ _ _)) (conj1 (fun (hg1 : (decB v.dn v.ds) = true) => ((bare_ok (⟨v.kind, v.s, 0, 0, v.n, v.cols, v.rows⟩ : Vl) : SpG g _ _ _ _ _))))) ?_ ?_
    ·simp [rightK, *]
    ·rfl
   ·(try simp only [blS] at hc3)
    refine zc hG [] [1, 1, 1, 1, 1, 1, 1, 0, 1, 0, 1, 1] (decide ((v.kind : Int) = 3)) (by kernel_rfl) conj0 (fun hc4 => ?_) (fun hc4 => ?_)
    ·(try simp only [blS] at hc4)
     refine zR hG [(14, 10, .call (.c (.d (.b (bareB (⟨v.kind, v.s, v.dn, v.ds, 0, v.cols, v.rows⟩ : Vl))))) [] [])] [] (.c (.d (.b (((decide ((v.n : Int) ≥ 0)) && (decide ((v.n : Int) ≤ 3652058))) && (bareB (⟨v.kind, v.s, v.dn, v.ds, 0, v.cols, v.rows⟩ : Vl)))))) [] (by kernel_rfl) (conj1 (fun (hg1 : ((decide ((v.n : Int) ≥ 0)) && (decide ((v.n : Int) ≤ 3652058))) = true) => ((bare_ok (⟨v.kind, v.s, v.dn, v.ds, 0, v.cols, v.rows⟩ : Vl) : SpG g _ _ _ _ _)))) ?_ ?_
     ·simp [rightK, *]
     ·rfl
    ·(try simp only [blS] at hc4)
     refine zc hG [] [1, 1, 1, 1, 1, 1, 1, 1, 1, 0, 1, 0, 1, 1] (decide ((v.kind : Int) = 4)) (by kernel_rfl) conj0 (fun hc5 => ?_) (fun hc5 => ?_)
     ·(try simp only [blS] at hc5)
      refine zR hG [(17, 10, .call (.c (.d (.b (bareB (⟨v.kind, v.s, v.dn, v.ds, 0, v.cols, v.rows⟩ : Vl))))) [] [])] [] (.c (.d (.b (((decide ((v.n : Int) = 0)) || (decide ((v.n : Int) = 1))) && (bareB (⟨v.kind, v.s, v.dn, v.ds, 0, v.cols, v.rows⟩ : Vl)))))) [] (by kernel_rfl) (conj1 (fun (hg1 : ((decide ((v.n : Int) = 0)) || (decide ((v.n : Int) = 1))) = true) => ((bare_ok (⟨v.kind, v.s, v.dn, v.ds, 0, v.cols, v.rows⟩ : Vl) : SpG g _ _ _ _ _)))) ?_ ?_
      ·simp [rightK, *]
      ·rfl
     ·(try simp only [blS] at hc5)
      refine zC hG [] [1, 1, 1, 1, 1, 1, 1, 1, 1, 1, 1, 0, 1, 0, 1, 1] (decide ((v.kind : Int) = 5)) (⟨[(1, [], .c (.bx 100 0)), (2, [], .c (.d (.b false))), (3, [], .c (.bx 201 0))], [(100, .box 30 [.d (.i v.kind), .d (.s (S v.s)), .d (.i v.dn), .d (.i v.ds), .d (.i v.n), .d (.sl 1 (strs v.cols)), .d (.sl 1 (rowsD v.rows))]), (201, .box 30 [.d (.i v.kind), .d (.s (S v.s)), .d (.i v.dn), .d (.i v.ds), .d (.i v.n), .d (.sl 1 (strs v.cols)), .d (.sl 1 (rowsD v.rows))])]⟩) (by kernel_rfl) conj0 (fun hc6 => ?_) (fun hc6 => ?_)
      ·(try simp only [blS] at hc6)
       refine zR hG [(20, 4, .call (.c (.d (.b T))) [] []), (20, 7, .call (.c (.d (.b (bareB (⟨v.kind, v.s, v.dn, v.ds, v.n, [], []⟩ : Vl))))) [] [])] [] (.c (.d (.b (T && (bareB (⟨v.kind, v.s, v.dn, v.ds, v.n, [], []⟩ : Vl)))))) [] (by kernel_rfl) (conjC ((hT : SpG g _ _ _ _ _)) (conj1 (fun (hg1 : T = true) => ((spec_mask (ins := [.agg [.d (.i v.kind), .d (.s (S v.s)), .d (.i v.dn), .d (.i v.ds), .d (.i v.n), .d (.nil), .d (.nil)]]) [[none, none, none, none, none, some 1, some 1]] (bare_ok (⟨v.kind, v.s, v.dn, v.ds, v.n, [], []⟩ : Vl)) : SpG g _ _ _ _ _))))) ?_ ?_
       ·simp [rightK, *]
       ·rfl
      ·(try simp only [blS] at hc6)
       refine zR hG [] [] (.c (.d (.b false))) [] (by kernel_rfl) conj0 ?_ ?_
       ·simp [rightK, *]
       ·rfl
def zq6 := And.intro @List.length_map.{0, 0} (And.intro @inR.eq_1 (And.intro @maxLen.eq_1 (And.intro @rowD.eq_1 (And.intro @rowsD.eq_1 (@strs.eq_1)))))
def zq7 := And.intro @List.length_map.{0, 0} (And.intro @rowD.eq_1 (And.intro @rowsD.eq_1 (And.intro @strs.eq_1 (@valsD.eq_1))))
theorem rightTable_of (cols : List (List UInt8)) (rows : List (List Cl)) (hR : ∀ c : Cl, (∃ r ∈ rows, c ∈ r) → ¬ c.kind = 5 → SpG g 13 [clArg c] [] (.c (.d (.b (rightK false c.toV)))) []) :
  SpG g 40 [.c (.d (.sl 1 (strs cols))), .c (.d (.sl 1 (rowsD rows)))] [] (.c (.d (.b (tableB cols rows)))) [] := by
 refine enterB 64 Tryz.func40 (by kernel_rfl) fun fr hG => ?_
 refine stepLen 0 rfl fun hl0 => ?_
 refine stepLen 1 rfl fun hl1 => ?_
 refine zC hG [] [1, 0, 1] ((decide ((((strs cols).length : Int) : Int) > 8)) || (decide ((((rowsD rows).length : Int) : Int) > 100))) (⟨[(0, [], .c (.d (.sl 1 (strs cols)))), (1, [], .c (.d (.sl 1 (rowsD rows)))), (4, [], .c (.d (.b false)))], []⟩) (by kernel_rfl) conj0 (fun hc1 => ?_) (fun hc1 => ?_)
 ·(try simp only [zq4] at hc1)
  refine zR hG [] [] (.c (.d (.b false))) [] (by kernel_rfl) conj0 ?_ ?_
  ·rw [tableB_long hc1]
  ·rfl
 ·(try simp only [zq4] at hc1)
  refine zL hG [] [0, 1, 0, 1, 1] (fun (zz : Nat) => match zz with | k => (cols.length - k, ⟨[(0, [], .c (.d (.sl 1 (strs cols)))), (1, [], .c (.d (.sl 1 (rowsD rows)))), (4, [], .c (.d (.b false))), (19, [], .c (.d (.sl 1 (strs cols)))), (20, [], .c (.d (.i ((strs cols).length : Int)))), (21, [], .c (.d (.i (k : Int))))], []⟩, k ≤ cols.length ∧ ∀ j, j < k → nameAt cols j = true)) 0 (by kernel_rfl) conj0 (by kernel_rfl) ?_ ?_
  ·exact ⟨Nat.zero_le _, fun j hj => by omega⟩
  rintro k ⟨hk, hn⟩
  refine zc hG [] [0, 1] (decide (((k : Int) : Int) < ((strs cols).length : Int))) (by kernel_rfl) conj0 (fun hc3 => ?_) (fun hc3 => ?_)
  ·(try simp only [zq4] at hc3)
   refine zc hG [(5, 1, .elem (strD ((cols).getD k []))), (6, 1, .call (.c (.d (.b (isNameL ((cols).getD k []))))) [] []), (6, 8, .call (.c (.d (.b (decide (((cols).getD k []) ∈ (((cols).take k).drop 0)))))) [] [])] [1, 1, 0, 0, 1, 1] ((!(isNameL ((cols).getD k []))) || (decide (((cols).getD k []) ∈ (((cols).take k).drop 0)))) (by kernel_rfl) (conjC (show (0 : Int) ≤ (k : Int) ∧ (strs cols)[k]? = some (strD ((cols).getD k [])) from (by intros; exact map_at [] (by omega) (by (try simp only [zq5] at *); omega))) (conjC ((isName_ok ((cols).getD k []) : SpG g _ _ _ _ _)) (conjC (show (!(isNameL ((cols).getD k []))) = false → (0 : Int) ≤ 0 ∧ (0 : Int) ≤ (k : Int) ∧ (k : Int) ≤ ((strs cols).length : Int) from (by (try simp only [zq6] at *); omega)) (conj1 (fun (hg1 : (!(isNameL ((cols).getD k []))) = false) => ((contains_at (es := ((strs cols).take k).drop 0) (l := ((cols).take k).drop 0) (by simp only [strs, List.map_take, List.map_drop]) ((cols).getD k []) : SpG g _ _ _ _ _))))))) (fun hc4 => ?_) (fun hc4 => ?_)
   ·(try simp only [zq4] at hc4)
    refine zE hG [] .ret (⟨[(0, [], .c (.d (.sl 1 (strs cols)))), (1, [], .c (.d (.sl 1 (rowsD rows)))), (4, [], .c (.d (.b false)))], []⟩) (by kernel_rfl) conj0 rfl ?_
    refine zR hG [] [] (.c (.d (.b false))) [] (by kernel_rfl) conj0 ?_ ?_
    ·rw [tableB_name (k := k) (by omega) ?_]
     simp only [nameAt, Bool.and_eq_false_iff, Bool.not_eq_false', decide_eq_true_eq]
     exact hc4
    ·rfl
   ·(try simp only [zq4] at hc4)
    refine zD hG [] (k + 1) (by kernel_rfl) (conj1 (show inR ((k : Int) + 1) from (by (try simp only [zq6] at *); omega))) ?_ ?_
    ·(try dsimp only); omega
    ·refine ⟨by omega, below_succ hn ?_⟩
     simp only [nameAt, Bool.and_eq_true, Bool.not_eq_true', decide_eq_false_iff_not]
     exact hc4
  ·(try simp only [zq4] at hc3)
   refine zE hG [] (.exit 0) (⟨[(0, [], .c (.d (.sl 1 (strs cols)))), (1, [], .c (.d (.sl 1 (rowsD rows)))), (4, [], .c (.d (.b false)))], []⟩) (by kernel_rfl) conj0 rfl ?_
   refine zL hG [] [0, 1, 0, 1, 1, 1] (fun (zz : Nat) => match zz with | i => (rows.length - i, ⟨[(0, [], .c (.d (.sl 1 (strs cols)))), (4, [], .c (.d (.b false))), (37, [], .c (.d (.sl 1 (rowsD rows)))), (38, [], .c (.d (.i ((rowsD rows).length : Int)))), (39, [], .c (.d (.i (i : Int))))], []⟩, i ≤ rows.length ∧ ∀ j, j < i → rowAt cols rows j = true)) 0 (by kernel_rfl) conj0 (by kernel_rfl) ?_ ?_
   ·exact ⟨Nat.zero_le _, fun j hj => by omega⟩
   rintro i ⟨hi, hr⟩
   refine zc hG [] [0, 1] (decide (((i : Int) : Int) < ((rowsD rows).length : Int))) (by kernel_rfl) conj0 (fun hc6 => ?_) (fun hc6 => ?_)
   ·(try simp only [zq4] at hc6)
    refine zC hG [(11, 0, .elem (rows1 ((rows).getD i [])))] [1, 0, 1, 0, 0, 1, 1] (!decide ((((rowD ((rows).getD i [])).length : Int) : Int) = ((strs cols).length : Int))) (⟨[(0, [], .c (.d (.sl 1 (strs cols)))), (4, [], .c (.d (.b false))), (8, [], .c (.d (.sl 7 (rowD ((rows).getD i []))))), (37, [], .c (.d (.sl 1 (rowsD rows)))), (38, [], .c (.d (.i ((rowsD rows).length : Int)))), (39, [], .c (.d (.i (i : Int))))], []⟩) (by kernel_rfl) (conj1 (show (0 : Int) ≤ (i : Int) ∧ (rowsD rows)[i]? = some (rows1 ((rows).getD i [])) from (by intros; exact map_at _ (by omega) (by (try simp only [zq7] at *); omega)))) (fun hc7 => ?_) (fun hc7 => ?_)
    ·(try simp only [zq4] at hc7)
     refine zE hG [] .ret (⟨[(4, [], .c (.d (.b false)))], []⟩) (by kernel_rfl) conj0 rfl ?_
     refine zR hG [] [] (.c (.d (.b false))) [] (by kernel_rfl) conj0 ?_ ?_
     ·rw [tableB_row (k := i) (by omega) (rowAt_len hc7)]
     ·rfl
    ·(try simp only [zq4] at hc7)
     refine zL hG [] [0, 1, 1, 1, 0, 0, 1, 1] (fun (zz : Nat) => match zz with | m => ((rows.getD i []).length - m, ⟨[(0, [], .c (.d (.sl 1 (strs cols)))), (4, [], .c (.d (.b false))), (37, [], .c (.d (.sl 1 (rowsD rows)))), (38, [], .c (.d (.i ((rowsD rows).length : Int)))), (39, [], .c (.d (.i (i : Int)))), (48, [], .c (.d (.sl 7 (rowD ((rows).getD i []))))), (49, [], .c (.d (.i ((rowD ((rows).getD i [])).length : Int)))), (50, [], .c (.d (.i (m : Int))))], []⟩, m ≤ (rows.getD i []).length ∧ ∀ j, j < m → cellAt (rows.getD i []) j = true)) 0 (by kernel_rfl) conj0 (by kernel_rfl) ?_ ?_
     ·exact ⟨Nat.zero_le _, fun j hj => by omega⟩
     rintro m ⟨hm, hcl⟩
     refine zc hG [] [0, 1] (decide (((m : Int) : Int) < ((rowD ((rows).getD i [])).length : Int))) (by kernel_rfl) conj0 (fun hc9 => ?_) (fun hc9 => ?_)
     ·(try simp only [zq4] at hc9)
      refine zc hG [(16, 0, .elem (ClD (((rows).getD i []).getD m Cl.z))), (17, 5, .call (.c (.d (.b (rightK false (((rows).getD i []).getD m Cl.z).toV)))) [] [])] [1, 1, 0, 0, 1, 1] ((decide (((((rows).getD i []).getD m Cl.z).kind : Int) = 5)) || (!(rightK false (((rows).getD i []).getD m Cl.z).toV))) (by kernel_rfl) (conjC (show (0 : Int) ≤ (m : Int) ∧ (rowD ((rows).getD i []))[m]? = some (ClD (((rows).getD i []).getD m Cl.z)) from (by intros; exact map_at _ (by omega) (by (try simp only [zq7] at *); omega))) (conj1 (fun (hg1 : (decide (((((rows).getD i []).getD m Cl.z).kind : Int) = 5)) = false) => ((hR (((rows).getD i []).getD m Cl.z) ⟨rows.getD i [], getD_mem (by omega), getD_mem (by (try simp only [rowD, List.length_map] at *); omega)⟩ (by simpa using hg1) : SpG g _ _ _ _ _))))) (fun hc10 => ?_) (fun hc10 => ?_)
      ·(try simp only [zq4] at hc10)
       refine zE hG [] .ret (⟨[(0, [], .c (.d (.sl 1 (strs cols)))), (4, [], .c (.d (.b false))), (37, [], .c (.d (.sl 1 (rowsD rows)))), (38, [], .c (.d (.i ((rowsD rows).length : Int)))), (39, [], .c (.d (.i (i : Int))))], []⟩) (by kernel_rfl) conj0 rfl ?_
       refine zE hG [] .ret (⟨[(4, [], .c (.d (.b false)))], []⟩) (by kernel_rfl) conj0 rfl ?_
       refine zR hG [] [] (.c (.d (.b false))) [] (by kernel_rfl) conj0 ?_ ?_
       ·rw [tableB_row (k := i) (by omega) (rowAt_cell (m := m) (by omega) ?_)]
        simp only [cellAt, Bool.and_eq_false_iff, Bool.not_eq_false', decide_eq_true_eq]
        exact hc10
       ·rfl
      ·(try simp only [zq4] at hc10)
       refine zD hG [] (m + 1) (by kernel_rfl) (conj1 (show inR ((m : Int) + 1) from (by (try simp only [zq6] at *); omega))) ?_ ?_
       ·(try dsimp only); omega
       ·refine ⟨by omega, below_succ hcl ?_⟩
        simp only [cellAt, Bool.and_eq_true, Bool.not_eq_true', decide_eq_false_iff_not]
        exact hc10
     ·(try simp only [zq4] at hc9)
      refine zE hG [] (.exit 4) (⟨[(0, [], .c (.d (.sl 1 (strs cols)))), (4, [], .c (.d (.b false))), (37, [], .c (.d (.sl 1 (rowsD rows)))), (38, [], .c (.d (.i ((rowsD rows).length : Int)))), (39, [], .c (.d (.i (i : Int))))], []⟩) (by kernel_rfl) conj0 rfl ?_
      refine zD hG [] (i + 1) (by kernel_rfl) (conj1 (show inR ((i : Int) + 1) from (by (try simp only [zq6] at *); omega))) ?_ ?_
      ·(try dsimp only); omega
      ·refine ⟨by omega, below_succ hr ?_⟩
       have : m = (rows.getD i []).length := by omega
       subst this
       simp only [rowAt, Bool.and_eq_true, decide_eq_true_eq]
       exact ⟨by omega, allR_true hcl⟩
   ·(try simp only [zq4] at hc6)
    refine zE hG [] (.exit 2) (⟨[(4, [], .c (.d (.b false)))], []⟩) (by kernel_rfl) conj0 rfl ?_
    refine zR hG [] [] (.c (.d (.b true))) [] (by kernel_rfl) conj0 ?_ ?_
    ·rw [tableB_ok hc1 (fun j hj => hn j (by omega)) (fun j hj => hr j (by omega))]
    ·rfl
theorem cell_right (c : Cl) (hs : c.s.length ≤ maxLen) (hk : ¬ c.kind = 5) : SpG g 13 [clArg c] [] (.c (.d (.b (rightK false c.toV)))) [] := by
 have h := right_of (g := g) c.toV _ hs (rightTable_of [] [] (fun c ⟨r, hr, _⟩ => by cases hr))
 have e : rightK (tableB [] []) c.toV = rightK false c.toV := by
  have : c.toV.kind = c.kind := rfl
  simp [rightK, this, hk]
 rw [e] at h
 exact h
theorem right_ok (v : Vl) (h : v.fit) : SpG g 13 [vArg v] [] (.c (.d (.b (rightB v)))) [] :=
 right_of v _ h.s (rightTable_of v.cols v.rows fun c ⟨r, hr, hc⟩ hk => cell_right c (h.cells r hr c hc) hk)
end Go.Proofs.YtmpgfchkkemngaaGreatDoor
namespace Go.Proofs.YtmpgfchkkemngaaGreatDoor
open Go.RowKit Go.V
open Go.Eng (inR byteAt u8 bytesV)
variable {g : Gv}
theorem eq_of_all {α : Type} {a b : List α} (z : α) (hl : a.length = b.length) (h : ∀ j, j < a.length → a.getD j z = b.getD j z) : a = b := by
 apply List.ext_getElem hl
 intro j h1 h2
 have := h j h1
 simpa [h1, h2] using this
theorem ne_of_at {α : Type} {a b : List α} (z : α) {j : Nat} (h : ¬ a.getD j z = b.getD j z) : ¬ a = b := fun e => h (by rw [e])
def eqK (T : Bool) (a b : Vl) : Bool := decide (a.kind = b.kind) && decide (a.s = b.s) && (a.dn == b.dn && a.ds == b.ds) && decide (a.n = b.n) && decide (a.cols = b.cols) && T
theorem eqK_eq {a b : Vl} : eqK (decide (a.rows = b.rows)) a b = decide (a = b) := by
 obtain ⟨k, s, dn, ds, n, c, r⟩ := a
 obtain ⟨k', s', dn', ds', n', c', r'⟩ := b
 simp only [eqK, Vl.mk.injEq]
 by_cases h1 : k = k' <;> by_cases h2 : s = s' <;> by_cases h3 : dn = dn' <;> by_cases h4 : ds = ds' <;> by_cases h5 : n = n' <;> by_cases h6 : c = c' <;> by_cases h7 : r = r' <;> simp [h1, h2, h3, h4, h5, h6, h7]
theorem toV_inj {a b : Cl} : a.toV = b.toV ↔ a = b := by
 obtain ⟨k, s, dn, ds, n⟩ := a
 obtain ⟨k', s', dn', ds', n'⟩ := b
 simp [Cl.toV]
theorem nameStep {l : List (List UInt8)} {k m : Nat} {b : Bool} (hb : b = (isNameL (l.getD k []) && decide (l.getD k [] ∉ l.take m))) (hm : m < l.length) :
  (b && !((S (l.getD m [])).toList == (S (l.getD k [])).toList)) = (isNameL (l.getD k []) && decide (l.getD k [] ∉ l.take (m + 1))) := by
 rw [hb, S_beq]
 have : l.getD k [] ∈ l.take (m + 1) ↔ l.getD k [] ∈ l.take m ∨ l.getD k [] = l.getD m [] := by
  rw [List.take_add_one, List.mem_append]; simp [hm]
 rw [Bool.and_assoc]
 congr 1
 by_cases h1 : l.getD k [] ∈ l.take m <;> by_cases h2 : l.getD k [] = l.getD m [] <;> simp_all [eq_comm]
theorem nameAt_of {l : List (List UInt8)} {k m : Nat} {b : Bool} (hb : b = (isNameL (l.getD k []) && decide (l.getD k [] ∉ l.take m))) (hm : m = k) (h : b = true) : nameAt l k = true := by
 subst hm; rw [hb] at h; simpa [nameAt] using h
theorem nameAt_not {l : List (List UInt8)} {k m : Nat} {b : Bool} (hb : b = (isNameL (l.getD k []) && decide (l.getD k [] ∉ l.take m))) (hm : m = k) (h : b = false) : nameAt l k = false := by
 subst hm; rw [hb] at h; simpa [nameAt] using h
theorem only_n {v : Vl} : decide (v = ⟨v.kind, [], 0, 0, v.n, [], []⟩) = bareB { v with n := 0 } := by
 obtain ⟨k, s, dn, ds, n, c, r⟩ := v
 by_cases h2 : s = [] <;> by_cases h3 : dn = 0 <;> by_cases h4 : ds = 0 <;> by_cases h6 : c = [] <;> by_cases h7 : r = [] <;> simp [bareB, h2, h3, h4, h6, h7]
theorem only_s {v : Vl} : decide (v = ⟨v.kind, v.s, 0, 0, 0, [], []⟩) = bareB { v with s := [] } := by
 obtain ⟨k, s, dn, ds, n, c, r⟩ := v
 by_cases h2 : n = 0 <;> by_cases h3 : dn = 0 <;> by_cases h4 : ds = 0 <;> by_cases h6 : c = [] <;> by_cases h7 : r = [] <;> simp [bareB, h2, h3, h4, h6, h7]
theorem only_d {v : Vl} : decide (v = ⟨v.kind, [], v.dn, v.ds, 0, [], []⟩) = bareB { v with dn := 0, ds := 0 } := by
 obtain ⟨k, s, dn, ds, n, c, r⟩ := v
 by_cases h2 : n = 0 <;> by_cases h3 : s = [] <;> by_cases h6 : c = [] <;> by_cases h7 : r = [] <;> simp [bareB, h2, h3, h6, h7]
theorem only_t {v : Vl} : decide (v = ⟨v.kind, [], 0, 0, 0, v.cols, v.rows⟩) = bareB { v with cols := [], rows := [] } := by
 obtain ⟨k, s, dn, ds, n, c, r⟩ := v
 by_cases h2 : n = 0 <;> by_cases h3 : dn = 0 <;> by_cases h4 : ds = 0 <;> by_cases h6 : s = [] <;> simp [bareB, h2, h3, h4, h6]
theorem tableB_bad {cols : List (List UInt8)} {rows : List (List Cl)} (h : (allR cols.length (nameAt cols) = false ∨ (cols.length : Int) > 8) ∨ (rows.length : Int) > 100) : tableB cols rows = false := by
 rcases h with (h | h) | h
 ·rw [tableB, h]; simp
 ·exact tableB_long (.inl h)
 ·exact tableB_long (.inr h)
def zq8 := And.intro @List.length_map.{0, 0} (And.intro @inR.eq_1 (And.intro @maxLen.eq_1 (And.intro @rowD.eq_1 (And.intro @rowsD.eq_1 (And.intro @strs.eq_1 (@valsD.eq_1))))))
theorem refStrings_ok (a b : List (List UInt8)) :
  SpG g 59 [.c (.d (.sl 1 (strs a))), .c (.d (.sl 1 (strs b)))] [] (.c (.d (.b (decide (a = b))))) [] := by
 refine enterB 26 Tryz.func59 (by kernel_rfl) fun fr hG => ?_
 refine stepLen 0 rfl fun hl0 => ?_
 refine stepLen 1 rfl fun hl1 => ?_
 refine zC hG [] [1, 0, 1] (!decide ((((strs a).length : Int) : Int) = ((strs b).length : Int))) (⟨[(0, [], .c (.d (.sl 1 (strs a)))), (1, [], .c (.d (.sl 1 (strs b)))), (4, [], .c (.d (.b false)))], []⟩) (by kernel_rfl) conj0 (fun hc1 => ?_) (fun hc1 => ?_)
 ·(try simp only [zq4] at hc1)
  refine zR hG [] [] (.c (.d (.b false))) [] (by kernel_rfl) conj0 ?_ ?_
  ·have : ¬ a = b := fun e => hc1 (by rw [e])
   simp [this]
  ·rfl
 ·(try simp only [zq4] at hc1)
  refine zL hG [] [0, 1, 0, 1, 1] (fun (zz : Nat) => match zz with | k => (a.length - k, ⟨[(0, [], .c (.d (.sl 1 (strs a)))), (1, [], .c (.d (.sl 1 (strs b)))), (4, [], .c (.d (.b false))), (5, [], .c (.d (.i (k : Int))))], []⟩, k ≤ a.length ∧ ∀ j, j < k → a.getD j [] = b.getD j [])) 0 (by kernel_rfl) conj0 (by kernel_rfl) ?_ ?_
  ·exact ⟨Nat.zero_le _, fun j hj => by omega⟩
  rintro k ⟨hk, hn⟩
  refine zc hG [] [1, 0] (decide (((k : Int) : Int) < ((strs a).length : Int))) (by kernel_rfl) conj0 (fun hc3 => ?_) (fun hc3 => ?_)
  ·(try simp only [zq4] at hc3)
   refine zc hG [(6, 2, .elem (strD ((a).getD k []))), (6, 6, .elem (strD ((b).getD k [])))] [1, 0, 0, 1] (!((S ((a).getD k [])).toList == (S ((b).getD k [])).toList)) (by kernel_rfl) (conjC (show (0 : Int) ≤ (k : Int) ∧ (strs a)[k]? = some (strD ((a).getD k [])) from (by intros; exact map_at [] (by omega) (by (try simp only [zq5] at *); omega))) (conj1 (show (0 : Int) ≤ (k : Int) ∧ (strs b)[k]? = some (strD ((b).getD k [])) from (by intros; exact map_at [] (by omega) (by (try simp only [zq5] at *); omega))))) (fun hc4 => ?_) (fun hc4 => ?_)
   ·(try simp only [zq4] at hc4)
    refine zE hG [] .ret (⟨[(4, [], .c (.d (.b false)))], []⟩) (by kernel_rfl) conj0 rfl ?_
    refine zR hG [] [] (.c (.d (.b false))) [] (by kernel_rfl) conj0 ?_ ?_
    ·have : ¬ a = b := ne_of_at [] (j := k) (by simpa using hc4)
     simp [this]
    ·rfl
   ·(try simp only [zq4] at hc4)
    refine zD hG [] (k + 1) (by kernel_rfl) (conj1 (show inR ((k : Int) + 1) from (by intros; (try simp only [zq8] at *); omega))) ?_ ?_
    ·(try dsimp only); omega
    ·exact ⟨by omega, below_succ hn (by simpa using hc4)⟩
  ·(try simp only [zq4] at hc3)
   refine zE hG [] (.exit 0) (⟨[(4, [], .c (.d (.b false)))], []⟩) (by kernel_rfl) conj0 rfl ?_
   refine zR hG [] [] (.c (.d (.b true))) [] (by kernel_rfl) conj0 ?_ ?_
   ·have : a = b := eq_of_all [] (by omega) (fun j hj => hn j (by omega))
    simp [this]
   ·rfl
theorem refSameRows_nil' (a b : List (List Cl)) (ha : a = []) (hb : b = []) :
  SpG g 60 [.c (.d (.sl 1 (rowsD a))), .c (.d (.sl 1 (rowsD b)))] [] (.c (.d (.b true))) [] := by
 refine enterB 29 Tryz.func60 (by kernel_rfl) fun fr hG => ?_
 refine zC hG [] [1, 0, 1] (!decide ((((rowsD a).length : Int) : Int) = ((rowsD b).length : Int))) (⟨[(0, [], .c (.d (.sl 1 (rowsD a)))), (1, [], .c (.d (.sl 1 (rowsD b)))), (4, [], .c (.d (.b false)))], []⟩) (by kernel_rfl) conj0 (fun hc1 => ?_) (fun hc1 => ?_)
 ·(try simp only [zq4] at hc1)
  exfalso; simp [ha, hb] at hc1; try omega
 ·(try simp only [zq4] at hc1)
  refine zL hG [] [0, 1, 0, 1, 1] (fun (zz : Nat) => match zz with | k => (0, ⟨[(0, [], .c (.d (.sl 1 (rowsD a)))), (1, [], .c (.d (.sl 1 (rowsD b)))), (4, [], .c (.d (.b false))), (5, [], .c (.d (.i (k : Int))))], []⟩, k = 0)) 0 (by kernel_rfl) conj0 (by kernel_rfl) ?_ ?_
  ·rfl
  rintro k hk
  refine zc hG [] [1, 0] (decide (((k : Int) : Int) < ((rowsD a).length : Int))) (by kernel_rfl) conj0 (fun hc3 => ?_) (fun hc3 => ?_)
  ·(try simp only [zq4] at hc3)
   exfalso; simp [ha, hb] at hc3; try omega
  ·(try simp only [zq4] at hc3)
   refine zE hG [] (.exit 0) (⟨[(4, [], .c (.d (.b false)))], []⟩) (by kernel_rfl) conj0 rfl ?_
   exact zr hG [] [] (by kernel_rfl) conj0
theorem refSameC_of (a b : List Cl) (hE : ∀ x y : Cl, SpG g 18 [clArg x, clArg y] [] (.c (.d (.b (decide (x = y))))) []) :
  SpG g 23 [.c (.d (.sl 7 (rowD a))), .c (.d (.sl 7 (rowD b)))] [] (.c (.d (.b (decide (a = b))))) [] := by
 refine enterB 29 Tryz.func23 (by kernel_rfl) fun fr hG => ?_
 refine stepLen 0 rfl fun hl0 => ?_
 refine stepLen 1 rfl fun hl1 => ?_
 refine zC hG [] [1, 0, 1] (!decide ((((rowD a).length : Int) : Int) = ((rowD b).length : Int))) (⟨[(0, [], .c (.d (.sl 7 (rowD a)))), (1, [], .c (.d (.sl 7 (rowD b)))), (4, [], .c (.d (.b false)))], []⟩) (by kernel_rfl) conj0 (fun hc1 => ?_) (fun hc1 => ?_)
 ·(try simp only [zq4] at hc1)
  refine zR hG [] [] (.c (.d (.b false))) [] (by kernel_rfl) conj0 ?_ ?_
  ·have : ¬ a = b := fun e => hc1 (by rw [e])
   simp [this]
  ·rfl
 ·(try simp only [zq4] at hc1)
  refine zL hG [] [0, 1, 0, 1, 1] (fun (zz : Nat) => match zz with | k => (a.length - k, ⟨[(0, [], .c (.d (.sl 7 (rowD a)))), (1, [], .c (.d (.sl 7 (rowD b)))), (4, [], .c (.d (.b false))), (5, [], .c (.d (.i (k : Int))))], []⟩, k ≤ a.length ∧ ∀ j, j < k → a.getD j Cl.z = b.getD j Cl.z)) 0 (by kernel_rfl) conj0 (by kernel_rfl) ?_ ?_
  ·exact ⟨Nat.zero_le _, fun j hj => by omega⟩
  rintro k ⟨hk, hn⟩
  refine zc hG [] [1, 0] (decide (((k : Int) : Int) < ((rowD a).length : Int))) (by kernel_rfl) conj0 (fun hc3 => ?_) (fun hc3 => ?_)
  ·(try simp only [zq4] at hc3)
   refine zc hG [(6, 2, .elem (ClD ((a).getD k Cl.z))), (6, 6, .elem (ClD ((b).getD k Cl.z))), (6, 8, .call (.c (.d (.b (decide (((a).getD k Cl.z) = ((b).getD k Cl.z)))))) [] [])] [1, 1, 0, 0, 1] (!(decide (((a).getD k Cl.z) = ((b).getD k Cl.z)))) (by kernel_rfl) (conjC (show (0 : Int) ≤ (k : Int) ∧ (rowD a)[k]? = some (ClD ((a).getD k Cl.z)) from (by intros; exact map_at _ (by omega) (by (try simp only [zq7] at *); omega))) (conjC (show (0 : Int) ≤ (k : Int) ∧ (rowD b)[k]? = some (ClD ((b).getD k Cl.z)) from (by intros; exact map_at _ (by omega) (by (try simp only [zq7] at *); omega))) (conj1 ((hE ((a).getD k Cl.z) ((b).getD k Cl.z) : SpG g _ _ _ _ _))))) (fun hc4 => ?_) (fun hc4 => ?_)
   ·(try simp only [zq4] at hc4)
    refine zE hG [] .ret (⟨[(4, [], .c (.d (.b false)))], []⟩) (by kernel_rfl) conj0 rfl ?_
    refine zR hG [] [] (.c (.d (.b false))) [] (by kernel_rfl) conj0 ?_ ?_
    ·have : ¬ a = b := ne_of_at Cl.z (j := k) (by simpa using hc4)
     simp [this]
    ·rfl
   ·(try simp only [zq4] at hc4)
    refine zD hG [] (k + 1) (by kernel_rfl) (conj1 (show inR ((k : Int) + 1) from (by intros; (try simp only [zq8] at *); omega))) ?_ ?_
    ·(try dsimp only); omega
    ·exact ⟨by omega, below_succ hn (by simpa using hc4)⟩
  ·(try simp only [zq4] at hc3)
   refine zE hG [] (.exit 0) (⟨[(4, [], .c (.d (.b false)))], []⟩) (by kernel_rfl) conj0 rfl ?_
   refine zR hG [] [] (.c (.d (.b true))) [] (by kernel_rfl) conj0 ?_ ?_
   ·have : a = b := eq_of_all Cl.z (by omega) (fun j hj => hn j (by omega))
    simp [this]
   ·rfl
theorem refSameRows_of (a b : List (List Cl)) (hS : ∀ x y : List Cl, SpG g 23 [.c (.d (.sl 7 (rowD x))), .c (.d (.sl 7 (rowD y)))] [] (.c (.d (.b (decide (x = y))))) []) :
  SpG g 60 [.c (.d (.sl 1 (rowsD a))), .c (.d (.sl 1 (rowsD b)))] [] (.c (.d (.b (decide (a = b))))) [] := by
 refine enterB 29 Tryz.func60 (by kernel_rfl) fun fr hG => ?_
 refine stepLen 0 rfl fun hl0 => ?_
 refine stepLen 1 rfl fun hl1 => ?_
 refine zC hG [] [1, 0, 1] (!decide ((((rowsD a).length : Int) : Int) = ((rowsD b).length : Int))) (⟨[(0, [], .c (.d (.sl 1 (rowsD a)))), (1, [], .c (.d (.sl 1 (rowsD b)))), (4, [], .c (.d (.b false)))], []⟩) (by kernel_rfl) conj0 (fun hc1 => ?_) (fun hc1 => ?_)
 ·(try simp only [zq4] at hc1)
  refine zR hG [] [] (.c (.d (.b false))) [] (by kernel_rfl) conj0 ?_ ?_
  ·have : ¬ a = b := fun e => hc1 (by rw [e])
   simp [this]
  ·rfl
 ·(try simp only [zq4] at hc1)
  refine zL hG [] [0, 1, 0, 1, 1] (fun (zz : Nat) => match zz with | k => (a.length - k, ⟨[(0, [], .c (.d (.sl 1 (rowsD a)))), (1, [], .c (.d (.sl 1 (rowsD b)))), (4, [], .c (.d (.b false))), (5, [], .c (.d (.i (k : Int))))], []⟩, k ≤ a.length ∧ ∀ j, j < k → a.getD j [] = b.getD j [])) 0 (by kernel_rfl) conj0 (by kernel_rfl) ?_ ?_
  ·exact ⟨Nat.zero_le _, fun j hj => by omega⟩
  rintro k ⟨hk, hn⟩
  refine zc hG [] [1, 0] (decide (((k : Int) : Int) < ((rowsD a).length : Int))) (by kernel_rfl) conj0 (fun hc3 => ?_) (fun hc3 => ?_)
  ·(try simp only [zq4] at hc3)
   refine zc hG [(6, 2, .elem (rows1 ((a).getD k []))), (6, 6, .elem (rows1 ((b).getD k []))), (6, 8, .call (.c (.d (.b (decide (((a).getD k []) = ((b).getD k [])))))) [] [])] [1, 1, 0, 0, 1] (!(decide (((a).getD k []) = ((b).getD k [])))) (by kernel_rfl) (conjC (show (0 : Int) ≤ (k : Int) ∧ (rowsD a)[k]? = some (rows1 ((a).getD k [])) from (by intros; exact map_at _ (by omega) (by (try simp only [zq7] at *); omega))) (conjC (show (0 : Int) ≤ (k : Int) ∧ (rowsD b)[k]? = some (rows1 ((b).getD k [])) from (by intros; exact map_at _ (by omega) (by (try simp only [zq7] at *); omega))) (conj1 ((hS ((a).getD k []) ((b).getD k []) : SpG g _ _ _ _ _))))) (fun hc4 => ?_) (fun hc4 => ?_)
   ·(try simp only [zq4] at hc4)
    refine zE hG [] .ret (⟨[(4, [], .c (.d (.b false)))], []⟩) (by kernel_rfl) conj0 rfl ?_
    refine zR hG [] [] (.c (.d (.b false))) [] (by kernel_rfl) conj0 ?_ ?_
    ·have : ¬ a = b := ne_of_at [] (j := k) (by simpa using hc4)
     simp [this]
    ·rfl
   ·(try simp only [zq4] at hc4)
    refine zD hG [] (k + 1) (by kernel_rfl) (conj1 (show inR ((k : Int) + 1) from (by intros; (try simp only [zq8] at *); omega))) ?_ ?_
    ·(try dsimp only); omega
    ·exact ⟨by omega, below_succ hn (by simpa using hc4)⟩
  ·(try simp only [zq4] at hc3)
   refine zE hG [] (.exit 0) (⟨[(4, [], .c (.d (.b false)))], []⟩) (by kernel_rfl) conj0 rfl ?_
   refine zR hG [] [] (.c (.d (.b true))) [] (by kernel_rfl) conj0 ?_ ?_
   ·have : a = b := eq_of_all [] (by omega) (fun j hj => hn j (by omega))
    simp [this]
   ·rfl
theorem refEqual_of (a b : Vl) (T : Bool) (hT : SpG g 60 [.c (.d (.sl 1 (rowsD a.rows))), .c (.d (.sl 1 (rowsD b.rows)))] [] (.c (.d (.b T))) []) :
  SpG g 18 [.agg [.d (.i a.kind), .d (.s (S a.s)), .d (.i a.dn), .d (.i a.ds), .d (.i a.n), .d (.sl 1 (strs a.cols)), .d (.sl 1 (rowsD a.rows))], .agg [.d (.i b.kind), .d (.s (S b.s)), .d (.i b.dn), .d (.i b.ds), .d (.i b.n), .d (.sl 1 (strs b.cols)), .d (.sl 1 (rowsD b.rows))]] [] (.c (.d (.b (eqK T a b)))) [] := by
 refine enterB 45 Tryz.func18 (by kernel_rfl) fun fr hG => ?_
 refine zR hG [(1, 31, .call (.c (.d (.b (decide ((a.cols) = (b.cols)))))) [] []), (1, 38, .call (.c (.d (.b T))) [] [])] [] (.c (.d (.b ((((((decide ((a.kind : Int) = b.kind)) && ((S a.s).toList == (S b.s).toList)) && (((a.dn : Int) == b.dn) && ((a.ds : Int) == b.ds))) && (decide ((a.n : Int) = b.n))) && (decide ((a.cols) = (b.cols)))) && T)))) [] (by kernel_rfl) (conjC (fun (hg1 : ((((decide ((a.kind : Int) = b.kind)) && ((S a.s).toList == (S b.s).toList)) && (((a.dn : Int) == b.dn) && ((a.ds : Int) == b.ds))) && (decide ((a.n : Int) = b.n))) = true) => ((refStrings_ok (a.cols) (b.cols) : SpG g _ _ _ _ _))) (conj1 (fun (hg1 : (((((decide ((a.kind : Int) = b.kind)) && ((S a.s).toList == (S b.s).toList)) && (((a.dn : Int) == b.dn) && ((a.ds : Int) == b.ds))) && (decide ((a.n : Int) = b.n))) && (decide ((a.cols) = (b.cols)))) = true) => ((hT : SpG g _ _ _ _ _))))) ?_ ?_
 ·simp only [S_beq]; rfl
 ·rfl
theorem refSameRows_nil : SpG g 60 [.c (.d (.sl 1 [])), .c (.d (.sl 1 []))] [] (.c (.d (.b true))) [] := by
 have h := refSameRows_nil' (g := g) [] [] rfl rfl
 exact h
theorem refEqualC (x y : Cl) : SpG g 18 [clArg x, clArg y] [] (.c (.d (.b (decide (x = y))))) [] := by
 have h := refEqual_of (g := g) x.toV y.toV _ refSameRows_nil
 have e : eqK true x.toV y.toV = decide (x = y) := by
  have := eqK_eq (a := x.toV) (b := y.toV)
  rw [show decide (x.toV.rows = y.toV.rows) = true from rfl] at this
  rw [this]; simp [toV_inj]
 rw [e] at h
 exact h
theorem refSameC_ok (a b : List Cl) : SpG g 23 [.c (.d (.sl 7 (rowD a))), .c (.d (.sl 7 (rowD b)))] [] (.c (.d (.b (decide (a = b))))) [] := refSameC_of a b refEqualC
theorem refSameRows_ok (a b : List (List Cl)) : SpG g 60 [.c (.d (.sl 1 (rowsD a))), .c (.d (.sl 1 (rowsD b)))] [] (.c (.d (.b (decide (a = b))))) [] := refSameRows_of a b refSameC_ok
theorem refEqual_ok (a b : Vl) : SpG g 18 [vArg a, vArg b] [] (.c (.d (.b (decide (a = b))))) [] := by
 have h := refEqual_of (g := g) a b _ (refSameRows_ok a.rows b.rows)
 rw [eqK_eq] at h
 exact h
theorem refSame_ok (a b : List Vl) :
  SpG g 23 [.c (.d (.sl 7 (valsD a))), .c (.d (.sl 7 (valsD b)))] [] (.c (.d (.b (decide (a = b))))) [] := by
 refine enterB 29 Tryz.func23 (by kernel_rfl) fun fr hG => ?_
 refine stepLen 0 rfl fun hl0 => ?_
 refine stepLen 1 rfl fun hl1 => ?_
 refine zC hG [] [1, 0, 1] (!decide ((((valsD a).length : Int) : Int) = ((valsD b).length : Int))) (⟨[(0, [], .c (.d (.sl 7 (valsD a)))), (1, [], .c (.d (.sl 7 (valsD b)))), (4, [], .c (.d (.b false)))], []⟩) (by kernel_rfl) conj0 (fun hc1 => ?_) (fun hc1 => ?_)
 ·(try simp only [zq4] at hc1)
  refine zR hG [] [] (.c (.d (.b false))) [] (by kernel_rfl) conj0 ?_ ?_
  ·have : ¬ a = b := fun e => hc1 (by rw [e])
   simp [this]
  ·rfl
 ·(try simp only [zq4] at hc1)
  refine zL hG [] [0, 1, 0, 1, 1] (fun (zz : Nat) => match zz with | k => (a.length - k, ⟨[(0, [], .c (.d (.sl 7 (valsD a)))), (1, [], .c (.d (.sl 7 (valsD b)))), (4, [], .c (.d (.b false))), (5, [], .c (.d (.i (k : Int))))], []⟩, k ≤ a.length ∧ ∀ j, j < k → a.getD j Vl.z = b.getD j Vl.z)) 0 (by kernel_rfl) conj0 (by kernel_rfl) ?_ ?_
  ·exact ⟨Nat.zero_le _, fun j hj => by omega⟩
  rintro k ⟨hk, hn⟩
  refine zc hG [] [1, 0] (decide (((k : Int) : Int) < ((valsD a).length : Int))) (by kernel_rfl) conj0 (fun hc3 => ?_) (fun hc3 => ?_)
  ·(try simp only [zq4] at hc3)
   refine zc hG [(6, 2, .elem (VlD ((a).getD k Vl.z))), (6, 6, .elem (VlD ((b).getD k Vl.z))), (6, 8, .call (.c (.d (.b (decide (((a).getD k Vl.z) = ((b).getD k Vl.z)))))) [] [])] [1, 1, 0, 0, 1] (!(decide (((a).getD k Vl.z) = ((b).getD k Vl.z)))) (by kernel_rfl) (conjC (show (0 : Int) ≤ (k : Int) ∧ (valsD a)[k]? = some (VlD ((a).getD k Vl.z)) from (by intros; exact map_at _ (by omega) (by (try simp only [zq7] at *); omega))) (conjC (show (0 : Int) ≤ (k : Int) ∧ (valsD b)[k]? = some (VlD ((b).getD k Vl.z)) from (by intros; exact map_at _ (by omega) (by (try simp only [zq7] at *); omega))) (conj1 ((refEqual_ok ((a).getD k Vl.z) ((b).getD k Vl.z) : SpG g _ _ _ _ _))))) (fun hc4 => ?_) (fun hc4 => ?_)
   ·(try simp only [zq4] at hc4)
    refine zE hG [] .ret (⟨[(4, [], .c (.d (.b false)))], []⟩) (by kernel_rfl) conj0 rfl ?_
    refine zR hG [] [] (.c (.d (.b false))) [] (by kernel_rfl) conj0 ?_ ?_
    ·have : ¬ a = b := ne_of_at Vl.z (j := k) (by simpa using hc4)
     simp [this]
    ·rfl
   ·(try simp only [zq4] at hc4)
    refine zD hG [] (k + 1) (by kernel_rfl) (conj1 (show inR ((k : Int) + 1) from (by intros; (try simp only [zq8] at *); omega))) ?_ ?_
    ·(try dsimp only); omega
    ·exact ⟨by omega, below_succ hn (by simpa using hc4)⟩
  ·(try simp only [zq4] at hc3)
   refine zE hG [] (.exit 0) (⟨[(4, [], .c (.d (.b false)))], []⟩) (by kernel_rfl) conj0 rfl ?_
   refine zR hG [] [] (.c (.d (.b true))) [] (by kernel_rfl) conj0 ?_ ?_
   ·have : a = b := eq_of_all Vl.z (by omega) (fun j hj => hn j (by omega))
    simp [this]
   ·rfl
theorem refNames_ok (l : List (List UInt8)) (hf : ∀ t, t ∈ l → t.length ≤ maxLen) :
  SpG g 76 [.c (.d (.sl 1 (strs l)))] [] (.c (.d (.b (allR l.length (nameAt l))))) [] := by
 refine enterB 36 Tryz.func76 (by kernel_rfl) fun fr hG => ?_
 refine stepLen 0 rfl fun hl0 => ?_
 refine zL hG [] [0, 1, 0, 1] (fun (zz : Nat) => match zz with | k => (l.length - k, ⟨[(0, [], .c (.d (.sl 1 (strs l)))), (2, [], .c (.d (.b false))), (3, [], .c (.d (.i (k : Int))))], []⟩, k ≤ l.length ∧ ∀ j, j < k → nameAt l j = true)) 0 (by kernel_rfl) conj0 (by kernel_rfl) ?_ ?_
 ·exact ⟨Nat.zero_le _, fun j hj => by omega⟩
 rintro k ⟨hk, hn⟩
 refine zc hG [] [1, 0] (decide (((k : Int) : Int) < ((strs l).length : Int))) (by kernel_rfl) conj0 (fun hc2 => ?_) (fun hc2 => ?_)
 ·(try simp only [zq4] at hc2)
  refine zL hG [(4, 2, .elem (strD ((l).getD k []))), (4, 4, .call (.c (.d (.b (isNameL ((l).getD k []))))) [] [])] [0, 1, 0, 1, 0, 0, 1] (fun (zz : Bool × Nat) => match zz with | (b, m) => (k - m, ⟨[(0, [], .c (.d (.sl 1 (strs l)))), (2, [], .c (.d (.b false))), (3, [], .c (.d (.i (k : Int)))), (4, [], .c (.d (.b b))), (5, [], .c (.d (.i (m : Int))))], []⟩, m ≤ k ∧ b = (isNameL (l.getD k []) && decide (l.getD k [] ∉ l.take m)))) (isNameL (l.getD k []), 0) (by kernel_rfl) (conjC (show (0 : Int) ≤ (k : Int) ∧ (strs l)[k]? = some (strD ((l).getD k [])) from (by intros; exact map_at [] (by omega) (by (try simp only [zq5] at *); omega))) (conj1 ((refName_ok ((l).getD k []) (hf _ (getD_mem (by omega))) : SpG g _ _ _ _ _)))) (by kernel_rfl) ?_ ?_
  ·exact ⟨Nat.zero_le _, by simp⟩
  rintro ⟨b, m⟩ ⟨hm, hb⟩
  refine zc hG [] [1, 0] (decide (((m : Int) : Int) < (k : Int))) (by kernel_rfl) conj0 (fun hc4 => ?_) (fun hc4 => ?_)
  ·(try simp only [zq4] at hc4)
   refine zD hG [(8, 4, .elem (strD ((l).getD m []))), (8, 8, .elem (strD ((l).getD k [])))] (b && !((S (l.getD m [])).toList == (S (l.getD k [])).toList), m + 1) (by kernel_rfl) (conjC (show b = true → (0 : Int) ≤ (m : Int) ∧ (strs l)[m]? = some (strD ((l).getD m [])) from (by intros; exact map_at [] (by omega) (by (try simp only [zq5] at *); omega))) (conjC (show b = true → (0 : Int) ≤ (k : Int) ∧ (strs l)[k]? = some (strD ((l).getD k [])) from (by intros; exact map_at [] (by omega) (by (try simp only [zq5] at *); omega))) (conj1 (show inR ((m : Int) + 1) from (by intros; (try simp only [zq8] at *); omega))))) ?_ ?_
   ·(try dsimp only); omega
   ·exact ⟨by omega, nameStep hb (by omega)⟩
  ·(try simp only [zq4] at hc4)
   refine zE hG [] (.exit 2) (⟨[(0, [], .c (.d (.sl 1 (strs l)))), (2, [], .c (.d (.b false))), (3, [], .c (.d (.i (k : Int)))), (4, [], .c (.d (.b b)))], []⟩) (by kernel_rfl) conj0 rfl ?_
   refine zC hG [] [1, 1, 1, 0, 0, 1] (!b) (⟨[(0, [], .c (.d (.sl 1 (strs l)))), (2, [], .c (.d (.b false))), (3, [], .c (.d (.i (k : Int))))], []⟩) (by kernel_rfl) conj0 (fun hc5 => ?_) (fun hc5 => ?_)
   ·(try simp only [zq4] at hc5)
    refine zE hG [] .ret (⟨[(2, [], .c (.d (.b false)))], []⟩) (by kernel_rfl) conj0 rfl ?_
    refine zR hG [] [] (.c (.d (.b false))) [] (by kernel_rfl) conj0 ?_ ?_
    ·rw [allR_false (i := k) (by omega) (nameAt_not hb (by omega) (by simpa using hc5))]
    ·rfl
   ·(try simp only [zq4] at hc5)
    refine zD hG [] (k + 1) (by kernel_rfl) (conj1 (show inR ((k : Int) + 1) from (by intros; (try simp only [zq8] at *); omega))) ?_ ?_
    ·(try dsimp only); omega
    ·exact ⟨by omega, below_succ hn (nameAt_of hb (by omega) (by simpa using hc5))⟩
 ·(try simp only [zq4] at hc2)
  refine zE hG [] (.exit 0) (⟨[(2, [], .c (.d (.b false)))], []⟩) (by kernel_rfl) conj0 rfl ?_
  refine zR hG [] [] (.c (.d (.b true))) [] (by kernel_rfl) conj0 ?_ ?_
  ·rw [allR_true (fun j hj => hn j (by omega))]
  ·rfl
theorem refRows_of (cols : List (List UInt8)) (rows : List (List Cl)) (hf : ∀ t, t ∈ cols → t.length ≤ maxLen) (hR : ∀ c : Cl, (∃ r ∈ rows, c ∈ r) → ¬ c.kind = 5 → SpG g 14 [clArg c] [] (.c (.d (.b (rightK false c.toV)))) []) :
  SpG g 43 [.c (.d (.sl 1 (strs cols))), .c (.d (.sl 1 (rowsD rows)))] [] (.c (.d (.b (tableB cols rows)))) [] := by
 refine enterB 65 Tryz.func43 (by kernel_rfl) fun fr hG => ?_
 refine stepLen 0 rfl fun hl0 => ?_
 refine stepLen 1 rfl fun hl1 => ?_
 refine zC hG [(1, 1, .call (.c (.d (.b (allR cols.length (nameAt cols))))) [] [])] [1, 0, 1, 1] (((!(allR cols.length (nameAt cols))) || (decide ((((strs cols).length : Int) : Int) > 8))) || (decide ((((rowsD rows).length : Int) : Int) > 100))) (⟨[(0, [], .c (.d (.sl 1 (strs cols)))), (1, [], .c (.d (.sl 1 (rowsD rows)))), (4, [], .c (.d (.b false)))], []⟩) (by kernel_rfl) (conj1 ((refNames_ok cols hf : SpG g _ _ _ _ _))) (fun hc1 => ?_) (fun hc1 => ?_)
 ·(try simp only [zq4] at hc1)
  refine zR hG [] [] (.c (.d (.b false))) [] (by kernel_rfl) conj0 ?_ ?_
  ·rw [tableB_bad hc1]
  ·rfl
 ·(try simp only [zq4] at hc1)
  refine zL hG [] [0, 1, 0, 1, 1, 1] (fun (zz : Nat) => match zz with | i => (rows.length - i, ⟨[(0, [], .c (.d (.sl 1 (strs cols)))), (1, [], .c (.d (.sl 1 (rowsD rows)))), (4, [], .c (.d (.b false))), (6, [], .c (.d (.i (i : Int))))], []⟩, i ≤ rows.length ∧ ∀ j, j < i → rowAt cols rows j = true)) 0 (by kernel_rfl) conj0 (by kernel_rfl) ?_ ?_
  ·exact ⟨Nat.zero_le _, fun j hj => by omega⟩
  rintro i ⟨hi, hr⟩
  refine zc hG [] [1, 0] (decide (((i : Int) : Int) < ((rowsD rows).length : Int))) (by kernel_rfl) conj0 (fun hc3 => ?_) (fun hc3 => ?_)
  ·(try simp only [zq4] at hc3)
   refine zc hG [(7, 2, .elem (rows1 ((rows).getD i [])))] [1, 0, 0, 0, 1] (!decide ((((rowD ((rows).getD i [])).length : Int) : Int) = ((strs cols).length : Int))) (by kernel_rfl) (conj1 (show (0 : Int) ≤ (i : Int) ∧ (rowsD rows)[i]? = some (rows1 ((rows).getD i [])) from (by intros; exact map_at _ (by omega) (by (try simp only [zq7] at *); omega)))) (fun hc4 => ?_) (fun hc4 => ?_)
   ·(try simp only [zq4] at hc4)
    refine zE hG [] .ret (⟨[(4, [], .c (.d (.b false)))], []⟩) (by kernel_rfl) conj0 rfl ?_
    refine zR hG [] [] (.c (.d (.b false))) [] (by kernel_rfl) conj0 ?_ ?_
    ·rw [tableB_row (k := i) (by omega) (rowAt_len hc4)]
    ·rfl
   ·(try simp only [zq4] at hc4)
    refine zL hG [] [0, 1, 1, 0, 0, 1] (fun (zz : Nat) => match zz with | m => ((rows.getD i []).length - m, ⟨[(0, [], .c (.d (.sl 1 (strs cols)))), (1, [], .c (.d (.sl 1 (rowsD rows)))), (4, [], .c (.d (.b false))), (6, [], .c (.d (.i (i : Int)))), (7, [], .c (.d (.i (m : Int))))], []⟩, m ≤ (rows.getD i []).length ∧ ∀ j, j < m → cellAt (rows.getD i []) j = true)) 0 (by kernel_rfl) conj0 (by kernel_rfl) ?_ ?_
    ·exact ⟨Nat.zero_le _, fun j hj => by omega⟩
    rintro m ⟨hm, hcl⟩
    refine zc hG [(10, 3, .elem (rows1 ((rows).getD i [])))] [1, 0] (decide (((m : Int) : Int) < ((rowD ((rows).getD i [])).length : Int))) (by kernel_rfl) (conj1 (show (0 : Int) ≤ (i : Int) ∧ (rowsD rows)[i]? = some (rows1 ((rows).getD i [])) from (by intros; exact map_at _ (by omega) (by (try simp only [zq7] at *); omega)))) (fun hc6 => ?_) (fun hc6 => ?_)
    ·(try simp only [zq4] at hc6)
     refine zc hG [(12, 2, .elem (rows1 ((rows).getD i []))), (12, 5, .elem (ClD (((rows).getD i []).getD m Cl.z)))] [1, 0, 0, 0, 1] (decide (((((rows).getD i []).getD m Cl.z).kind : Int) = 5)) (by kernel_rfl) (conjC (show (0 : Int) ≤ (i : Int) ∧ (rowsD rows)[i]? = some (rows1 ((rows).getD i [])) from (by intros; exact map_at _ (by omega) (by (try simp only [zq7] at *); omega))) (conj1 (show (0 : Int) ≤ (m : Int) ∧ (rowD ((rows).getD i []))[m]? = some (ClD (((rows).getD i []).getD m Cl.z)) from (by intros; exact map_at _ (by omega) (by (try simp only [zq7] at *); omega))))) (fun hc7 => ?_) (fun hc7 => ?_)
     ·(try simp only [zq4] at hc7)
      refine zE hG [] .ret (⟨[(0, [], .c (.d (.sl 1 (strs cols)))), (1, [], .c (.d (.sl 1 (rowsD rows)))), (4, [], .c (.d (.b false))), (6, [], .c (.d (.i (i : Int))))], []⟩) (by kernel_rfl) conj0 rfl ?_
      refine zE hG [] .ret (⟨[(4, [], .c (.d (.b false)))], []⟩) (by kernel_rfl) conj0 rfl ?_
      refine zR hG [] [] (.c (.d (.b false))) [] (by kernel_rfl) conj0 ?_ ?_
      ·rw [tableB_row (k := i) (by omega) (rowAt_cell (m := m) (by omega) ?_)]
       simp only [cellAt, Bool.and_eq_false_iff, Bool.not_eq_false', decide_eq_true_eq]
       exact .inl hc7
      ·rfl
     ·(try simp only [zq4] at hc7)
      refine zc hG [(14, 2, .elem (rows1 ((rows).getD i []))), (14, 5, .elem (ClD (((rows).getD i []).getD m Cl.z))), (14, 7, .call (.c (.d (.b (rightK false (((rows).getD i []).getD m Cl.z).toV)))) [] [])] [1, 1, 1, 0, 0, 1] (!(rightK false (((rows).getD i []).getD m Cl.z).toV)) (by kernel_rfl) (conjC (show (0 : Int) ≤ (i : Int) ∧ (rowsD rows)[i]? = some (rows1 ((rows).getD i [])) from (by intros; exact map_at _ (by omega) (by (try simp only [zq7] at *); omega))) (conjC (show (0 : Int) ≤ (m : Int) ∧ (rowD ((rows).getD i []))[m]? = some (ClD (((rows).getD i []).getD m Cl.z)) from (by intros; exact map_at _ (by omega) (by (try simp only [zq7] at *); omega))) (conj1 ((hR (((rows).getD i []).getD m Cl.z) ⟨rows.getD i [], getD_mem (by omega), getD_mem (by omega)⟩ (by simpa using hc7) : SpG g _ _ _ _ _))))) (fun hc8 => ?_) (fun hc8 => ?_)
      ·(try simp only [zq4] at hc8)
       refine zE hG [] .ret (⟨[(0, [], .c (.d (.sl 1 (strs cols)))), (1, [], .c (.d (.sl 1 (rowsD rows)))), (4, [], .c (.d (.b false))), (6, [], .c (.d (.i (i : Int))))], []⟩) (by kernel_rfl) conj0 rfl ?_
       refine zE hG [] .ret (⟨[(4, [], .c (.d (.b false)))], []⟩) (by kernel_rfl) conj0 rfl ?_
       refine zR hG [] [] (.c (.d (.b false))) [] (by kernel_rfl) conj0 ?_ ?_
       ·rw [tableB_row (k := i) (by omega) (rowAt_cell (m := m) (by omega) ?_)]
        simp only [cellAt, Bool.and_eq_false_iff, Bool.not_eq_false', decide_eq_true_eq]
        exact .inr hc8
       ·rfl
      ·(try simp only [zq4] at hc8)
       refine zD hG [] (m + 1) (by kernel_rfl) (conj1 (show inR ((m : Int) + 1) from (by intros; (try simp only [zq8] at *); omega))) ?_ ?_
       ·(try dsimp only); omega
       ·refine ⟨by omega, below_succ hcl ?_⟩
        simp only [cellAt, Bool.and_eq_true, Bool.not_eq_true', decide_eq_false_iff_not]
        exact ⟨hc7, hc8⟩
    ·(try simp only [zq4] at hc6)
     refine zE hG [] (.exit 2) (⟨[(0, [], .c (.d (.sl 1 (strs cols)))), (1, [], .c (.d (.sl 1 (rowsD rows)))), (4, [], .c (.d (.b false))), (6, [], .c (.d (.i (i : Int))))], []⟩) (by kernel_rfl) conj0 rfl ?_
     refine zD hG [] (i + 1) (by kernel_rfl) (conj1 (show inR ((i : Int) + 1) from (by intros; (try simp only [zq8] at *); omega))) ?_ ?_
     ·(try dsimp only); omega
     ·refine ⟨by omega, below_succ hr ?_⟩
      have : m = (rows.getD i []).length := by omega
      subst this
      simp only [rowAt, Bool.and_eq_true, decide_eq_true_eq]
      exact ⟨by omega, allR_true hcl⟩
  ·(try simp only [zq4] at hc3)
   refine zE hG [] (.exit 0) (⟨[(4, [], .c (.d (.b false)))], []⟩) (by kernel_rfl) conj0 rfl ?_
   refine zR hG [] [] (.c (.d (.b true))) [] (by kernel_rfl) conj0 ?_ ?_
   ·rw [tableB_ok ⟨hc1.1.2, hc1.2⟩ (fun j hj => allR_get hc1.1.1 hj) (fun j hj => hr j (by omega))]
   ·rfl
theorem refRight_of (v : Vl) (T : Bool) (hs : v.s.length ≤ maxLen) (hT : SpG g 43 [.c (.d (.sl 1 (strs v.cols))), .c (.d (.sl 1 (rowsD v.rows)))] [] (.c (.d (.b T))) []) :
  SpG g 14 [.agg [.d (.i v.kind), .d (.s (S v.s)), .d (.i v.dn), .d (.i v.ds), .d (.i v.n), .d (.sl 1 (strs v.cols)), .d (.sl 1 (rowsD v.rows))]] [] (.c (.d (.b (rightK T v)))) [] := by
 refine enterB 84 Tryz.func14 (by kernel_rfl) fun fr hG => ?_
 refine zC hG [] [1, 0, 1, 0, 1, 1, 1] (decide ((v.kind : Int) = 0)) (⟨[(1, [], .c (.bx 100 0)), (2, [], .c (.d (.b false))), (3, [], .c (.bx 203 0)), (4, [], .c (.d (.b false))), (9, [], .c (.d (.i v.kind)))], [(100, .box 30 [.d (.i v.kind), .d (.s (S v.s)), .d (.i v.dn), .d (.i v.ds), .d (.i v.n), .d (.sl 1 (strs v.cols)), .d (.sl 1 (rowsD v.rows))]), (203, .box 30 [.d (.i v.kind), .d (.s (S [])), .d (.i 0), .d (.i 0), .d (.i 0), .d (.nil), .d (.nil)])]⟩) (by kernel_rfl) conj0 (fun hc1 => ?_) (fun hc1 => ?_)
 ·(try simp only [zq4] at hc1)
  refine zR hG [(23, 4, .call (.c (.d (.b (decide ((⟨v.kind, v.s, v.dn, v.ds, v.n, v.cols, v.rows⟩ : Vl) = (⟨v.kind, [], 0, 0, v.n, [], []⟩ : Vl)))))) [] [])] [] (.c (.d (.b (((decide ((v.n : Int) ≥ 0)) && (decide ((v.n : Int) ≤ 99))) && (decide ((⟨v.kind, v.s, v.dn, v.ds, v.n, v.cols, v.rows⟩ : Vl) = (⟨v.kind, [], 0, 0, v.n, [], []⟩ : Vl))))))) [] (by kernel_rfl) (conj1 (fun (hg1 : ((decide ((v.n : Int) ≥ 0)) && (decide ((v.n : Int) ≤ 99))) = true) => ((spec_mask (ins := [.agg [.d (.i v.kind), .d (.s (S v.s)), .d (.i v.dn), .d (.i v.ds), .d (.i v.n), .d (.sl 1 (strs v.cols)), .d (.sl 1 (rowsD v.rows))], .agg [.d (.i v.kind), .d (.s (S [])), .d (.i 0), .d (.i 0), .d (.i v.n), .d (.nil), .d (.nil)]]) [[none, none, none, none, none, none, none], [none, none, none, none, none, some 1, some 1]] (refEqual_ok (⟨v.kind, v.s, v.dn, v.ds, v.n, v.cols, v.rows⟩ : Vl) (⟨v.kind, [], 0, 0, v.n, [], []⟩ : Vl)) : SpG g _ _ _ _ _)))) ?_ ?_
  ·have e : (⟨v.kind, v.s, v.dn, v.ds, v.n, v.cols, v.rows⟩ : Vl) = v := rfl
   (try simp only [e, only_n, only_s, only_d, only_t])
   simp [rightK, *]
  ·rfl
 ·(try simp only [zq4] at hc1)
  refine zc hG [] [1, 1, 1, 0, 1, 0, 1, 1, 1] (decide ((v.kind : Int) = 1)) (by kernel_rfl) conj0 (fun hc2 => ?_) (fun hc2 => ?_)
  ·(try simp only [zq4] at hc2)
   refine zR hG [(9, 2, .call (.c (.d (.b (isTextL (v.s))))) [] []), (23, 4, .call (.c (.d (.b (decide ((⟨v.kind, v.s, v.dn, v.ds, v.n, v.cols, v.rows⟩ : Vl) = (⟨v.kind, v.s, 0, 0, 0, [], []⟩ : Vl)))))) [] [])] [] (.c (.d (.b ((isTextL (v.s)) && (decide ((⟨v.kind, v.s, v.dn, v.ds, v.n, v.cols, v.rows⟩ : Vl) = (⟨v.kind, v.s, 0, 0, 0, [], []⟩ : Vl))))))) [] (by kernel_rfl) (conjC ((refPlain_ok (v.s) hs : SpG g _ _ _ _ _)) (conj1 (fun (hg1 : (isTextL (v.s)) = true) => ((spec_mask (ins := [.agg [.d (.i v.kind), .d (.s (S v.s)), .d (.i v.dn), .d (.i v.ds), .d (.i v.n), .d (.sl 1 (strs v.cols)), .d (.sl 1 (rowsD v.rows))], .agg [.d (.i v.kind), .d (.s (S v.s)), .d (.i 0), .d (.i 0), .d (.i 0), .d (.nil), .d (.nil)]]) [[none, none, none, none, none, none, none], [none, none, none, none, none, some 1, some 1]] (refEqual_ok (⟨v.kind, v.s, v.dn, v.ds, v.n, v.cols, v.rows⟩ : Vl) (⟨v.kind, v.s, 0, 0, 0, [], []⟩ : Vl)) : SpG g _ _ _ _ _))))) ?_ ?_
   ·have e : (⟨v.kind, v.s, v.dn, v.ds, v.n, v.cols, v.rows⟩ : Vl) = v := rfl
    (try simp only [e, only_n, only_s, only_d, only_t])
    simp [rightK, *]
   ·rfl
  ·(try simp only [zq4] at hc2)
   refine zc hG [] [1, 1, 1, 1, 1, 0, 1, 0, 1, 1, 1] (decide ((v.kind : Int) = 2)) (by kernel_rfl) conj0 (fun hc3 => ?_) (fun hc3 => ?_)
   ·(try simp only [zq4] at hc3)
    refine zR hG [(12, 2, .call (.c (.d (.b (decB v.dn v.ds)))) [] []), (23, 4, .call (.c (.d (.b (decide ((⟨v.kind, v.s, v.dn, v.ds, v.n, v.cols, v.rows⟩ : Vl) = (⟨v.kind, [], v.dn, v.ds, 0, [], []⟩ : Vl)))))) [] [])] [] (.c (.d (.b ((decB v.dn v.ds) && (decide ((⟨v.kind, v.s, v.dn, v.ds, v.n, v.cols, v.rows⟩ : Vl) = (⟨v.kind, [], v.dn, v.ds, 0, [], []⟩ : Vl))))))) [] (by kernel_rfl) (conjC ((refDecRight_ok v.dn v.ds : SpG g _ _ _ _ _)) (conj1 (fun (hg1 : (decB v.dn v.ds) = true) => ((spec_mask (ins := [.agg [.d (.i v.kind), .d (.s (S v.s)), .d (.i v.dn), .d (.i v.ds), .d (.i v.n), .d (.sl 1 (strs v.cols)), .d (.sl 1 (rowsD v.rows))], .agg [.d (.i v.kind), .d (.s (S [])), .d (.i v.dn), .d (.i v.ds), .d (.i 0), .d (.nil), .d (.nil)]]) [[none, none, none, none, none, none, none], [none, none, none, none, none, some 1, some 1]] (refEqual_ok (⟨v.kind, v.s, v.dn, v.ds, v.n, v.cols, v.rows⟩ : Vl) (⟨v.kind, [], v.dn, v.ds, 0, [], []⟩ : Vl)) : SpG g _ _ _ _ _))))) ?_ ?_
    ·have e : (⟨v.kind, v.s, v.dn, v.ds, v.n, v.cols, v.rows⟩ : Vl) = v := rfl
     (try simp only [e, only_n, only_s, only_d, only_t])
     simp [rightK, *]
    ·rfl
   ·(try simp only [zq4] at hc3)
    refine zc hG [] [1, 1, 1, 1, 1, 1, 1, 0, 1, 0, 1, 1, 1] (decide ((v.kind : Int) = 3)) (by kernel_rfl) conj0 (fun hc4 => ?_) (fun hc4 => ?_)
    ·(try simp only [zq4] at hc4)
     refine zR hG [(23, 4, .call (.c (.d (.b (decide ((⟨v.kind, v.s, v.dn, v.ds, v.n, v.cols, v.rows⟩ : Vl) = (⟨v.kind, [], 0, 0, v.n, [], []⟩ : Vl)))))) [] [])] [] (.c (.d (.b (((decide ((v.n : Int) ≥ 0)) && (decide ((v.n : Int) ≤ 3652058))) && (decide ((⟨v.kind, v.s, v.dn, v.ds, v.n, v.cols, v.rows⟩ : Vl) = (⟨v.kind, [], 0, 0, v.n, [], []⟩ : Vl))))))) [] (by kernel_rfl) (conj1 (fun (hg1 : ((decide ((v.n : Int) ≥ 0)) && (decide ((v.n : Int) ≤ 3652058))) = true) => ((spec_mask (ins := [.agg [.d (.i v.kind), .d (.s (S v.s)), .d (.i v.dn), .d (.i v.ds), .d (.i v.n), .d (.sl 1 (strs v.cols)), .d (.sl 1 (rowsD v.rows))], .agg [.d (.i v.kind), .d (.s (S [])), .d (.i 0), .d (.i 0), .d (.i v.n), .d (.nil), .d (.nil)]]) [[none, none, none, none, none, none, none], [none, none, none, none, none, some 1, some 1]] (refEqual_ok (⟨v.kind, v.s, v.dn, v.ds, v.n, v.cols, v.rows⟩ : Vl) (⟨v.kind, [], 0, 0, v.n, [], []⟩ : Vl)) : SpG g _ _ _ _ _)))) ?_ ?_
     ·have e : (⟨v.kind, v.s, v.dn, v.ds, v.n, v.cols, v.rows⟩ : Vl) = v := rfl
      (try simp only [e, only_n, only_s, only_d, only_t])
      simp [rightK, *]
     ·rfl
    ·(try simp only [zq4] at hc4)
     refine zc hG [] [1, 1, 1, 1, 1, 1, 1, 1, 1, 0, 1, 0, 1, 1, 1] (decide ((v.kind : Int) = 4)) (by kernel_rfl) conj0 (fun hc5 => ?_) (fun hc5 => ?_)
     ·(try simp only [zq4] at hc5)
      refine zR hG [(23, 4, .call (.c (.d (.b (decide ((⟨v.kind, v.s, v.dn, v.ds, v.n, v.cols, v.rows⟩ : Vl) = (⟨v.kind, [], 0, 0, v.n, [], []⟩ : Vl)))))) [] [])] [] (.c (.d (.b (((decide ((v.n : Int) = 0)) || (decide ((v.n : Int) = 1))) && (decide ((⟨v.kind, v.s, v.dn, v.ds, v.n, v.cols, v.rows⟩ : Vl) = (⟨v.kind, [], 0, 0, v.n, [], []⟩ : Vl))))))) [] (by kernel_rfl) (conj1 (fun (hg1 : ((decide ((v.n : Int) = 0)) || (decide ((v.n : Int) = 1))) = true) => ((spec_mask (ins := [.agg [.d (.i v.kind), .d (.s (S v.s)), .d (.i v.dn), .d (.i v.ds), .d (.i v.n), .d (.sl 1 (strs v.cols)), .d (.sl 1 (rowsD v.rows))], .agg [.d (.i v.kind), .d (.s (S [])), .d (.i 0), .d (.i 0), .d (.i v.n), .d (.nil), .d (.nil)]]) [[none, none, none, none, none, none, none], [none, none, none, none, none, some 1, some 1]] (refEqual_ok (⟨v.kind, v.s, v.dn, v.ds, v.n, v.cols, v.rows⟩ : Vl) (⟨v.kind, [], 0, 0, v.n, [], []⟩ : Vl)) : SpG g _ _ _ _ _)))) ?_ ?_
      ·have e : (⟨v.kind, v.s, v.dn, v.ds, v.n, v.cols, v.rows⟩ : Vl) = v := rfl
       (try simp only [e, only_n, only_s, only_d, only_t])
       simp [rightK, *]
      ·rfl
     ·(try simp only [zq4] at hc5)
      refine zC hG [] [1, 1, 1, 1, 1, 1, 1, 1, 1, 1, 1, 0, 1, 0, 1, 1, 1] (decide ((v.kind : Int) = 5)) (⟨[(1, [], .c (.bx 100 0)), (2, [], .c (.d (.b false))), (3, [], .c (.bx 203 0)), (4, [], .c (.d (.b false)))], [(100, .box 30 [.d (.i v.kind), .d (.s (S v.s)), .d (.i v.dn), .d (.i v.ds), .d (.i v.n), .d (.sl 1 (strs v.cols)), .d (.sl 1 (rowsD v.rows))]), (203, .box 30 [.d (.i v.kind), .d (.s (S [])), .d (.i 0), .d (.i 0), .d (.i 0), .d (.nil), .d (.nil)])]⟩) (by kernel_rfl) conj0 (fun hc6 => ?_) (fun hc6 => ?_)
      ·(try simp only [zq4] at hc6)
       refine zR hG [(22, 4, .call (.c (.d (.b T))) [] []), (23, 4, .call (.c (.d (.b (decide ((⟨v.kind, v.s, v.dn, v.ds, v.n, v.cols, v.rows⟩ : Vl) = (⟨v.kind, [], 0, 0, 0, v.cols, v.rows⟩ : Vl)))))) [] [])] [] (.c (.d (.b (T && (decide ((⟨v.kind, v.s, v.dn, v.ds, v.n, v.cols, v.rows⟩ : Vl) = (⟨v.kind, [], 0, 0, 0, v.cols, v.rows⟩ : Vl))))))) [] (by kernel_rfl) (conjC ((hT : SpG g _ _ _ _ _)) (conj1 (fun (hg1 : T = true) => ((refEqual_ok (⟨v.kind, v.s, v.dn, v.ds, v.n, v.cols, v.rows⟩ : Vl) (⟨v.kind, [], 0, 0, 0, v.cols, v.rows⟩ : Vl) : SpG g _ _ _ _ _))))) ?_ ?_
       ·have e : (⟨v.kind, v.s, v.dn, v.ds, v.n, v.cols, v.rows⟩ : Vl) = v := rfl
        (try simp only [e, only_n, only_s, only_d, only_t])
        simp [rightK, *]
       ·rfl
      ·(try simp only [zq4] at hc6)
       refine zR hG [(23, 4, .call (.c (.d (.b (decide ((⟨v.kind, v.s, v.dn, v.ds, v.n, v.cols, v.rows⟩ : Vl) = (⟨v.kind, [], 0, 0, 0, [], []⟩ : Vl)))))) [] [])] [] (.c (.d (.b false))) [] (by kernel_rfl) (conj1 (show false = true → SpG g 18 [.agg [.d (.i v.kind), .d (.s (S v.s)), .d (.i v.dn), .d (.i v.ds), .d (.i v.n), .d (.sl 1 (strs v.cols)), .d (.sl 1 (rowsD v.rows))], .agg [.d (.i v.kind), .d (.s (S [])), .d (.i 0), .d (.i 0), .d (.i 0), .d (.nil), .d (.nil)]] [] (.c (.d (.b (decide ((⟨v.kind, v.s, v.dn, v.ds, v.n, v.cols, v.rows⟩ : Vl) = (⟨v.kind, [], 0, 0, 0, [], []⟩ : Vl)))))) [] from fun hg1 => absurd hg1 (by decide))) ?_ ?_
       ·have e : (⟨v.kind, v.s, v.dn, v.ds, v.n, v.cols, v.rows⟩ : Vl) = v := rfl
        (try simp only [e, only_n, only_s, only_d, only_t])
        simp [rightK, *]
       ·rfl
end Go.Proofs.YtmpgfchkkemngaaGreatDoor
