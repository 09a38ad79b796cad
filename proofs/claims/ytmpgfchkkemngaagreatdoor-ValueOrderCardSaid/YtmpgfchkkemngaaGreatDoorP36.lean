/- Part 36 of the proof: texts G3, G4, O1, L3, E7. -/
import Derived.Test.YtmpgfchkkemngaaGreatDoorP35
set_option linter.all false
namespace Go.Proofs.YtmpgfchkkemngaaGreatDoor
open Go.RowKit Go.V
open Go.Eng (inR byteAt u8 bytesV)
def gT (m : Int) : Gv := ⟨m, [(1, tensL.map (Value.int .i64))]⟩
variable {m : Int}
theorem cmpInt_ok (x y : Int) : SpG (gT m) 97 [.c (.d (.i x)), .c (.d (.i y))] [] (.c (.d (.i (Lib.compareInt x y)))) [] :=
  of_exact (args := [.int .i64 x, .int .i64 y]) rfl rfl rfl fun w => (Tryz.cmp_Compare_int x y w).mono fun _ _ ⟨a, b⟩ => ⟨a, b.symm⟩
theorem cmpStr_ok (a b : List UInt8) : SpG (gT m) 99 [.c (.d (.s (S a))), .c (.d (.s (S b)))] [] (.c (.d (.i (Lib.compareBytes a b)))) [] :=
  of_exact (args := [.string (S a), .string (S b)]) rfl rfl rfl fun w => (Tryz.strings_Compare (S a) (S b) w).mono fun _ _ ⟨a, b⟩ => ⟨a, b.symm⟩
def tenD (s : Int) : Int := tensL.getD s.toNat 0
def spW (n s : Int) : Int := Int.tdiv n (tenD s)
def spP (n s : Int) : Int := Int.tmod n (tenD s) * Int.tdiv 1000000 (tenD s)
theorem tenD_cases {s : Int} (h0 : 0 ≤ s) (h1 : s ≤ 6) : tenD s = 1 ∨ tenD s = 10 ∨ tenD s = 100 ∨ tenD s = 1000 ∨ tenD s = 10000 ∨ tenD s = 100000 ∨ tenD s = 1000000 := by
  have : s = 0 ∨ s = 1 ∨ s = 2 ∨ s = 3 ∨ s = 4 ∨ s = 5 ∨ s = 6 := by omega
  rcases this with rfl | rfl | rfl | rfl | rfl | rfl | rfl <;> simp [tenD, tensL]
theorem tenD_div {s : Int} (h0 : 0 ≤ s) (h1 : s ≤ 6) : 1 ≤ tenD s ∧ tenD s ≤ 1000000 ∧ 1 ≤ Int.tdiv 1000000 (tenD s) ∧ tenD s * Int.tdiv 1000000 (tenD s) = 1000000 := by
  rcases tenD_cases h0 h1 with h | h | h | h | h | h | h <;> rw [h] <;> decide
theorem sp_bd {n s : Int} (h0 : 0 ≤ s) (h1 : s ≤ 6) (hn : -1000000000000000 ≤ n) (hm : n ≤ 1000000000000000) : tenD s ≠ 0 ∧ inR (Int.tdiv n (tenD s)) ∧ inR (Int.tdiv 1000000 (tenD s)) ∧ inR (Int.tmod n (tenD s) * Int.tdiv 1000000 (tenD s)) := by
  obtain ⟨a, b, c, d⟩ := tenD_div h0 h1
  have e1 : (Int.tdiv n (tenD s)).natAbs ≤ n.natAbs := by rw [Int.natAbs_tdiv]; exact Nat.div_le_self _ _
  have e2 := tmod_in (x := n) (n := tenD s) a
  have e3 : Int.tdiv 1000000 (tenD s) ≤ 1000000 := by
    have := Int.mul_le_mul_of_nonneg_right a (show 0 ≤ Int.tdiv 1000000 (tenD s) by omega)
    rw [d, Int.one_mul] at this; exact this
  have e4 : (Int.tmod n (tenD s) * Int.tdiv 1000000 (tenD s)).natAbs ≤ 1000000 * 1000000 := by
    rw [Int.natAbs_mul]
    exact Nat.mul_le_mul (by omega) (by omega)
  unfold inR
  refine ⟨by omega, by omega, by omega, by omega⟩
def decCmp (a b c d : Int) : Int := if Lib.compareInt (spW a b) (spW c d) = 0 then Lib.compareInt (spP a b) (spP c d) else Lib.compareInt (spW a b) (spW c d)
def listC {α : Type} (f : α → α → Int) : List α → List α → Int
  | [], [] => 0
  | [], _ :: _ => -1
  | _ :: _, [] => 1
  | x :: a, y :: b => if f x y = 0 then listC f a b else f x y
theorem listC_end {α : Type} (f : α → α → Int) : ∀ {a b : List α}, a = [] ∨ b = [] → listC f a b = Lib.compareInt (a.length : Int) (b.length : Int)
  | [], [], _ => by simp [listC, Lib.compareInt]
  | [], y :: b, _ => by simp only [listC, Lib.compareInt, List.length_nil, List.length_cons]; rw [if_pos (by omega)]
  | x :: a, [], _ => by simp only [listC, Lib.compareInt, List.length_nil, List.length_cons]; rw [if_neg (by omega), if_pos (by omega)]
  | x :: a, y :: b, h => by simp at h
theorem listC_step {α : Type} (f : α → α → Int) (z : α) {a b : List α} {k : Nat} (h1 : k < a.length) (h2 : k < b.length) :
    listC f (a.drop k) (b.drop k) = if f (a.getD k z) (b.getD k z) = 0 then listC f (a.drop (k + 1)) (b.drop (k + 1)) else f (a.getD k z) (b.getD k z) := by
  rw [List.drop_eq_getElem_cons h1, List.drop_eq_getElem_cons h2]
  simp [listC, h1, h2]
theorem listC_last {α : Type} (f : α → α → Int) {a b : List α} {k : Nat} (h : k = a.length ∨ k = b.length) (h1 : k ≤ a.length) (h2 : k ≤ b.length) : listC f (a.drop k) (b.drop k) = Lib.compareInt (a.length : Int) (b.length : Int) := by
  rw [listC_end f (by rcases h with h | h <;> simp [h])]
  simp only [List.length_drop, Lib.compareInt]
  by_cases c1 : (a.length : Int) < b.length
  · rw [if_pos c1, if_pos (by omega)]
  · rw [if_neg c1, if_neg (by omega)]
    by_cases c2 : (a.length : Int) > b.length
    · rw [if_pos c2, if_pos (by omega)]
    · rw [if_neg c2, if_neg (by omega)]
theorem split_ok (n s : Int) (h : decB n s = true) :
    SpG (gT m) 156 [.agg [.d (.i n), .d (.i s)]] [] (.tup [(false, [.d (.i (spW n s))]), (false, [.d (.i (spP n s))])]) [] := by
  obtain ⟨b0, b1, b2, b3, b4⟩ := decB_bd h
  obtain ⟨c0, c1, c2, c3⟩ := sp_bd b0 b1 b2 b3
  have e0 : tensL.getD (0 + s.toNat * 1) 0 = tenD s := by rw [Nat.zero_add, Nat.mul_one]; rfl
  refine enterB 22 Tryz.func156 (by kernel_rfl) fun fr hG => ?_
  refine stepR' hG hmix [(1, 1, .call (.agg [.d (.i n), .d (.i s)]) [] []), (2, 3, .elem [.i (tensL.getD (0 + (s : Int).toNat * 1) 0)])] [] (.tup [(false, [.d (.i (Int.tdiv n (tensL.getD (0 + (s : Int).toNat * 1) 0)))]), (false, [.d (.i ((Int.tmod n (tensL.getD (0 + (s : Int).toNat * 1) 0)) * (Int.tdiv 1000000 (tensL.getD (0 + (s : Int).toNat * 1) 0))))])]) [] (by kernel_rfl) (conjC ((decValue_ok n s h : SpG (gT m) _ _ _ _ _)) (conjC (show (0 : Int) ≤ s ∧ s < ((7 : Nat) : Int) from (by intros; first | omega | exact ⟨by omega, by show _ < ((7 : Nat) : Int); omega⟩ | (simp only [e0]; first | exact ⟨c0, c1⟩ | exact ⟨c0, c2⟩ | exact c0 | exact c1 | exact c2 | exact c3))) (conjC (show (tensL.map (Value.int .i64) : List Value)[0 + (s : Int).toNat * 1]? = some (.int .i64 (tensL.getD (0 + (s : Int).toNat * 1) 0)) from (by intros; exact map_nat 0 (by show _ < 7; omega))) (conjC (show (tensL.getD (0 + (s : Int).toNat * 1) 0) ≠ (0 : Int) ∧ inR (Int.tdiv n (tensL.getD (0 + (s : Int).toNat * 1) 0)) from (by intros; first | omega | exact ⟨by omega, by show _ < ((7 : Nat) : Int); omega⟩ | (simp only [e0]; first | exact ⟨c0, c1⟩ | exact ⟨c0, c2⟩ | exact c0 | exact c1 | exact c2 | exact c3))) (conjC (show (tensL.getD (0 + (s : Int).toNat * 1) 0) ≠ (0 : Int) from (by intros; first | omega | exact ⟨by omega, by show _ < ((7 : Nat) : Int); omega⟩ | (simp only [e0]; first | exact ⟨c0, c1⟩ | exact ⟨c0, c2⟩ | exact c0 | exact c1 | exact c2 | exact c3))) (conjC (show (tensL.getD (0 + (s : Int).toNat * 1) 0) ≠ (0 : Int) ∧ inR (Int.tdiv 1000000 (tensL.getD (0 + (s : Int).toNat * 1) 0)) from (by intros; first | omega | exact ⟨by omega, by show _ < ((7 : Nat) : Int); omega⟩ | (simp only [e0]; first | exact ⟨c0, c1⟩ | exact ⟨c0, c2⟩ | exact c0 | exact c1 | exact c2 | exact c3))) (conj1 (show inR ((Int.tmod n (tensL.getD (0 + (s : Int).toNat * 1) 0)) * (Int.tdiv 1000000 (tensL.getD (0 + (s : Int).toNat * 1) 0))) from (by intros; first | omega | exact ⟨by omega, by show _ < ((7 : Nat) : Int); omega⟩ | (simp only [e0]; first | exact ⟨c0, c1⟩ | exact ⟨c0, c2⟩ | exact c0 | exact c1 | exact c2 | exact c3)))))))))) ?_ ?_
  · simp only [e0, spW, spP]
  · rfl
theorem or_ok {x y : Int} :
    SpG (gT m) 157 [.c (.d (.sl 1 (([[.i x], [.i y]] : List (List D)))))] [] (.c (.d (.i (if x = 0 then y else x)))) [] := by
  refine enterB 18 Tryz.func157 (by kernel_rfl) fun fr hG => ?_
  refine stepL hG hmix [] [0, 1, 0, 1, 1] ((fun (zz : Nat) => match zz with | 0 => ⟨[(2, [], .c (.d (.i 0))), (3, [], .c (.d (.i 0))), (6, [], .c (.d (.sl 1 (([[.i x], [.i y]] : List (List D)))))), (7, [], .c (.d (.i 2))), (8, [], .c (.d (.i 0)))], []⟩ | 1 => ⟨[(2, [], .c (.d (.i 0))), (3, [], .c (.d (.i 0))), (6, [], .c (.d (.sl 1 (([[.i x], [.i y]] : List (List D)))))), (7, [], .c (.d (.i 2))), (8, [], .c (.d (.i 1)))], []⟩ | _ => ⟨[(2, [], .c (.d (.i 0))), (3, [], .c (.d (.i 0))), (6, [], .c (.d (.sl 1 (([[.i x], [.i y]] : List (List D)))))), (7, [], .c (.d (.i 2))), (8, [], .c (.d (.i 2)))], []⟩) 0) _ (by kernel_rfl) conj0 ?_
  refine loopR (σ := Nat) (fun (zz : Nat) => match zz with | k => 3 - k) (fun (zz : Nat) => match zz with | 0 => ⟨[(2, [], .c (.d (.i 0))), (3, [], .c (.d (.i 0))), (6, [], .c (.d (.sl 1 (([[.i x], [.i y]] : List (List D)))))), (7, [], .c (.d (.i 2))), (8, [], .c (.d (.i 0)))], []⟩ | 1 => ⟨[(2, [], .c (.d (.i 0))), (3, [], .c (.d (.i 0))), (6, [], .c (.d (.sl 1 (([[.i x], [.i y]] : List (List D)))))), (7, [], .c (.d (.i 2))), (8, [], .c (.d (.i 1)))], []⟩ | _ => ⟨[(2, [], .c (.d (.i 0))), (3, [], .c (.d (.i 0))), (6, [], .c (.d (.sl 1 (([[.i x], [.i y]] : List (List D)))))), (7, [], .c (.d (.i 2))), (8, [], .c (.d (.i 2)))], []⟩) (fun (zz : Nat) => match zz with | k => k ≤ 2 ∧ (1 ≤ k → x = 0) ∧ (2 ≤ k → y = 0)) 0 (by kernel_rfl) ?_ ?_
  · exact ⟨Nat.zero_le _, by omega, by omega⟩
  rintro k ⟨hI, hx, hy⟩
  rcases (by omega : k = 0 ∨ k = 1 ∨ k = 2) with rfl | rfl | rfl
  · skip
    refine stepC hG hmix [] [0, 1] (true) (⟨[(2, [], .c (.d (.i 0))), (3, [], .c (.d (.i 0))), (6, [], .c (.d (.sl 1 (([[.i x], [.i y]] : List (List D)))))), (7, [], .c (.d (.i 2))), (8, [], .c (.d (.i 0)))], []⟩) _ (by kernel_rfl) conj0 (fun _ => ?_) (fun hc2 => absurd hc2 (by decide))
    refine stepC hG hmix [(4, 0, .elem ([.i x]))] [1, 1, 0, 0, 1, 1] (!decide ((x : Int) = 0)) (⟨[(2, [], .c (.d (.i 0))), (3, [], .c (.d (.i 0))), (5, [], .c (.d (.i x))), (6, [], .c (.d (.sl 1 (([[.i x], [.i y]] : List (List D)))))), (7, [], .c (.d (.i 2))), (8, [], .c (.d (.i 0)))], []⟩) _ (by kernel_rfl) (conj1 (show (0 : Int) ≤ 0 ∧ (([[.i x], [.i y]] : List (List D)))[0]? = some ([.i x]) from ⟨by decide, rfl⟩)) (fun hc3 => ?_) (fun hc3 => ?_)
    · (try simp only [blS] at hc3)
      refine leaveE hG hmix [] .ret (⟨[(2, [], .c (.d (.i x))), (3, [], .c (.d (.i 0)))], []⟩) _ (by kernel_rfl) conj0 rfl ?_
      refine stepR' hG hmix [] [] (.c (.d (.i x))) [] (by kernel_rfl) conj0 ?_ ?_
      · have e1 := hx; have e2 := hy
        by_cases h0 : x = 0 <;> by_cases h1 : y = 0 <;> simp_all
      · rfl
    · (try simp only [blS] at hc3)
      refine roundE hG hmix [] 1 _ (by kernel_rfl) (conj1 (show inR (0 + 1) from (by unfold inR; decide))) ?_ ?_
      · decide
      · exact ⟨by decide, by intros; omega, by intros; omega⟩
  · skip
    refine stepC hG hmix [] [0, 1] (true) (⟨[(2, [], .c (.d (.i 0))), (3, [], .c (.d (.i 0))), (6, [], .c (.d (.sl 1 (([[.i x], [.i y]] : List (List D)))))), (7, [], .c (.d (.i 2))), (8, [], .c (.d (.i 1)))], []⟩) _ (by kernel_rfl) conj0 (fun _ => ?_) (fun hc4 => absurd hc4 (by decide))
    refine stepC hG hmix [(4, 0, .elem ([.i y]))] [1, 1, 0, 0, 1, 1] (!decide ((y : Int) = 0)) (⟨[(2, [], .c (.d (.i 0))), (3, [], .c (.d (.i 0))), (5, [], .c (.d (.i y))), (6, [], .c (.d (.sl 1 (([[.i x], [.i y]] : List (List D)))))), (7, [], .c (.d (.i 2))), (8, [], .c (.d (.i 1)))], []⟩) _ (by kernel_rfl) (conj1 (show (0 : Int) ≤ 1 ∧ (([[.i x], [.i y]] : List (List D)))[1]? = some ([.i y]) from ⟨by decide, rfl⟩)) (fun hc5 => ?_) (fun hc5 => ?_)
    · (try simp only [blS] at hc5)
      refine leaveE hG hmix [] .ret (⟨[(2, [], .c (.d (.i y))), (3, [], .c (.d (.i 0)))], []⟩) _ (by kernel_rfl) conj0 rfl ?_
      refine stepR' hG hmix [] [] (.c (.d (.i y))) [] (by kernel_rfl) conj0 ?_ ?_
      · have e1 := hx; have e2 := hy
        by_cases h0 : x = 0 <;> by_cases h1 : y = 0 <;> simp_all
      · rfl
    · (try simp only [blS] at hc5)
      refine roundE hG hmix [] 2 _ (by kernel_rfl) (conj1 (show inR (1 + 1) from (by unfold inR; decide))) ?_ ?_
      · decide
      · exact ⟨by decide, by intros; omega, by intros; omega⟩
  · skip
    refine stepC hG hmix [] [0, 1] (false) (⟨[(2, [], .c (.d (.i 0))), (3, [], .c (.d (.i 0))), (6, [], .c (.d (.sl 1 (([[.i x], [.i y]] : List (List D)))))), (7, [], .c (.d (.i 2))), (8, [], .c (.d (.i 2)))], []⟩) _ (by kernel_rfl) conj0 (fun hc6 => absurd hc6 (by decide)) (fun _ => ?_)
    refine leaveE hG hmix [] (.exit 0) (⟨[(2, [], .c (.d (.i 0))), (3, [], .c (.d (.i 0)))], []⟩) _ (by kernel_rfl) conj0 rfl ?_
    refine stepR' hG hmix [] [] (.c (.d (.i 0))) [] (by kernel_rfl) conj0 ?_ ?_
    · have e1 := hx; have e2 := hy
      by_cases h0 : x = 0 <;> by_cases h1 : y = 0 <;> simp_all
    · rfl
theorem decCmp_ok (a b c d : Int) (h1 : decB a b = true) (h2 : decB c d = true) :
    SpG (gT m) 101 [.agg [.d (.i a), .d (.i b)], .agg [.d (.i c), .d (.i d)]] [] (.c (.d (.i (decCmp a b c d)))) [] := by
  refine enterB 27 Tryz.func101 (by kernel_rfl) fun fr hG => ?_
  refine stepR' hG hmix [(1, 1, .call (.tup [(false, [.d (.i (spW a b))]), (false, [.d (.i (spP a b))])]) [] []), (2, 1, .call (.tup [(false, [.d (.i (spW c d))]), (false, [.d (.i (spP c d))])]) [] []), (3, 2, .call (.c (.d (.i (Lib.compareInt (spW a b) (spW c d))))) [] []), (3, 5, .call (.c (.d (.i (Lib.compareInt (spP a b) (spP c d))))) [] []), (3, 7, .call (.c (.d (.i (decCmp a b c d)))) [] [])] [] (.c (.d (.i (decCmp a b c d)))) [] (by kernel_rfl) (conjC ((split_ok a b (by assumption) : SpG (gT m) _ _ _ _ _)) (conjC ((split_ok c d (by assumption) : SpG (gT m) _ _ _ _ _)) (conjC ((cmpInt_ok (spW a b) (spW c d) : SpG (gT m) _ _ _ _ _)) (conjC ((cmpInt_ok (spP a b) (spP c d) : SpG (gT m) _ _ _ _ _)) (conj1 ((or_ok (x := Lib.compareInt (spW a b) (spW c d)) (y := Lib.compareInt (spP a b) (spP c d)) : SpG (gT m) _ _ _ _ _))))))) ?_ ?_
  · rfl
  · rfl
theorem listsS_ok (a b : List (List UInt8)) :
    SpG (gT m) 106 [.c (.d (.sl 1 (strs a))), .c (.d (.sl 1 (strs b))), .c (.d (.v (.func (.func 99) #[] #[])))] [] (.c (.d (.i (listC Lib.compareBytes a b)))) [] := by
  refine enterB 36 Tryz.func106 (by kernel_rfl) fun fr hG => ?_
  refine stepLen 0 rfl fun hl0 => ?_
  refine stepLen 1 rfl fun hl1 => ?_
  refine stepL hG hmix [] [0, 1, 0, 1] ((fun (zz : Nat) => match zz with | k => ⟨[(0, [], .c (.d (.sl 1 (strs a)))), (1, [], .c (.d (.sl 1 (strs b)))), (2, [], .c (.d (.v (.func (.func 99) #[] #[])))), (6, [], .c (.d (.i 0))), (13, [], .c (.d (.i (if (((strs b).length : Int) : Int) < ((strs a).length : Int) then ((strs b).length : Int) else ((strs a).length : Int))))), (14, [], .c (.d (.i (k : Int))))], []⟩) 0) _ (by kernel_rfl) conj0 ?_
  refine loopR (σ := Nat) (fun (zz : Nat) => match zz with | k => a.length - k) (fun (zz : Nat) => match zz with | k => ⟨[(0, [], .c (.d (.sl 1 (strs a)))), (1, [], .c (.d (.sl 1 (strs b)))), (2, [], .c (.d (.v (.func (.func 99) #[] #[])))), (6, [], .c (.d (.i 0))), (13, [], .c (.d (.i (if (((strs b).length : Int) : Int) < ((strs a).length : Int) then ((strs b).length : Int) else ((strs a).length : Int))))), (14, [], .c (.d (.i (k : Int))))], []⟩) (fun (zz : Nat) => match zz with | k => (k : Int) ≤ a.length ∧ (k : Int) ≤ b.length ∧ listC Lib.compareBytes a b = listC Lib.compareBytes (a.drop k) (b.drop k)) 0 (by kernel_rfl) ?_ ?_
  · exact ⟨by omega, by omega, rfl⟩
  rintro k ⟨hk1, hk2, hl⟩
  refine stepC hG hmix [] [0, 1] (decide (((k : Int) : Int) < (if (((strs b).length : Int) : Int) < ((strs a).length : Int) then ((strs b).length : Int) else ((strs a).length : Int)))) (⟨[(0, [], .c (.d (.sl 1 (strs a)))), (1, [], .c (.d (.sl 1 (strs b)))), (2, [], .c (.d (.v (.func (.func 99) #[] #[])))), (6, [], .c (.d (.i 0))), (13, [], .c (.d (.i (if (((strs b).length : Int) : Int) < ((strs a).length : Int) then ((strs b).length : Int) else ((strs a).length : Int))))), (14, [], .c (.d (.i (k : Int))))], []⟩) _ (by kernel_rfl) conj0 (fun hc2 => ?_) (fun hc2 => ?_)
  · (try simp only [blS, S_eqv, S_eqf, strs, rowD, rowsD, valsD, List.length_map] at hc2)
    have hk3 : k < a.length ∧ k < b.length := by split at hc2 <;> omega
    refine stepC hG hmix [(4, 3, .elem (strD ((a).getD k []))), (4, 7, .elem (strD ((b).getD k []))), (4, 9, .call (.c (.d (.i (Lib.compareBytes ((a).getD k []) ((b).getD k []))))) [] [])] [1, 1, 1, 0, 0, 1, 1] (!decide ((Lib.compareBytes ((a).getD k []) ((b).getD k []) : Int) = 0)) (⟨[(0, [], .c (.d (.sl 1 (strs a)))), (1, [], .c (.d (.sl 1 (strs b)))), (2, [], .c (.d (.v (.func (.func 99) #[] #[])))), (6, [], .c (.d (.i 0))), (8, [], .c (.d (.i (Lib.compareBytes ((a).getD k []) ((b).getD k []))))), (13, [], .c (.d (.i (if (((strs b).length : Int) : Int) < ((strs a).length : Int) then ((strs b).length : Int) else ((strs a).length : Int))))), (14, [], .c (.d (.i (k : Int))))], []⟩) _ (by kernel_rfl) (conjC (show (0 : Int) ≤ (k : Int) ∧ (strs a)[k]? = some (strD ((a).getD k [])) from (by intros; exact map_at [] (by omega) (by (try simp only [strs, List.length_map] at *); omega))) (conjC (show (0 : Int) ≤ (k : Int) ∧ (strs b)[k]? = some (strD ((b).getD k [])) from (by intros; exact map_at [] (by omega) (by (try simp only [strs, List.length_map] at *); omega))) (conj1 ((cmpStr_ok ((a).getD k []) ((b).getD k []) : SpG (gT m) _ _ _ _ _))))) (fun hc3 => ?_) (fun hc3 => ?_)
    · (try simp only [blS, S_eqv, S_eqf, strs, rowD, rowsD, valsD, List.length_map] at hc3)
      refine leaveE hG hmix [] .ret (⟨[(0, [], .c (.d (.sl 1 (strs a)))), (1, [], .c (.d (.sl 1 (strs b)))), (6, [], .c (.d (.i (Lib.compareBytes ((a).getD k []) ((b).getD k [])))))], []⟩) _ (by kernel_rfl) conj0 rfl ?_
      refine stepR' hG hmix [] [] (.c (.d (.i (Lib.compareBytes ((a).getD k []) ((b).getD k []))))) [] (by kernel_rfl) conj0 ?_ ?_
      · rw [hl, listC_step _ [] (by split at hc2 <;> omega) (by split at hc2 <;> omega), if_neg hc3]
      · rfl
    · (try simp only [blS, S_eqv, S_eqf, strs, rowD, rowsD, valsD, List.length_map] at hc3)
      refine roundE hG hmix [] (k + 1) _ (by kernel_rfl) (conj1 (show inR ((k : Int) + 1) from (by intros; (try simp only [inR, maxLen, strs, List.length_map] at *); omega))) ?_ ?_
      · (try dsimp only); omega
      · refine ⟨by omega, by omega, ?_⟩
        rw [hl, listC_step _ [] (by omega) (by omega), if_pos (by omega)]
  · (try simp only [blS, S_eqv, S_eqf, strs, rowD, rowsD, valsD, List.length_map] at hc2)
    refine leaveE hG hmix [] (.exit 0) (⟨[(0, [], .c (.d (.sl 1 (strs a)))), (1, [], .c (.d (.sl 1 (strs b)))), (6, [], .c (.d (.i 0)))], []⟩) _ (by kernel_rfl) conj0 rfl ?_
    refine stepR' hG hmix [(8, 4, .call (.c (.d (.i (Lib.compareInt ((strs a).length : Int) ((strs b).length : Int))))) [] [])] [] (.c (.d (.i (Lib.compareInt ((strs a).length : Int) ((strs b).length : Int))))) [] (by kernel_rfl) (conj1 ((cmpInt_ok ((strs a).length : Int) ((strs b).length : Int) : SpG (gT m) _ _ _ _ _))) ?_ ?_
    · rw [hl, listC_last _ (by split at hc2 <;> omega) (by omega) (by omega)]; simp [strs]
    · rfl
theorem ordN_ok (a b : Vl) :
    SpG (gT m) 96 [.agg [.d (.i a.kind), .d (.s (S a.s)), .d (.i a.dn), .d (.i a.ds), .d (.i a.n), .d (.sl 1 (strs a.cols)), .d (.sl 1 (rowsD a.rows))], .agg [.d (.i b.kind), .d (.s (S b.s)), .d (.i b.dn), .d (.i b.ds), .d (.i b.n), .d (.sl 1 (strs b.cols)), .d (.sl 1 (rowsD b.rows))]] [] (.c (.d (.i (Lib.compareInt a.n b.n)))) [] := by
  refine enterB 10 Tryz.func96 (by kernel_rfl) fun fr hG => ?_
  refine stepR' hG hmix [(1, 4, .call (.c (.d (.i (Lib.compareInt a.n b.n)))) [] [])] [] (.c (.d (.i (Lib.compareInt a.n b.n)))) [] (by kernel_rfl) (conj1 ((cmpInt_ok a.n b.n : SpG (gT m) _ _ _ _ _))) ?_ ?_
  · rfl
  · rfl
theorem ordS_ok (a b : Vl) :
    SpG (gT m) 98 [.agg [.d (.i a.kind), .d (.s (S a.s)), .d (.i a.dn), .d (.i a.ds), .d (.i a.n), .d (.sl 1 (strs a.cols)), .d (.sl 1 (rowsD a.rows))], .agg [.d (.i b.kind), .d (.s (S b.s)), .d (.i b.dn), .d (.i b.ds), .d (.i b.n), .d (.sl 1 (strs b.cols)), .d (.sl 1 (rowsD b.rows))]] [] (.c (.d (.i (Lib.compareBytes a.s b.s)))) [] := by
  refine enterB 10 Tryz.func98 (by kernel_rfl) fun fr hG => ?_
  refine stepR' hG hmix [(1, 4, .call (.c (.d (.i (Lib.compareBytes (a.s) (b.s))))) [] [])] [] (.c (.d (.i (Lib.compareBytes (a.s) (b.s))))) [] (by kernel_rfl) (conj1 ((cmpStr_ok (a.s) (b.s) : SpG (gT m) _ _ _ _ _))) ?_ ?_
  · rfl
  · rfl
theorem ordD_ok (a b : Vl) (h1 : decB a.dn a.ds = true) (h2 : decB b.dn b.ds = true) :
    SpG (gT m) 100 [.agg [.d (.i a.kind), .d (.s (S a.s)), .d (.i a.dn), .d (.i a.ds), .d (.i a.n), .d (.sl 1 (strs a.cols)), .d (.sl 1 (rowsD a.rows))], .agg [.d (.i b.kind), .d (.s (S b.s)), .d (.i b.dn), .d (.i b.ds), .d (.i b.n), .d (.sl 1 (strs b.cols)), .d (.sl 1 (rowsD b.rows))]] [] (.c (.d (.i (decCmp a.dn a.ds b.dn b.ds)))) [] := by
  refine enterB 10 Tryz.func100 (by kernel_rfl) fun fr hG => ?_
  refine stepR' hG hmix [(1, 4, .call (.c (.d (.i (decCmp a.dn a.ds b.dn b.ds)))) [] [])] [] (.c (.d (.i (decCmp a.dn a.ds b.dn b.ds)))) [] (by kernel_rfl) (conj1 ((decCmp_ok a.dn a.ds b.dn b.ds h1 h2 : SpG (gT m) _ _ _ _ _))) ?_ ?_
  · rfl
  · rfl
theorem orders_ok_  :
    SpG (gT m) 65 [] [] (.c (.mp 100)) [(100, .box ⟨.map true, none⟩ [.d (.i 0), .d (.v (.func (.func 96) #[] #[])), .d (.i 1), .d (.v (.func (.func 98) #[] #[])), .d (.i 2), .d (.v (.func (.func 100) #[] #[])), .d (.i 3), .d (.v (.func (.func 96) #[] #[])), .d (.i 4), .d (.v (.func (.func 96) #[] #[])), .d (.i 5), .fn 105 [] [(101, 0)]]), (101, .box 141 [.fn 103 [] [(102, 0)]]), (102, .box 101 [.fn 102 [] [(103, 0)]]), (103, .box 104 [.mp 100])] := by
  refine enterB 19 Tryz.func65 (by kernel_rfl) fun fr hG => ?_
  refine stepR' hG hmix [] [300, 501, 401, 312] (.c (.mp 100)) [(100, .box ⟨.map true, none⟩ [.d (.i 0), .d (.v (.func (.func 96) #[] #[])), .d (.i 1), .d (.v (.func (.func 98) #[] #[])), .d (.i 2), .d (.v (.func (.func 100) #[] #[])), .d (.i 3), .d (.v (.func (.func 96) #[] #[])), .d (.i 4), .d (.v (.func (.func 96) #[] #[])), .d (.i 5), .fn 105 [] [(101, 0)]]), (101, .box 141 [.fn 103 [] [(102, 0)]]), (102, .box 101 [.fn 102 [] [(103, 0)]]), (103, .box 104 [.mp 100])] (by kernel_rfl) conj0 ?_ ?_
  · rfl
  · rfl
theorem orders_ok  :
    SpG (gT m) 65 [] [] (.c (.mp 100)) [(100, .box ⟨.map true, none⟩ [.d (.i 0), .d (.v (.func (.func 96) #[] #[])), .d (.i 1), .d (.v (.func (.func 98) #[] #[])), .d (.i 2), .d (.v (.func (.func 100) #[] #[])), .d (.i 3), .d (.v (.func (.func 96) #[] #[])), .d (.i 4), .d (.v (.func (.func 96) #[] #[])), .d (.i 5), .fn 105 [] [(101, 0)]]), (101, .box 141 [.fn 103 [] [(102, 0)]]), (102, .box 101 [.fn 102 [] [(103, 0)]]), (103, .box 104 [.mp 100])] := by
  refine spec_look (orders_ok_ ) ?_
  first | rfl | (funext i; simp only [lookO_cons, upd]; ((repeat' split) <;> first | rfl | (exfalso; omega)))
end Go.Proofs.YtmpgfchkkemngaaGreatDoor
namespace Go.Proofs.YtmpgfchkkemngaaGreatDoor
open Go.RowKit Go.V
open Go.Eng (inR byteAt u8 bytesV)
variable {m : Int}
def kdC (k : Int) (a b : Cl) : Int := if k = 1 then Lib.compareBytes a.s b.s else if k = 2 then decCmp a.dn a.ds b.dn b.ds else Lib.compareInt a.n b.n
def clC (a b : Cl) : Int := if a.kind = b.kind then kdC a.kind a b else Lib.compareInt a.kind b.kind
def Vl.c (v : Vl) : Cl := ⟨v.kind, v.s, v.dn, v.ds, v.n⟩
def tbC (a b : Vl) : Int := if listC Lib.compareBytes a.cols b.cols = 0 then listC (listC clC) a.rows b.rows else listC Lib.compareBytes a.cols b.cols
def vlC (a b : Vl) : Int := if a.kind = 5 then tbC a b else kdC a.kind a.c b.c
def lessB (a b : Vl) : Bool := if rightB a = true ∧ rightB b = true then (if a.kind = b.kind then decide (vlC a b < 0) else decide (a.kind < b.kind)) else rightB a
structure Cl.ord (c : Cl) : Prop where
  k0 : 0 ≤ c.kind
  k4 : c.kind ≤ 4
  d : c.kind = 2 → decB c.dn c.ds = true
theorem ord_of {T : Bool} {v : Vl} (h : rightK T v = true) : 0 ≤ v.kind ∧ v.kind ≤ 5 ∧ (v.kind = 2 → decB v.dn v.ds = true) ∧ (v.kind = 5 → T = true) := by
  unfold rightK at h
  by_cases h0 : v.kind = 0
  · omega
  · by_cases h1 : v.kind = 1
    · omega
    · by_cases h2 : v.kind = 2
      · simp only [h2] at h
        simp at h
        exact ⟨by omega, by omega, fun _ => h.1, by omega⟩
      · by_cases h3 : v.kind = 3
        · omega
        · by_cases h4 : v.kind = 4
          · omega
          · by_cases h5 : v.kind = 5
            · simp only [h5] at h
              simp at h
              exact ⟨by omega, by omega, by omega, fun _ => h.1⟩
            · simp [h0, h1, h2, h3, h4, h5] at h
theorem cell_ord {c : Cl} (hk : ¬ c.kind = 5) (h : rightK false c.toV = true) : c.ord := by
  obtain ⟨a, b, d, _⟩ := ord_of h
  have a' : 0 ≤ c.kind := a
  have b' : c.kind ≤ 5 := b
  exact ⟨a', by omega, d⟩
theorem getD_at {α : Type} {l : List α} {i : Nat} {z : α} (h : i < l.length) : l.getD i z = l[i] := by simp [h]
theorem table_ord {cols : List (List UInt8)} {rows : List (List Cl)} (h : tableB cols rows = true) : ∀ r, r ∈ rows → ∀ c, c ∈ r → c.ord := by
  intro r hr c hc
  simp only [tableB, Bool.and_eq_true] at h
  obtain ⟨i, hi, rfl⟩ := List.mem_iff_getElem.1 hr
  obtain ⟨j, hj, rfl⟩ := List.mem_iff_getElem.1 hc
  have h1 := allR_get h.2 hi
  simp only [rowAt, Bool.and_eq_true, decide_eq_true_eq, getD_at hi] at h1
  have h2 := allR_get h1.2 hj
  simp only [cellAt, Bool.and_eq_true, Bool.not_eq_true', decide_eq_false_iff_not, getD_at hj] at h2
  exact cell_ord h2.1 h2.2
theorem kdC_0 {k : Int} {a b : Cl} (h : k = 0 ∨ k = 3 ∨ k = 4) : kdC k a b = Lib.compareInt a.n b.n := by
  unfold kdC; rw [if_neg (by omega), if_neg (by omega)]
theorem kdC_1 {k : Int} {a b : Cl} (h : k = 1) : kdC k a b = Lib.compareBytes a.s b.s := by
  unfold kdC; rw [if_pos h]
theorem kdC_2 {k : Int} {a b : Cl} (h : k = 2) : kdC k a b = decCmp a.dn a.ds b.dn b.ds := by
  unfold kdC; rw [if_neg (by omega), if_pos h]
theorem cells_ok (x y : Cl) (hx : x.ord) (hy : y.ord) :
    SpG (gT m) 102 [.agg [.d (.i ((x).kind)), .d (.s (S (x).s)), .d (.i ((x).dn)), .d (.i ((x).ds)), .d (.i ((x).n)), .d (.sl 1 ([])), .d (.sl 1 ([]))], .agg [.d (.i ((y).kind)), .d (.s (S (y).s)), .d (.i ((y).dn)), .d (.i ((y).ds)), .d (.i ((y).n)), .d (.sl 1 ([])), .d (.sl 1 ([]))], .c (.bx 0 0)] [(0, .box 104 [.mp 1]), (1, .box ⟨.map true, none⟩ [.d (.i 0), .d (.v (.func (.func 96) #[] #[])), .d (.i 1), .d (.v (.func (.func 98) #[] #[])), .d (.i 2), .d (.v (.func (.func 100) #[] #[])), .d (.i 3), .d (.v (.func (.func 96) #[] #[])), .d (.i 4), .d (.v (.func (.func 96) #[] #[])), .d (.i 5), .fn 105 [] [(2, 0)]]), (2, .box 141 [.fn 103 [] [(3, 0)]]), (3, .box 101 [.fn 102 [] [(0, 0)]])] (.c (.d (.i (clC x y)))) [(0, .box 104 [.mp 1]), (1, .box ⟨.map true, none⟩ [.d (.i 0), .d (.v (.func (.func 96) #[] #[])), .d (.i 1), .d (.v (.func (.func 98) #[] #[])), .d (.i 2), .d (.v (.func (.func 100) #[] #[])), .d (.i 3), .d (.v (.func (.func 96) #[] #[])), .d (.i 4), .d (.v (.func (.func 96) #[] #[])), .d (.i 5), .fn 105 [] [(2, 0)]]), (2, .box 141 [.fn 103 [] [(3, 0)]]), (3, .box 101 [.fn 102 [] [(0, 0)]])] := by
  refine enterB 24 Tryz.func102 (by kernel_rfl) fun fr hG => ?_
  refine stepC hG hmix [] [1, 0, 1] (!decide (((x).kind : Int) = ((y).kind))) (⟨[(2, [], .c (.bx 0 0)), (3, [], .c (.bx 100 0)), (4, [], .c (.bx 101 0)), (5, [], .c (.d (.i 0)))], [(0, .box 104 [.mp 1]), (1, .box ⟨.map true, none⟩ [.d (.i 0), .d (.v (.func (.func 96) #[] #[])), .d (.i 1), .d (.v (.func (.func 98) #[] #[])), .d (.i 2), .d (.v (.func (.func 100) #[] #[])), .d (.i 3), .d (.v (.func (.func 96) #[] #[])), .d (.i 4), .d (.v (.func (.func 96) #[] #[])), .d (.i 5), .fn 105 [] [(2, 0)]]), (2, .box 141 [.fn 103 [] [(3, 0)]]), (3, .box 101 [.fn 102 [] [(0, 0)]]), (100, .box 30 [.d (.i ((x).kind)), .d (.s (S (x).s)), .d (.i ((x).dn)), .d (.i ((x).ds)), .d (.i ((x).n)), .d (.sl 1 ([])), .d (.sl 1 ([]))]), (101, .box 30 [.d (.i ((y).kind)), .d (.s (S (y).s)), .d (.i ((y).dn)), .d (.i ((y).ds)), .d (.i ((y).n)), .d (.sl 1 ([])), .d (.sl 1 ([]))])]⟩) _ (by kernel_rfl) conj0 (fun hc1 => ?_) (fun hc1 => ?_)
  · (try simp only [blS] at hc1)
    refine stepRL hG hmix [(2, 4, .call (.c (.d (.i (Lib.compareInt ((x).kind) ((y).kind))))) [] [])] [] (.c (.d (.i (Lib.compareInt ((x).kind) ((y).kind))))) [(0, .box 104 [.mp 1]), (1, .box ⟨.map true, none⟩ [.d (.i 0), .d (.v (.func (.func 96) #[] #[])), .d (.i 1), .d (.v (.func (.func 98) #[] #[])), .d (.i 2), .d (.v (.func (.func 100) #[] #[])), .d (.i 3), .d (.v (.func (.func 96) #[] #[])), .d (.i 4), .d (.v (.func (.func 96) #[] #[])), .d (.i 5), .fn 105 [] [(2, 0)]]), (2, .box 141 [.fn 103 [] [(3, 0)]]), (3, .box 101 [.fn 102 [] [(0, 0)]])] (by kernel_rfl) (conj1 ((cmpInt_ok ((x).kind) ((y).kind) : SpG (gT m) _ _ _ _ _))) ?_ ?_
    · rw [clC, if_neg (by simpa using hc1)]
    · first | rfl | (funext i; simp only [lookO_cons, upd]; ((repeat' split) <;> first | rfl | (exfalso; omega)))
  · (try simp only [blS] at hc1)
    have hkd : x.kind = 0 ∨ x.kind = 1 ∨ x.kind = 2 ∨ x.kind = 3 ∨ x.kind = 4 := by have := hx.k0; have := hx.k4; omega
    rcases hkd with hkd | hkd | hkd | hkd | hkd
    · skip
      refine stepRL hG hmix [(3, 3, .elem [.i 0]), (3, 7, .call (.c (.d (.i (Lib.compareInt ((x).toV).n ((y).toV).n)))) [] [])] [] (.c (.d (.i (Lib.compareInt ((x).toV).n ((y).toV).n)))) [(0, .box 104 [.mp 1]), (1, .box ⟨.map true, none⟩ [.d (.i 0), .d (.v (.func (.func 96) #[] #[])), .d (.i 1), .d (.v (.func (.func 98) #[] #[])), .d (.i 2), .d (.v (.func (.func 100) #[] #[])), .d (.i 3), .d (.v (.func (.func 96) #[] #[])), .d (.i 4), .d (.v (.func (.func 96) #[] #[])), .d (.i 5), .fn 105 [] [(2, 0)]]), (2, .box 141 [.fn 103 [] [(3, 0)]]), (3, .box 101 [.fn 102 [] [(0, 0)]])] (by kernel_rfl) (conjC (show ((x).kind : Int) = 0 from (by first | assumption | omega)) (conj1 ((ordN_ok ((x).toV) ((y).toV) : SpG (gT m) _ _ _ _ _)))) ?_ ?_
      · rw [clC, if_pos (by omega), kdC_0 (by omega)]; try rfl
      · first | rfl | (funext i; simp only [lookO_cons, upd]; ((repeat' split) <;> first | rfl | (exfalso; omega)))
    · skip
      refine stepRL hG hmix [(3, 3, .elem [.i 1]), (3, 7, .call (.c (.d (.i (Lib.compareBytes ((x).toV).s ((y).toV).s)))) [] [])] [] (.c (.d (.i (Lib.compareBytes ((x).toV).s ((y).toV).s)))) [(0, .box 104 [.mp 1]), (1, .box ⟨.map true, none⟩ [.d (.i 0), .d (.v (.func (.func 96) #[] #[])), .d (.i 1), .d (.v (.func (.func 98) #[] #[])), .d (.i 2), .d (.v (.func (.func 100) #[] #[])), .d (.i 3), .d (.v (.func (.func 96) #[] #[])), .d (.i 4), .d (.v (.func (.func 96) #[] #[])), .d (.i 5), .fn 105 [] [(2, 0)]]), (2, .box 141 [.fn 103 [] [(3, 0)]]), (3, .box 101 [.fn 102 [] [(0, 0)]])] (by kernel_rfl) (conjC (show ((x).kind : Int) = 1 from (by first | assumption | omega)) (conj1 ((ordS_ok ((x).toV) ((y).toV) : SpG (gT m) _ _ _ _ _)))) ?_ ?_
      · rw [clC, if_pos (by omega), kdC_1 (by omega)]; try rfl
      · first | rfl | (funext i; simp only [lookO_cons, upd]; ((repeat' split) <;> first | rfl | (exfalso; omega)))
    · skip
      refine stepRL hG hmix [(3, 3, .elem [.i 2]), (3, 7, .call (.c (.d (.i (decCmp x.dn x.ds y.dn y.ds)))) [] [])] [] (.c (.d (.i (decCmp x.dn x.ds y.dn y.ds)))) [(0, .box 104 [.mp 1]), (1, .box ⟨.map true, none⟩ [.d (.i 0), .d (.v (.func (.func 96) #[] #[])), .d (.i 1), .d (.v (.func (.func 98) #[] #[])), .d (.i 2), .d (.v (.func (.func 100) #[] #[])), .d (.i 3), .d (.v (.func (.func 96) #[] #[])), .d (.i 4), .d (.v (.func (.func 96) #[] #[])), .d (.i 5), .fn 105 [] [(2, 0)]]), (2, .box 141 [.fn 103 [] [(3, 0)]]), (3, .box 101 [.fn 102 [] [(0, 0)]])] (by kernel_rfl) (conjC (show ((x).kind : Int) = 2 from (by first | assumption | omega)) (conj1 ((ordD_ok x.toV y.toV (hx.d hkd) (hy.d (by omega)) : SpG (gT m) _ _ _ _ _)))) ?_ ?_
      · rw [clC, if_pos (by omega), kdC_2 (by omega)]; try rfl
      · first | rfl | (funext i; simp only [lookO_cons, upd]; ((repeat' split) <;> first | rfl | (exfalso; omega)))
    · skip
      refine stepRL hG hmix [(3, 3, .elem [.i 3]), (3, 7, .call (.c (.d (.i (Lib.compareInt ((x).toV).n ((y).toV).n)))) [] [])] [] (.c (.d (.i (Lib.compareInt ((x).toV).n ((y).toV).n)))) [(0, .box 104 [.mp 1]), (1, .box ⟨.map true, none⟩ [.d (.i 0), .d (.v (.func (.func 96) #[] #[])), .d (.i 1), .d (.v (.func (.func 98) #[] #[])), .d (.i 2), .d (.v (.func (.func 100) #[] #[])), .d (.i 3), .d (.v (.func (.func 96) #[] #[])), .d (.i 4), .d (.v (.func (.func 96) #[] #[])), .d (.i 5), .fn 105 [] [(2, 0)]]), (2, .box 141 [.fn 103 [] [(3, 0)]]), (3, .box 101 [.fn 102 [] [(0, 0)]])] (by kernel_rfl) (conjC (show ((x).kind : Int) = 3 from (by first | assumption | omega)) (conj1 ((ordN_ok ((x).toV) ((y).toV) : SpG (gT m) _ _ _ _ _)))) ?_ ?_
      · rw [clC, if_pos (by omega), kdC_0 (by omega)]; try rfl
      · first | rfl | (funext i; simp only [lookO_cons, upd]; ((repeat' split) <;> first | rfl | (exfalso; omega)))
    · skip
      refine stepRL hG hmix [(3, 3, .elem [.i 4]), (3, 7, .call (.c (.d (.i (Lib.compareInt ((x).toV).n ((y).toV).n)))) [] [])] [] (.c (.d (.i (Lib.compareInt ((x).toV).n ((y).toV).n)))) [(0, .box 104 [.mp 1]), (1, .box ⟨.map true, none⟩ [.d (.i 0), .d (.v (.func (.func 96) #[] #[])), .d (.i 1), .d (.v (.func (.func 98) #[] #[])), .d (.i 2), .d (.v (.func (.func 100) #[] #[])), .d (.i 3), .d (.v (.func (.func 96) #[] #[])), .d (.i 4), .d (.v (.func (.func 96) #[] #[])), .d (.i 5), .fn 105 [] [(2, 0)]]), (2, .box 141 [.fn 103 [] [(3, 0)]]), (3, .box 101 [.fn 102 [] [(0, 0)]])] (by kernel_rfl) (conjC (show ((x).kind : Int) = 4 from (by first | assumption | omega)) (conj1 ((ordN_ok ((x).toV) ((y).toV) : SpG (gT m) _ _ _ _ _)))) ?_ ?_
      · rw [clC, if_pos (by omega), kdC_0 (by omega)]; try rfl
      · first | rfl | (funext i; simp only [lookO_cons, upd]; ((repeat' split) <;> first | rfl | (exfalso; omega)))
theorem listsC_ok (a b : List Cl) (ha : ∀ c, c ∈ a → c.ord) (hb : ∀ c, c ∈ b → c.ord) :
    SpG (gT m) 104 [.c (.d (.sl 7 (rowD a))), .c (.d (.sl 7 (rowD b))), .c (.fn 102 [] [(0, 0)])] [(0, .box 104 [.mp 1]), (1, .box ⟨.map true, none⟩ [.d (.i 0), .d (.v (.func (.func 96) #[] #[])), .d (.i 1), .d (.v (.func (.func 98) #[] #[])), .d (.i 2), .d (.v (.func (.func 100) #[] #[])), .d (.i 3), .d (.v (.func (.func 96) #[] #[])), .d (.i 4), .d (.v (.func (.func 96) #[] #[])), .d (.i 5), .fn 105 [] [(2, 0)]]), (2, .box 141 [.fn 103 [] [(3, 0)]]), (3, .box 101 [.fn 102 [] [(0, 0)]])] (.c (.d (.i (listC clC a b)))) [(0, .box 104 [.mp 1]), (1, .box ⟨.map true, none⟩ [.d (.i 0), .d (.v (.func (.func 96) #[] #[])), .d (.i 1), .d (.v (.func (.func 98) #[] #[])), .d (.i 2), .d (.v (.func (.func 100) #[] #[])), .d (.i 3), .d (.v (.func (.func 96) #[] #[])), .d (.i 4), .d (.v (.func (.func 96) #[] #[])), .d (.i 5), .fn 105 [] [(2, 0)]]), (2, .box 141 [.fn 103 [] [(3, 0)]]), (3, .box 101 [.fn 102 [] [(0, 0)]])] := by
  refine enterB 36 Tryz.func104 (by kernel_rfl) fun fr hG => ?_
  refine stepLen 0 rfl fun hl0 => ?_
  refine stepLen 1 rfl fun hl1 => ?_
  refine stepL hG hmix [] [0, 1, 0, 1] ((fun (zz : Nat) => match zz with | k => ⟨[(0, [], .c (.d (.sl 7 (rowD a)))), (1, [], .c (.d (.sl 7 (rowD b)))), (2, [], .c (.fn 102 [] [(0, 0)])), (6, [], .c (.d (.i 0))), (13, [], .c (.d (.i (if (((rowD b).length : Int) : Int) < ((rowD a).length : Int) then ((rowD b).length : Int) else ((rowD a).length : Int))))), (14, [], .c (.d (.i (k : Int))))], [(0, .box 104 [.mp 1]), (1, .box ⟨.map true, none⟩ [.d (.i 0), .d (.v (.func (.func 96) #[] #[])), .d (.i 1), .d (.v (.func (.func 98) #[] #[])), .d (.i 2), .d (.v (.func (.func 100) #[] #[])), .d (.i 3), .d (.v (.func (.func 96) #[] #[])), .d (.i 4), .d (.v (.func (.func 96) #[] #[])), .d (.i 5), .fn 105 [] [(2, 0)]]), (2, .box 141 [.fn 103 [] [(3, 0)]]), (3, .box 101 [.fn 102 [] [(0, 0)]])]⟩) 0) _ (by kernel_rfl) conj0 ?_
  refine loopR (σ := Nat) (fun (zz : Nat) => match zz with | k => a.length - k) (fun (zz : Nat) => match zz with | k => ⟨[(0, [], .c (.d (.sl 7 (rowD a)))), (1, [], .c (.d (.sl 7 (rowD b)))), (2, [], .c (.fn 102 [] [(0, 0)])), (6, [], .c (.d (.i 0))), (13, [], .c (.d (.i (if (((rowD b).length : Int) : Int) < ((rowD a).length : Int) then ((rowD b).length : Int) else ((rowD a).length : Int))))), (14, [], .c (.d (.i (k : Int))))], [(0, .box 104 [.mp 1]), (1, .box ⟨.map true, none⟩ [.d (.i 0), .d (.v (.func (.func 96) #[] #[])), .d (.i 1), .d (.v (.func (.func 98) #[] #[])), .d (.i 2), .d (.v (.func (.func 100) #[] #[])), .d (.i 3), .d (.v (.func (.func 96) #[] #[])), .d (.i 4), .d (.v (.func (.func 96) #[] #[])), .d (.i 5), .fn 105 [] [(2, 0)]]), (2, .box 141 [.fn 103 [] [(3, 0)]]), (3, .box 101 [.fn 102 [] [(0, 0)]])]⟩) (fun (zz : Nat) => match zz with | k => (k : Int) ≤ a.length ∧ (k : Int) ≤ b.length ∧ listC clC a b = listC clC (a.drop k) (b.drop k)) 0 (by kernel_rfl) ?_ ?_
  · exact ⟨by omega, by omega, rfl⟩
  rintro k ⟨hk1, hk2, hl⟩
  refine stepC hG hmix [] [0, 1] (decide (((k : Int) : Int) < (if (((rowD b).length : Int) : Int) < ((rowD a).length : Int) then ((rowD b).length : Int) else ((rowD a).length : Int)))) (⟨[(0, [], .c (.d (.sl 7 (rowD a)))), (1, [], .c (.d (.sl 7 (rowD b)))), (2, [], .c (.fn 102 [] [(0, 0)])), (6, [], .c (.d (.i 0))), (13, [], .c (.d (.i (if (((rowD b).length : Int) : Int) < ((rowD a).length : Int) then ((rowD b).length : Int) else ((rowD a).length : Int))))), (14, [], .c (.d (.i (k : Int))))], [(0, .box 104 [.mp 1]), (1, .box ⟨.map true, none⟩ [.d (.i 0), .d (.v (.func (.func 96) #[] #[])), .d (.i 1), .d (.v (.func (.func 98) #[] #[])), .d (.i 2), .d (.v (.func (.func 100) #[] #[])), .d (.i 3), .d (.v (.func (.func 96) #[] #[])), .d (.i 4), .d (.v (.func (.func 96) #[] #[])), .d (.i 5), .fn 105 [] [(2, 0)]]), (2, .box 141 [.fn 103 [] [(3, 0)]]), (3, .box 101 [.fn 102 [] [(0, 0)]])]⟩) _ (by kernel_rfl) conj0 (fun hc2 => ?_) (fun hc2 => ?_)
  · (try simp only [blS, S_eqv, S_eqf, strs, rowD, rowsD, valsD, List.length_map] at hc2)
    have hk3 : k < a.length ∧ k < b.length := by split at hc2 <;> omega
    refine stepC hG hmix [(4, 3, .elem (ClD ((a).getD k Cl.z))), (4, 7, .elem (ClD ((b).getD k Cl.z))), (4, 9, .callG (.c (.d (.i (clC ((a).getD k Cl.z) ((b).getD k Cl.z))))) [0, 1, 2, 3] [(0, .box 104 [.mp 1]), (1, .box ⟨.map true, none⟩ [.d (.i 0), .d (.v (.func (.func 96) #[] #[])), .d (.i 1), .d (.v (.func (.func 98) #[] #[])), .d (.i 2), .d (.v (.func (.func 100) #[] #[])), .d (.i 3), .d (.v (.func (.func 96) #[] #[])), .d (.i 4), .d (.v (.func (.func 96) #[] #[])), .d (.i 5), .fn 105 [] [(2, 0)]]), (2, .box 141 [.fn 103 [] [(3, 0)]]), (3, .box 101 [.fn 102 [] [(0, 0)]])])] [1, 1, 1, 0, 0, 1, 1] (!decide ((clC ((a).getD k Cl.z) ((b).getD k Cl.z) : Int) = 0)) (⟨[(0, [], .c (.d (.sl 7 (rowD a)))), (1, [], .c (.d (.sl 7 (rowD b)))), (2, [], .c (.fn 102 [] [(0, 0)])), (6, [], .c (.d (.i 0))), (8, [], .c (.d (.i (clC ((a).getD k Cl.z) ((b).getD k Cl.z))))), (13, [], .c (.d (.i (if (((rowD b).length : Int) : Int) < ((rowD a).length : Int) then ((rowD b).length : Int) else ((rowD a).length : Int))))), (14, [], .c (.d (.i (k : Int))))], [(0, .box 104 [.mp 1]), (1, .box ⟨.map true, none⟩ [.d (.i 0), .d (.v (.func (.func 96) #[] #[])), .d (.i 1), .d (.v (.func (.func 98) #[] #[])), .d (.i 2), .d (.v (.func (.func 100) #[] #[])), .d (.i 3), .d (.v (.func (.func 96) #[] #[])), .d (.i 4), .d (.v (.func (.func 96) #[] #[])), .d (.i 5), .fn 105 [] [(2, 0)]]), (2, .box 141 [.fn 103 [] [(3, 0)]]), (3, .box 101 [.fn 102 [] [(0, 0)]])]⟩) _ (by kernel_rfl) (conjC (show (0 : Int) ≤ (k : Int) ∧ (rowD a)[k]? = some (ClD ((a).getD k Cl.z)) from (by intros; exact map_at _ (by omega) (by (try simp only [rowD, rowsD, valsD, strs, List.length_map] at *); omega))) (conjC (show (0 : Int) ≤ (k : Int) ∧ (rowD b)[k]? = some (ClD ((b).getD k Cl.z)) from (by intros; exact map_at _ (by omega) (by (try simp only [rowD, rowsD, valsD, strs, List.length_map] at *); omega))) (conj1 ((cells_ok ((a).getD k Cl.z) ((b).getD k Cl.z) (ha _ (getD_mem (by omega))) (hb _ (getD_mem (by omega))) : SpG (gT m) _ _ _ _ _))))) (fun hc3 => ?_) (fun hc3 => ?_)
    · (try simp only [blS, S_eqv, S_eqf, strs, rowD, rowsD, valsD, List.length_map] at hc3)
      refine leaveE hG hmix [] .ret (⟨[(0, [], .c (.d (.sl 7 (rowD a)))), (1, [], .c (.d (.sl 7 (rowD b)))), (6, [], .c (.d (.i (clC ((a).getD k Cl.z) ((b).getD k Cl.z)))))], [(0, .box 104 [.mp 1]), (1, .box ⟨.map true, none⟩ [.d (.i 0), .d (.v (.func (.func 96) #[] #[])), .d (.i 1), .d (.v (.func (.func 98) #[] #[])), .d (.i 2), .d (.v (.func (.func 100) #[] #[])), .d (.i 3), .d (.v (.func (.func 96) #[] #[])), .d (.i 4), .d (.v (.func (.func 96) #[] #[])), .d (.i 5), .fn 105 [] [(2, 0)]]), (2, .box 141 [.fn 103 [] [(3, 0)]]), (3, .box 101 [.fn 102 [] [(0, 0)]])]⟩) _ (by kernel_rfl) conj0 rfl ?_
      refine stepRL hG hmix [] [] (.c (.d (.i (clC ((a).getD k Cl.z) ((b).getD k Cl.z))))) [(0, .box 104 [.mp 1]), (1, .box ⟨.map true, none⟩ [.d (.i 0), .d (.v (.func (.func 96) #[] #[])), .d (.i 1), .d (.v (.func (.func 98) #[] #[])), .d (.i 2), .d (.v (.func (.func 100) #[] #[])), .d (.i 3), .d (.v (.func (.func 96) #[] #[])), .d (.i 4), .d (.v (.func (.func 96) #[] #[])), .d (.i 5), .fn 105 [] [(2, 0)]]), (2, .box 141 [.fn 103 [] [(3, 0)]]), (3, .box 101 [.fn 102 [] [(0, 0)]])] (by kernel_rfl) conj0 ?_ ?_
      · rw [hl, listC_step _ Cl.z (by split at hc2 <;> omega) (by split at hc2 <;> omega), if_neg hc3]
      · first | rfl | (funext i; simp only [lookO_cons, upd]; ((repeat' split) <;> first | rfl | (exfalso; omega)))
    · (try simp only [blS, S_eqv, S_eqf, strs, rowD, rowsD, valsD, List.length_map] at hc3)
      refine roundE hG hmix [] (k + 1) _ (by kernel_rfl) (conj1 (show inR ((k : Int) + 1) from (by intros; (try simp only [inR, maxLen, strs, rowD, rowsD, List.length_map] at *); omega))) ?_ ?_
      · (try dsimp only); omega
      · refine ⟨by omega, by omega, ?_⟩
        rw [hl, listC_step _ Cl.z (by omega) (by omega), if_pos (by omega)]
  · (try simp only [blS, S_eqv, S_eqf, strs, rowD, rowsD, valsD, List.length_map] at hc2)
    refine leaveE hG hmix [] (.exit 0) (⟨[(0, [], .c (.d (.sl 7 (rowD a)))), (1, [], .c (.d (.sl 7 (rowD b)))), (6, [], .c (.d (.i 0)))], [(0, .box 104 [.mp 1]), (1, .box ⟨.map true, none⟩ [.d (.i 0), .d (.v (.func (.func 96) #[] #[])), .d (.i 1), .d (.v (.func (.func 98) #[] #[])), .d (.i 2), .d (.v (.func (.func 100) #[] #[])), .d (.i 3), .d (.v (.func (.func 96) #[] #[])), .d (.i 4), .d (.v (.func (.func 96) #[] #[])), .d (.i 5), .fn 105 [] [(2, 0)]]), (2, .box 141 [.fn 103 [] [(3, 0)]]), (3, .box 101 [.fn 102 [] [(0, 0)]])]⟩) _ (by kernel_rfl) conj0 rfl ?_
    refine stepRL hG hmix [(8, 4, .call (.c (.d (.i (Lib.compareInt ((rowD a).length : Int) ((rowD b).length : Int))))) [] [])] [] (.c (.d (.i (Lib.compareInt ((rowD a).length : Int) ((rowD b).length : Int))))) [(0, .box 104 [.mp 1]), (1, .box ⟨.map true, none⟩ [.d (.i 0), .d (.v (.func (.func 96) #[] #[])), .d (.i 1), .d (.v (.func (.func 98) #[] #[])), .d (.i 2), .d (.v (.func (.func 100) #[] #[])), .d (.i 3), .d (.v (.func (.func 96) #[] #[])), .d (.i 4), .d (.v (.func (.func 96) #[] #[])), .d (.i 5), .fn 105 [] [(2, 0)]]), (2, .box 141 [.fn 103 [] [(3, 0)]]), (3, .box 101 [.fn 102 [] [(0, 0)]])] (by kernel_rfl) (conj1 ((cmpInt_ok ((rowD a).length : Int) ((rowD b).length : Int) : SpG (gT m) _ _ _ _ _))) ?_ ?_
    · rw [hl, listC_last _ (by split at hc2 <;> omega) (by omega) (by omega)]; simp [rowD]
    · first | rfl | (funext i; simp only [lookO_cons, upd]; ((repeat' split) <;> first | rfl | (exfalso; omega)))
theorem rowsG_ok (a b : List Cl) (ha : ∀ c, c ∈ a → c.ord) (hb : ∀ c, c ∈ b → c.ord) :
    SpG (gT m) 103 [.c (.d (.sl 7 (rowD a))), .c (.d (.sl 7 (rowD b))), .c (.bx 3 0)] [(0, .box 104 [.mp 1]), (1, .box ⟨.map true, none⟩ [.d (.i 0), .d (.v (.func (.func 96) #[] #[])), .d (.i 1), .d (.v (.func (.func 98) #[] #[])), .d (.i 2), .d (.v (.func (.func 100) #[] #[])), .d (.i 3), .d (.v (.func (.func 96) #[] #[])), .d (.i 4), .d (.v (.func (.func 96) #[] #[])), .d (.i 5), .fn 105 [] [(2, 0)]]), (2, .box 141 [.fn 103 [] [(3, 0)]]), (3, .box 101 [.fn 102 [] [(0, 0)]])] (.c (.d (.i (listC clC a b)))) [(0, .box 104 [.mp 1]), (1, .box ⟨.map true, none⟩ [.d (.i 0), .d (.v (.func (.func 96) #[] #[])), .d (.i 1), .d (.v (.func (.func 98) #[] #[])), .d (.i 2), .d (.v (.func (.func 100) #[] #[])), .d (.i 3), .d (.v (.func (.func 96) #[] #[])), .d (.i 4), .d (.v (.func (.func 96) #[] #[])), .d (.i 5), .fn 105 [] [(2, 0)]]), (2, .box 141 [.fn 103 [] [(3, 0)]]), (3, .box 101 [.fn 102 [] [(0, 0)]])] := by
  refine enterB 10 Tryz.func103 (by kernel_rfl) fun fr hG => ?_
  refine stepRL hG hmix [(1, 3, .callG (.c (.d (.i (listC clC (a) (b))))) [0, 1, 2, 3] [(0, .box 104 [.mp 1]), (1, .box ⟨.map true, none⟩ [.d (.i 0), .d (.v (.func (.func 96) #[] #[])), .d (.i 1), .d (.v (.func (.func 98) #[] #[])), .d (.i 2), .d (.v (.func (.func 100) #[] #[])), .d (.i 3), .d (.v (.func (.func 96) #[] #[])), .d (.i 4), .d (.v (.func (.func 96) #[] #[])), .d (.i 5), .fn 105 [] [(2, 0)]]), (2, .box 141 [.fn 103 [] [(3, 0)]]), (3, .box 101 [.fn 102 [] [(0, 0)]])])] [] (.c (.d (.i (listC clC (a) (b))))) [(3, .box 101 [.fn 102 [] [(0, 0)]]), (2, .box 141 [.fn 103 [] [(3, 0)]]), (1, .box ⟨.map true, none⟩ [.d (.i 0), .d (.v (.func (.func 96) #[] #[])), .d (.i 1), .d (.v (.func (.func 98) #[] #[])), .d (.i 2), .d (.v (.func (.func 100) #[] #[])), .d (.i 3), .d (.v (.func (.func 96) #[] #[])), .d (.i 4), .d (.v (.func (.func 96) #[] #[])), .d (.i 5), .fn 105 [] [(2, 0)]]), (0, .box 104 [.mp 1])] (by kernel_rfl) (conj1 ((listsC_ok (a) (b) ha hb : SpG (gT m) _ _ _ _ _))) ?_ ?_
  · rfl
  · first | rfl | (funext i; simp only [lookO_cons, upd]; ((repeat' split) <;> first | rfl | (exfalso; omega)))
theorem listsR_ok (a b : List (List Cl)) (ha : ∀ r, r ∈ a → ∀ c, c ∈ r → c.ord) (hb : ∀ r, r ∈ b → ∀ c, c ∈ r → c.ord) :
    SpG (gT m) 107 [.c (.d (.sl 1 (rowsD a))), .c (.d (.sl 1 (rowsD b))), .c (.fn 103 [] [(3, 0)])] [(0, .box 104 [.mp 1]), (1, .box ⟨.map true, none⟩ [.d (.i 0), .d (.v (.func (.func 96) #[] #[])), .d (.i 1), .d (.v (.func (.func 98) #[] #[])), .d (.i 2), .d (.v (.func (.func 100) #[] #[])), .d (.i 3), .d (.v (.func (.func 96) #[] #[])), .d (.i 4), .d (.v (.func (.func 96) #[] #[])), .d (.i 5), .fn 105 [] [(2, 0)]]), (2, .box 141 [.fn 103 [] [(3, 0)]]), (3, .box 101 [.fn 102 [] [(0, 0)]])] (.c (.d (.i (listC (listC clC) a b)))) [(0, .box 104 [.mp 1]), (1, .box ⟨.map true, none⟩ [.d (.i 0), .d (.v (.func (.func 96) #[] #[])), .d (.i 1), .d (.v (.func (.func 98) #[] #[])), .d (.i 2), .d (.v (.func (.func 100) #[] #[])), .d (.i 3), .d (.v (.func (.func 96) #[] #[])), .d (.i 4), .d (.v (.func (.func 96) #[] #[])), .d (.i 5), .fn 105 [] [(2, 0)]]), (2, .box 141 [.fn 103 [] [(3, 0)]]), (3, .box 101 [.fn 102 [] [(0, 0)]])] := by
  refine enterB 36 Tryz.func107 (by kernel_rfl) fun fr hG => ?_
  refine stepLen 0 rfl fun hl0 => ?_
  refine stepLen 1 rfl fun hl1 => ?_
  refine stepL hG hmix [] [0, 1, 0, 1] ((fun (zz : Nat) => match zz with | k => ⟨[(0, [], .c (.d (.sl 1 (rowsD a)))), (1, [], .c (.d (.sl 1 (rowsD b)))), (2, [], .c (.fn 103 [] [(3, 0)])), (6, [], .c (.d (.i 0))), (13, [], .c (.d (.i (if (((rowsD b).length : Int) : Int) < ((rowsD a).length : Int) then ((rowsD b).length : Int) else ((rowsD a).length : Int))))), (14, [], .c (.d (.i (k : Int))))], [(0, .box 104 [.mp 1]), (1, .box ⟨.map true, none⟩ [.d (.i 0), .d (.v (.func (.func 96) #[] #[])), .d (.i 1), .d (.v (.func (.func 98) #[] #[])), .d (.i 2), .d (.v (.func (.func 100) #[] #[])), .d (.i 3), .d (.v (.func (.func 96) #[] #[])), .d (.i 4), .d (.v (.func (.func 96) #[] #[])), .d (.i 5), .fn 105 [] [(2, 0)]]), (2, .box 141 [.fn 103 [] [(3, 0)]]), (3, .box 101 [.fn 102 [] [(0, 0)]])]⟩) 0) _ (by kernel_rfl) conj0 ?_
  refine loopR (σ := Nat) (fun (zz : Nat) => match zz with | k => a.length - k) (fun (zz : Nat) => match zz with | k => ⟨[(0, [], .c (.d (.sl 1 (rowsD a)))), (1, [], .c (.d (.sl 1 (rowsD b)))), (2, [], .c (.fn 103 [] [(3, 0)])), (6, [], .c (.d (.i 0))), (13, [], .c (.d (.i (if (((rowsD b).length : Int) : Int) < ((rowsD a).length : Int) then ((rowsD b).length : Int) else ((rowsD a).length : Int))))), (14, [], .c (.d (.i (k : Int))))], [(0, .box 104 [.mp 1]), (1, .box ⟨.map true, none⟩ [.d (.i 0), .d (.v (.func (.func 96) #[] #[])), .d (.i 1), .d (.v (.func (.func 98) #[] #[])), .d (.i 2), .d (.v (.func (.func 100) #[] #[])), .d (.i 3), .d (.v (.func (.func 96) #[] #[])), .d (.i 4), .d (.v (.func (.func 96) #[] #[])), .d (.i 5), .fn 105 [] [(2, 0)]]), (2, .box 141 [.fn 103 [] [(3, 0)]]), (3, .box 101 [.fn 102 [] [(0, 0)]])]⟩) (fun (zz : Nat) => match zz with | k => (k : Int) ≤ a.length ∧ (k : Int) ≤ b.length ∧ listC (listC clC) a b = listC (listC clC) (a.drop k) (b.drop k)) 0 (by kernel_rfl) ?_ ?_
  · exact ⟨by omega, by omega, rfl⟩
  rintro k ⟨hk1, hk2, hl⟩
  refine stepC hG hmix [] [0, 1] (decide (((k : Int) : Int) < (if (((rowsD b).length : Int) : Int) < ((rowsD a).length : Int) then ((rowsD b).length : Int) else ((rowsD a).length : Int)))) (⟨[(0, [], .c (.d (.sl 1 (rowsD a)))), (1, [], .c (.d (.sl 1 (rowsD b)))), (2, [], .c (.fn 103 [] [(3, 0)])), (6, [], .c (.d (.i 0))), (13, [], .c (.d (.i (if (((rowsD b).length : Int) : Int) < ((rowsD a).length : Int) then ((rowsD b).length : Int) else ((rowsD a).length : Int))))), (14, [], .c (.d (.i (k : Int))))], [(0, .box 104 [.mp 1]), (1, .box ⟨.map true, none⟩ [.d (.i 0), .d (.v (.func (.func 96) #[] #[])), .d (.i 1), .d (.v (.func (.func 98) #[] #[])), .d (.i 2), .d (.v (.func (.func 100) #[] #[])), .d (.i 3), .d (.v (.func (.func 96) #[] #[])), .d (.i 4), .d (.v (.func (.func 96) #[] #[])), .d (.i 5), .fn 105 [] [(2, 0)]]), (2, .box 141 [.fn 103 [] [(3, 0)]]), (3, .box 101 [.fn 102 [] [(0, 0)]])]⟩) _ (by kernel_rfl) conj0 (fun hc2 => ?_) (fun hc2 => ?_)
  · (try simp only [blS, S_eqv, S_eqf, strs, rowD, rowsD, valsD, List.length_map] at hc2)
    have hk3 : k < a.length ∧ k < b.length := by split at hc2 <;> omega
    refine stepC hG hmix [(4, 3, .elem (rows1 ((a).getD k []))), (4, 7, .elem (rows1 ((b).getD k []))), (4, 9, .callG (.c (.d (.i (listC clC ((a).getD k []) ((b).getD k []))))) [0, 1, 2, 3] [(0, .box 104 [.mp 1]), (1, .box ⟨.map true, none⟩ [.d (.i 0), .d (.v (.func (.func 96) #[] #[])), .d (.i 1), .d (.v (.func (.func 98) #[] #[])), .d (.i 2), .d (.v (.func (.func 100) #[] #[])), .d (.i 3), .d (.v (.func (.func 96) #[] #[])), .d (.i 4), .d (.v (.func (.func 96) #[] #[])), .d (.i 5), .fn 105 [] [(2, 0)]]), (2, .box 141 [.fn 103 [] [(3, 0)]]), (3, .box 101 [.fn 102 [] [(0, 0)]])])] [1, 1, 1, 0, 0, 1, 1] (!decide ((listC clC ((a).getD k []) ((b).getD k []) : Int) = 0)) (⟨[(0, [], .c (.d (.sl 1 (rowsD a)))), (1, [], .c (.d (.sl 1 (rowsD b)))), (2, [], .c (.fn 103 [] [(3, 0)])), (6, [], .c (.d (.i 0))), (8, [], .c (.d (.i (listC clC ((a).getD k []) ((b).getD k []))))), (13, [], .c (.d (.i (if (((rowsD b).length : Int) : Int) < ((rowsD a).length : Int) then ((rowsD b).length : Int) else ((rowsD a).length : Int))))), (14, [], .c (.d (.i (k : Int))))], [(0, .box 104 [.mp 1]), (1, .box ⟨.map true, none⟩ [.d (.i 0), .d (.v (.func (.func 96) #[] #[])), .d (.i 1), .d (.v (.func (.func 98) #[] #[])), .d (.i 2), .d (.v (.func (.func 100) #[] #[])), .d (.i 3), .d (.v (.func (.func 96) #[] #[])), .d (.i 4), .d (.v (.func (.func 96) #[] #[])), .d (.i 5), .fn 105 [] [(2, 0)]]), (2, .box 141 [.fn 103 [] [(3, 0)]]), (3, .box 101 [.fn 102 [] [(0, 0)]])]⟩) _ (by kernel_rfl) (conjC (show (0 : Int) ≤ (k : Int) ∧ (rowsD a)[k]? = some (rows1 ((a).getD k [])) from (by intros; exact map_at _ (by omega) (by (try simp only [rowD, rowsD, valsD, strs, List.length_map] at *); omega))) (conjC (show (0 : Int) ≤ (k : Int) ∧ (rowsD b)[k]? = some (rows1 ((b).getD k [])) from (by intros; exact map_at _ (by omega) (by (try simp only [rowD, rowsD, valsD, strs, List.length_map] at *); omega))) (conj1 ((rowsG_ok ((a).getD k []) ((b).getD k []) (ha _ (getD_mem (by omega))) (hb _ (getD_mem (by omega))) : SpG (gT m) _ _ _ _ _))))) (fun hc3 => ?_) (fun hc3 => ?_)
    · (try simp only [blS, S_eqv, S_eqf, strs, rowD, rowsD, valsD, List.length_map] at hc3)
      refine leaveE hG hmix [] .ret (⟨[(0, [], .c (.d (.sl 1 (rowsD a)))), (1, [], .c (.d (.sl 1 (rowsD b)))), (6, [], .c (.d (.i (listC clC ((a).getD k []) ((b).getD k [])))))], [(0, .box 104 [.mp 1]), (1, .box ⟨.map true, none⟩ [.d (.i 0), .d (.v (.func (.func 96) #[] #[])), .d (.i 1), .d (.v (.func (.func 98) #[] #[])), .d (.i 2), .d (.v (.func (.func 100) #[] #[])), .d (.i 3), .d (.v (.func (.func 96) #[] #[])), .d (.i 4), .d (.v (.func (.func 96) #[] #[])), .d (.i 5), .fn 105 [] [(2, 0)]]), (2, .box 141 [.fn 103 [] [(3, 0)]]), (3, .box 101 [.fn 102 [] [(0, 0)]])]⟩) _ (by kernel_rfl) conj0 rfl ?_
      refine stepRL hG hmix [] [] (.c (.d (.i (listC clC ((a).getD k []) ((b).getD k []))))) [(0, .box 104 [.mp 1]), (1, .box ⟨.map true, none⟩ [.d (.i 0), .d (.v (.func (.func 96) #[] #[])), .d (.i 1), .d (.v (.func (.func 98) #[] #[])), .d (.i 2), .d (.v (.func (.func 100) #[] #[])), .d (.i 3), .d (.v (.func (.func 96) #[] #[])), .d (.i 4), .d (.v (.func (.func 96) #[] #[])), .d (.i 5), .fn 105 [] [(2, 0)]]), (2, .box 141 [.fn 103 [] [(3, 0)]]), (3, .box 101 [.fn 102 [] [(0, 0)]])] (by kernel_rfl) conj0 ?_ ?_
      · rw [hl, listC_step _ [] (by split at hc2 <;> omega) (by split at hc2 <;> omega), if_neg hc3]
      · first | rfl | (funext i; simp only [lookO_cons, upd]; ((repeat' split) <;> first | rfl | (exfalso; omega)))
    · (try simp only [blS, S_eqv, S_eqf, strs, rowD, rowsD, valsD, List.length_map] at hc3)
      refine roundE hG hmix [] (k + 1) _ (by kernel_rfl) (conj1 (show inR ((k : Int) + 1) from (by intros; (try simp only [inR, maxLen, strs, rowD, rowsD, List.length_map] at *); omega))) ?_ ?_
      · (try dsimp only); omega
      · refine ⟨by omega, by omega, ?_⟩
        rw [hl, listC_step _ [] (by omega) (by omega), if_pos (by omega)]
  · (try simp only [blS, S_eqv, S_eqf, strs, rowD, rowsD, valsD, List.length_map] at hc2)
    refine leaveE hG hmix [] (.exit 0) (⟨[(0, [], .c (.d (.sl 1 (rowsD a)))), (1, [], .c (.d (.sl 1 (rowsD b)))), (6, [], .c (.d (.i 0)))], [(0, .box 104 [.mp 1]), (1, .box ⟨.map true, none⟩ [.d (.i 0), .d (.v (.func (.func 96) #[] #[])), .d (.i 1), .d (.v (.func (.func 98) #[] #[])), .d (.i 2), .d (.v (.func (.func 100) #[] #[])), .d (.i 3), .d (.v (.func (.func 96) #[] #[])), .d (.i 4), .d (.v (.func (.func 96) #[] #[])), .d (.i 5), .fn 105 [] [(2, 0)]]), (2, .box 141 [.fn 103 [] [(3, 0)]]), (3, .box 101 [.fn 102 [] [(0, 0)]])]⟩) _ (by kernel_rfl) conj0 rfl ?_
    refine stepRL hG hmix [(8, 4, .call (.c (.d (.i (Lib.compareInt ((rowsD a).length : Int) ((rowsD b).length : Int))))) [] [])] [] (.c (.d (.i (Lib.compareInt ((rowsD a).length : Int) ((rowsD b).length : Int))))) [(0, .box 104 [.mp 1]), (1, .box ⟨.map true, none⟩ [.d (.i 0), .d (.v (.func (.func 96) #[] #[])), .d (.i 1), .d (.v (.func (.func 98) #[] #[])), .d (.i 2), .d (.v (.func (.func 100) #[] #[])), .d (.i 3), .d (.v (.func (.func 96) #[] #[])), .d (.i 4), .d (.v (.func (.func 96) #[] #[])), .d (.i 5), .fn 105 [] [(2, 0)]]), (2, .box 141 [.fn 103 [] [(3, 0)]]), (3, .box 101 [.fn 102 [] [(0, 0)]])] (by kernel_rfl) (conj1 ((cmpInt_ok ((rowsD a).length : Int) ((rowsD b).length : Int) : SpG (gT m) _ _ _ _ _))) ?_ ?_
    · rw [hl, listC_last _ (by split at hc2 <;> omega) (by omega) (by omega)]; simp [rowsD]
    · first | rfl | (funext i; simp only [lookO_cons, upd]; ((repeat' split) <;> first | rfl | (exfalso; omega)))
theorem ordT_ok (a b : Vl) (ha : ∀ r, r ∈ a.rows → ∀ c, c ∈ r → c.ord) (hb : ∀ r, r ∈ b.rows → ∀ c, c ∈ r → c.ord) :
    SpG (gT m) 105 [.agg [.d (.i a.kind), .d (.s (S a.s)), .d (.i a.dn), .d (.i a.ds), .d (.i a.n), .d (.sl 1 (strs a.cols)), .d (.sl 1 (rowsD a.rows))], .agg [.d (.i b.kind), .d (.s (S b.s)), .d (.i b.dn), .d (.i b.ds), .d (.i b.n), .d (.sl 1 (strs b.cols)), .d (.sl 1 (rowsD b.rows))], .c (.bx 2 0)] [(0, .box 104 [.mp 1]), (1, .box ⟨.map true, none⟩ [.d (.i 0), .d (.v (.func (.func 96) #[] #[])), .d (.i 1), .d (.v (.func (.func 98) #[] #[])), .d (.i 2), .d (.v (.func (.func 100) #[] #[])), .d (.i 3), .d (.v (.func (.func 96) #[] #[])), .d (.i 4), .d (.v (.func (.func 96) #[] #[])), .d (.i 5), .fn 105 [] [(2, 0)]]), (2, .box 141 [.fn 103 [] [(3, 0)]]), (3, .box 101 [.fn 102 [] [(0, 0)]])] (.c (.d (.i (tbC a b)))) [(0, .box 104 [.mp 1]), (1, .box ⟨.map true, none⟩ [.d (.i 0), .d (.v (.func (.func 96) #[] #[])), .d (.i 1), .d (.v (.func (.func 98) #[] #[])), .d (.i 2), .d (.v (.func (.func 100) #[] #[])), .d (.i 3), .d (.v (.func (.func 96) #[] #[])), .d (.i 4), .d (.v (.func (.func 96) #[] #[])), .d (.i 5), .fn 105 [] [(2, 0)]]), (2, .box 141 [.fn 103 [] [(3, 0)]]), (3, .box 101 [.fn 102 [] [(0, 0)]])] := by
  refine enterB 21 Tryz.func105 (by kernel_rfl) fun fr hG => ?_
  refine stepC hG hmix [(1, 4, .call (.c (.d (.i (listC Lib.compareBytes (a.cols) (b.cols))))) [] [])] [1, 1, 0, 1] (!decide ((listC Lib.compareBytes (a.cols) (b.cols) : Int) = 0)) (⟨[(2, [], .c (.bx 2 0)), (3, [], .c (.bx 100 0)), (4, [], .c (.bx 101 0)), (5, [], .c (.d (.i 0))), (6, [], .c (.d (.i (listC Lib.compareBytes (a.cols) (b.cols)))))], [(0, .box 104 [.mp 1]), (1, .box ⟨.map true, none⟩ [.d (.i 0), .d (.v (.func (.func 96) #[] #[])), .d (.i 1), .d (.v (.func (.func 98) #[] #[])), .d (.i 2), .d (.v (.func (.func 100) #[] #[])), .d (.i 3), .d (.v (.func (.func 96) #[] #[])), .d (.i 4), .d (.v (.func (.func 96) #[] #[])), .d (.i 5), .fn 105 [] [(2, 0)]]), (2, .box 141 [.fn 103 [] [(3, 0)]]), (3, .box 101 [.fn 102 [] [(0, 0)]]), (100, .box 30 [.d (.i a.kind), .d (.s (S a.s)), .d (.i a.dn), .d (.i a.ds), .d (.i a.n), .d (.sl 1 (strs a.cols)), .d (.sl 1 (rowsD a.rows))]), (101, .box 30 [.d (.i b.kind), .d (.s (S b.s)), .d (.i b.dn), .d (.i b.ds), .d (.i b.n), .d (.sl 1 (strs b.cols)), .d (.sl 1 (rowsD b.rows))])]⟩) _ (by kernel_rfl) (conj1 ((listsS_ok (a.cols) (b.cols) : SpG (gT m) _ _ _ _ _))) (fun hc1 => ?_) (fun hc1 => ?_)
  · (try simp only [blS] at hc1)
    refine stepRL hG hmix [] [] (.c (.d (.i (listC Lib.compareBytes (a.cols) (b.cols))))) [(0, .box 104 [.mp 1]), (1, .box ⟨.map true, none⟩ [.d (.i 0), .d (.v (.func (.func 96) #[] #[])), .d (.i 1), .d (.v (.func (.func 98) #[] #[])), .d (.i 2), .d (.v (.func (.func 100) #[] #[])), .d (.i 3), .d (.v (.func (.func 96) #[] #[])), .d (.i 4), .d (.v (.func (.func 96) #[] #[])), .d (.i 5), .fn 105 [] [(2, 0)]]), (2, .box 141 [.fn 103 [] [(3, 0)]]), (3, .box 101 [.fn 102 [] [(0, 0)]])] (by kernel_rfl) conj0 ?_ ?_
    · rw [tbC, if_neg hc1]
    · first | rfl | (funext i; simp only [lookO_cons, upd]; ((repeat' split) <;> first | rfl | (exfalso; omega)))
  · (try simp only [blS] at hc1)
    refine stepRL hG hmix [(4, 5, .callG (.c (.d (.i (listC (listC clC) (a.rows) (b.rows))))) [0, 1, 2, 3] [(0, .box 104 [.mp 1]), (1, .box ⟨.map true, none⟩ [.d (.i 0), .d (.v (.func (.func 96) #[] #[])), .d (.i 1), .d (.v (.func (.func 98) #[] #[])), .d (.i 2), .d (.v (.func (.func 100) #[] #[])), .d (.i 3), .d (.v (.func (.func 96) #[] #[])), .d (.i 4), .d (.v (.func (.func 96) #[] #[])), .d (.i 5), .fn 105 [] [(2, 0)]]), (2, .box 141 [.fn 103 [] [(3, 0)]]), (3, .box 101 [.fn 102 [] [(0, 0)]])])] [] (.c (.d (.i (listC (listC clC) (a.rows) (b.rows))))) [(3, .box 101 [.fn 102 [] [(0, 0)]]), (2, .box 141 [.fn 103 [] [(3, 0)]]), (1, .box ⟨.map true, none⟩ [.d (.i 0), .d (.v (.func (.func 96) #[] #[])), .d (.i 1), .d (.v (.func (.func 98) #[] #[])), .d (.i 2), .d (.v (.func (.func 100) #[] #[])), .d (.i 3), .d (.v (.func (.func 96) #[] #[])), .d (.i 4), .d (.v (.func (.func 96) #[] #[])), .d (.i 5), .fn 105 [] [(2, 0)]]), (0, .box 104 [.mp 1])] (by kernel_rfl) (conj1 ((listsR_ok (a.rows) (b.rows) ha hb : SpG (gT m) _ _ _ _ _))) ?_ ?_
    · rw [tbC, if_pos (by omega)]
    · first | rfl | (funext i; simp only [lookO_cons, upd]; ((repeat' split) <;> first | rfl | (exfalso; omega)))
theorem less_ok (a b : Vl) (ha : a.fit) (hb : b.fit) :
    SpG (gT m) 31 [.agg [.d (.i a.kind), .d (.s (S a.s)), .d (.i a.dn), .d (.i a.ds), .d (.i a.n), .d (.sl 1 (strs a.cols)), .d (.sl 1 (rowsD a.rows))], .agg [.d (.i b.kind), .d (.s (S b.s)), .d (.i b.dn), .d (.i b.ds), .d (.i b.n), .d (.sl 1 (strs b.cols)), .d (.sl 1 (rowsD b.rows))]] [] (.c (.d (.b (lessB a b)))) [] := by
  refine enterB 34 Tryz.func31 (by kernel_rfl) fun fr hG => ?_
  refine stepC hG hmix [(1, 1, .call (.c (.d (.b (rightB a)))) [] []), (1, 5, .call (.c (.d (.b (rightB b)))) [] [])] [1, 0, 1] ((!(rightB a)) || (!(rightB b))) (⟨[(2, [], .c (.bx 100 0)), (3, [], .c (.bx 101 0)), (4, [], .c (.d (.b false)))], [(100, .box 30 [.d (.i a.kind), .d (.s (S a.s)), .d (.i a.dn), .d (.i a.ds), .d (.i a.n), .d (.sl 1 (strs a.cols)), .d (.sl 1 (rowsD a.rows))]), (101, .box 30 [.d (.i b.kind), .d (.s (S b.s)), .d (.i b.dn), .d (.i b.ds), .d (.i b.n), .d (.sl 1 (strs b.cols)), .d (.sl 1 (rowsD b.rows))])]⟩) _ (by kernel_rfl) (conjC ((right_ok a (by assumption) : SpG (gT m) _ _ _ _ _)) (conj1 (fun (hg1 : (!(rightB a)) = false) => ((right_ok b (by assumption) : SpG (gT m) _ _ _ _ _))))) (fun hc1 => ?_) (fun hc1 => ?_)
  · (try simp only [blS] at hc1)
    refine stepR' hG hmix [(2, 1, .call (.c (.d (.b (rightB a)))) [] [])] [] (.c (.d (.b (rightB a)))) [] (by kernel_rfl) (conj1 ((right_ok a (by assumption) : SpG (gT m) _ _ _ _ _))) ?_ ?_
    · rw [lessB, if_neg (by rintro ⟨h1, h2⟩; rcases hc1 with h | h <;> simp_all)]
    · rfl
  · (try simp only [blS] at hc1)
    have hr : rightB a = true ∧ rightB b = true := hc1
    refine stepC hG hmix [] [1, 0, 1, 1] (!decide ((a.kind : Int) = b.kind)) (⟨[(2, [], .c (.bx 100 0)), (3, [], .c (.bx 101 0)), (4, [], .c (.d (.b false)))], [(100, .box 30 [.d (.i a.kind), .d (.s (S a.s)), .d (.i a.dn), .d (.i a.ds), .d (.i a.n), .d (.sl 1 (strs a.cols)), .d (.sl 1 (rowsD a.rows))]), (101, .box 30 [.d (.i b.kind), .d (.s (S b.s)), .d (.i b.dn), .d (.i b.ds), .d (.i b.n), .d (.sl 1 (strs b.cols)), .d (.sl 1 (rowsD b.rows))])]⟩) _ (by kernel_rfl) conj0 (fun hc2 => ?_) (fun hc2 => ?_)
    · (try simp only [blS] at hc2)
      refine stepR' hG hmix [] [] (.c (.d (.b (decide ((a.kind : Int) < b.kind))))) [] (by kernel_rfl) conj0 ?_ ?_
      · rw [lessB, if_pos hr, if_neg (by simpa using hc2)]
      · rfl
    · (try simp only [blS] at hc2)
      have hkd : a.kind = 0 ∨ a.kind = 1 ∨ a.kind = 2 ∨ a.kind = 3 ∨ a.kind = 4 ∨ a.kind = 5 := by have := (ord_of hr.1).1; have := (ord_of hr.1).2.1; omega
      rcases hkd with hkd | hkd | hkd | hkd | hkd | hkd
      · skip
        refine stepR' hG hmix [(5, 0, .callG (.c (.mp 100)) [] [(100, .box ⟨.map true, none⟩ [.d (.i 0), .d (.v (.func (.func 96) #[] #[])), .d (.i 1), .d (.v (.func (.func 98) #[] #[])), .d (.i 2), .d (.v (.func (.func 100) #[] #[])), .d (.i 3), .d (.v (.func (.func 96) #[] #[])), .d (.i 4), .d (.v (.func (.func 96) #[] #[])), .d (.i 5), .fn 105 [] [(101, 0)]]), (101, .box 141 [.fn 103 [] [(102, 0)]]), (102, .box 101 [.fn 102 [] [(103, 0)]]), (103, .box 104 [.mp 100])]), (5, 3, .elem [.i 0]), (5, 7, .call (.c (.d (.i (Lib.compareInt a.n b.n)))) [] [])] [] (.c (.d (.b (decide ((Lib.compareInt a.n b.n : Int) < 0))))) [] (by kernel_rfl) (conjC ((orders_ok : SpG (gT m) _ _ _ _ _)) (conjC (show (a.kind : Int) = 0 from (by first | assumption | omega)) (conj1 ((ordN_ok a b : SpG (gT m) _ _ _ _ _))))) ?_ ?_
        · rw [lessB, if_pos hr, if_pos (by omega), vlC, if_neg (by omega), kdC_0 (by omega)]; try rfl
        · rfl
      · skip
        refine stepR' hG hmix [(5, 0, .callG (.c (.mp 100)) [] [(100, .box ⟨.map true, none⟩ [.d (.i 0), .d (.v (.func (.func 96) #[] #[])), .d (.i 1), .d (.v (.func (.func 98) #[] #[])), .d (.i 2), .d (.v (.func (.func 100) #[] #[])), .d (.i 3), .d (.v (.func (.func 96) #[] #[])), .d (.i 4), .d (.v (.func (.func 96) #[] #[])), .d (.i 5), .fn 105 [] [(101, 0)]]), (101, .box 141 [.fn 103 [] [(102, 0)]]), (102, .box 101 [.fn 102 [] [(103, 0)]]), (103, .box 104 [.mp 100])]), (5, 3, .elem [.i 1]), (5, 7, .call (.c (.d (.i (Lib.compareBytes a.s b.s)))) [] [])] [] (.c (.d (.b (decide ((Lib.compareBytes a.s b.s : Int) < 0))))) [] (by kernel_rfl) (conjC ((orders_ok : SpG (gT m) _ _ _ _ _)) (conjC (show (a.kind : Int) = 1 from (by first | assumption | omega)) (conj1 ((ordS_ok a b : SpG (gT m) _ _ _ _ _))))) ?_ ?_
        · rw [lessB, if_pos hr, if_pos (by omega), vlC, if_neg (by omega), kdC_1 (by omega)]; try rfl
        · rfl
      · skip
        refine stepR' hG hmix [(5, 0, .callG (.c (.mp 100)) [] [(100, .box ⟨.map true, none⟩ [.d (.i 0), .d (.v (.func (.func 96) #[] #[])), .d (.i 1), .d (.v (.func (.func 98) #[] #[])), .d (.i 2), .d (.v (.func (.func 100) #[] #[])), .d (.i 3), .d (.v (.func (.func 96) #[] #[])), .d (.i 4), .d (.v (.func (.func 96) #[] #[])), .d (.i 5), .fn 105 [] [(101, 0)]]), (101, .box 141 [.fn 103 [] [(102, 0)]]), (102, .box 101 [.fn 102 [] [(103, 0)]]), (103, .box 104 [.mp 100])]), (5, 3, .elem [.i 2]), (5, 7, .call (.c (.d (.i (decCmp a.dn a.ds b.dn b.ds)))) [] [])] [] (.c (.d (.b (decide ((decCmp a.dn a.ds b.dn b.ds : Int) < 0))))) [] (by kernel_rfl) (conjC ((orders_ok : SpG (gT m) _ _ _ _ _)) (conjC (show (a.kind : Int) = 2 from (by first | assumption | omega)) (conj1 ((ordD_ok a b ((ord_of hr.1).2.2.1 hkd) ((ord_of hr.2).2.2.1 (by omega)) : SpG (gT m) _ _ _ _ _))))) ?_ ?_
        · rw [lessB, if_pos hr, if_pos (by omega), vlC, if_neg (by omega), kdC_2 (by omega)]; try rfl
        · rfl
      · skip
        refine stepR' hG hmix [(5, 0, .callG (.c (.mp 100)) [] [(100, .box ⟨.map true, none⟩ [.d (.i 0), .d (.v (.func (.func 96) #[] #[])), .d (.i 1), .d (.v (.func (.func 98) #[] #[])), .d (.i 2), .d (.v (.func (.func 100) #[] #[])), .d (.i 3), .d (.v (.func (.func 96) #[] #[])), .d (.i 4), .d (.v (.func (.func 96) #[] #[])), .d (.i 5), .fn 105 [] [(101, 0)]]), (101, .box 141 [.fn 103 [] [(102, 0)]]), (102, .box 101 [.fn 102 [] [(103, 0)]]), (103, .box 104 [.mp 100])]), (5, 3, .elem [.i 3]), (5, 7, .call (.c (.d (.i (Lib.compareInt a.n b.n)))) [] [])] [] (.c (.d (.b (decide ((Lib.compareInt a.n b.n : Int) < 0))))) [] (by kernel_rfl) (conjC ((orders_ok : SpG (gT m) _ _ _ _ _)) (conjC (show (a.kind : Int) = 3 from (by first | assumption | omega)) (conj1 ((ordN_ok a b : SpG (gT m) _ _ _ _ _))))) ?_ ?_
        · rw [lessB, if_pos hr, if_pos (by omega), vlC, if_neg (by omega), kdC_0 (by omega)]; try rfl
        · rfl
      · skip
        refine stepR' hG hmix [(5, 0, .callG (.c (.mp 100)) [] [(100, .box ⟨.map true, none⟩ [.d (.i 0), .d (.v (.func (.func 96) #[] #[])), .d (.i 1), .d (.v (.func (.func 98) #[] #[])), .d (.i 2), .d (.v (.func (.func 100) #[] #[])), .d (.i 3), .d (.v (.func (.func 96) #[] #[])), .d (.i 4), .d (.v (.func (.func 96) #[] #[])), .d (.i 5), .fn 105 [] [(101, 0)]]), (101, .box 141 [.fn 103 [] [(102, 0)]]), (102, .box 101 [.fn 102 [] [(103, 0)]]), (103, .box 104 [.mp 100])]), (5, 3, .elem [.i 4]), (5, 7, .call (.c (.d (.i (Lib.compareInt a.n b.n)))) [] [])] [] (.c (.d (.b (decide ((Lib.compareInt a.n b.n : Int) < 0))))) [] (by kernel_rfl) (conjC ((orders_ok : SpG (gT m) _ _ _ _ _)) (conjC (show (a.kind : Int) = 4 from (by first | assumption | omega)) (conj1 ((ordN_ok a b : SpG (gT m) _ _ _ _ _))))) ?_ ?_
        · rw [lessB, if_pos hr, if_pos (by omega), vlC, if_neg (by omega), kdC_0 (by omega)]; try rfl
        · rfl
      · skip
        refine stepR' hG hmix [(5, 0, .callG (.c (.mp 100)) [] [(100, .box ⟨.map true, none⟩ [.d (.i 0), .d (.v (.func (.func 96) #[] #[])), .d (.i 1), .d (.v (.func (.func 98) #[] #[])), .d (.i 2), .d (.v (.func (.func 100) #[] #[])), .d (.i 3), .d (.v (.func (.func 96) #[] #[])), .d (.i 4), .d (.v (.func (.func 96) #[] #[])), .d (.i 5), .fn 105 [] [(101, 0)]]), (101, .box 141 [.fn 103 [] [(102, 0)]]), (102, .box 101 [.fn 102 [] [(103, 0)]]), (103, .box 104 [.mp 100])]), (5, 3, .elem [.i 5]), (5, 7, .callG (.c (.d (.i (tbC a b)))) [603, 600, 601, 602] [(0, .box 104 [.mp 1]), (1, .box ⟨.map true, none⟩ [.d (.i 0), .d (.v (.func (.func 96) #[] #[])), .d (.i 1), .d (.v (.func (.func 98) #[] #[])), .d (.i 2), .d (.v (.func (.func 100) #[] #[])), .d (.i 3), .d (.v (.func (.func 96) #[] #[])), .d (.i 4), .d (.v (.func (.func 96) #[] #[])), .d (.i 5), .fn 105 [] [(2, 0)]]), (2, .box 141 [.fn 103 [] [(3, 0)]]), (3, .box 101 [.fn 102 [] [(0, 0)]])])] [] (.c (.d (.b (decide ((tbC a b : Int) < 0))))) [] (by kernel_rfl) (conjC ((orders_ok : SpG (gT m) _ _ _ _ _)) (conjC (show (a.kind : Int) = 5 from (by first | assumption | omega)) (conj1 ((ordT_ok a b (table_ord ((ord_of hr.1).2.2.2 hkd)) (table_ord ((ord_of hr.2).2.2.2 (by omega))) : SpG (gT m) _ _ _ _ _))))) ?_ ?_
        · rw [lessB, if_pos hr, if_pos (by omega), vlC, if_pos (by omega)]
        · rfl
theorem sEqual_ok (a b : List (List UInt8)) :
    SpG (gT m) 67 [.c (.d (.sl 1 (strs a))), .c (.d (.sl 1 (strs b)))] [] (.c (.d (.b (decide (a = b))))) [] := by
  refine enterB 26 Tryz.func67 (by kernel_rfl) fun fr hG => ?_
  refine stepLen 0 rfl fun hl0 => ?_
  refine stepLen 1 rfl fun hl1 => ?_
  refine stepC hG hmix [] [1, 0, 1] (!decide ((((strs a).length : Int) : Int) = ((strs b).length : Int))) (⟨[(0, [], .c (.d (.sl 1 (strs a)))), (1, [], .c (.d (.sl 1 (strs b)))), (4, [], .c (.d (.b false)))], []⟩) _ (by kernel_rfl) conj0 (fun hc1 => ?_) (fun hc1 => ?_)
  · (try simp only [blS, S_eqv, S_eqf, strs, rowD, rowsD, valsD, List.length_map] at hc1)
    refine stepR' hG hmix [] [] (.c (.d (.b false))) [] (by kernel_rfl) conj0 ?_ ?_
    · have : ¬ a = b := fun e => hc1 (by rw [e])
      simp [this]
    · rfl
  · (try simp only [blS, S_eqv, S_eqf, strs, rowD, rowsD, valsD, List.length_map] at hc1)
    refine stepL hG hmix [] [0, 1, 0, 1, 1] ((fun (zz : Nat) => match zz with | k => ⟨[(0, [], .c (.d (.sl 1 (strs a)))), (1, [], .c (.d (.sl 1 (strs b)))), (4, [], .c (.d (.b false))), (12, [], .c (.d (.i ((strs a).length : Int)))), (13, [], .c (.d (.i (k : Int))))], []⟩) 0) _ (by kernel_rfl) conj0 ?_
    refine loopR (σ := Nat) (fun (zz : Nat) => match zz with | k => a.length - k) (fun (zz : Nat) => match zz with | k => ⟨[(0, [], .c (.d (.sl 1 (strs a)))), (1, [], .c (.d (.sl 1 (strs b)))), (4, [], .c (.d (.b false))), (12, [], .c (.d (.i ((strs a).length : Int)))), (13, [], .c (.d (.i (k : Int))))], []⟩) (fun (zz : Nat) => match zz with | k => k ≤ a.length ∧ ∀ j, j < k → a.getD j [] = b.getD j []) 0 (by kernel_rfl) ?_ ?_
    · exact ⟨Nat.zero_le _, fun j hj => by omega⟩
    rintro k ⟨hk, hn⟩
    refine stepC hG hmix [] [0, 1] (decide (((k : Int) : Int) < ((strs a).length : Int))) (⟨[(0, [], .c (.d (.sl 1 (strs a)))), (1, [], .c (.d (.sl 1 (strs b)))), (4, [], .c (.d (.b false))), (12, [], .c (.d (.i ((strs a).length : Int)))), (13, [], .c (.d (.i (k : Int))))], []⟩) _ (by kernel_rfl) conj0 (fun hc3 => ?_) (fun hc3 => ?_)
    · (try simp only [blS, S_eqv, S_eqf, strs, rowD, rowsD, valsD, List.length_map] at hc3)
      refine stepC hG hmix [(6, 2, .elem (strD ((a).getD k []))), (6, 6, .elem (strD ((b).getD k [])))] [1, 1, 0, 0, 1, 1] (!((S ((a).getD k [])).toList == (S ((b).getD k [])).toList)) (⟨[(0, [], .c (.d (.sl 1 (strs a)))), (1, [], .c (.d (.sl 1 (strs b)))), (4, [], .c (.d (.b false))), (12, [], .c (.d (.i ((strs a).length : Int)))), (13, [], .c (.d (.i (k : Int))))], []⟩) _ (by kernel_rfl) (conjC (show (0 : Int) ≤ (k : Int) ∧ (strs a)[k]? = some (strD ((a).getD k [])) from (by intros; exact map_at [] (by omega) (by (try simp only [strs, List.length_map] at *); omega))) (conj1 (show (0 : Int) ≤ (k : Int) ∧ (strs b)[k]? = some (strD ((b).getD k [])) from (by intros; exact map_at [] (by omega) (by (try simp only [strs, List.length_map] at *); omega))))) (fun hc4 => ?_) (fun hc4 => ?_)
      · (try simp only [blS, S_eqv, S_eqf, strs, rowD, rowsD, valsD, List.length_map] at hc4)
        refine leaveE hG hmix [] .ret (⟨[(4, [], .c (.d (.b false)))], []⟩) _ (by kernel_rfl) conj0 rfl ?_
        refine stepR' hG hmix [] [] (.c (.d (.b false))) [] (by kernel_rfl) conj0 ?_ ?_
        · have : ¬ a = b := ne_of_at [] (j := k) (by simpa using hc4)
          simp [this]
        · rfl
      · (try simp only [blS, S_eqv, S_eqf, strs, rowD, rowsD, valsD, List.length_map] at hc4)
        refine roundE hG hmix [] (k + 1) _ (by kernel_rfl) (conj1 (show inR ((k : Int) + 1) from (by intros; (try simp only [strs, rowD, rowsD, valsD, List.length_map, inR, maxLen] at *); omega))) ?_ ?_
        · (try dsimp only); omega
        · exact ⟨by omega, below_succ hn (by simpa using hc4)⟩
    · (try simp only [blS, S_eqv, S_eqf, strs, rowD, rowsD, valsD, List.length_map] at hc3)
      refine leaveE hG hmix [] (.exit 0) (⟨[(4, [], .c (.d (.b false)))], []⟩) _ (by kernel_rfl) conj0 rfl ?_
      refine stepR' hG hmix [] [] (.c (.d (.b true))) [] (by kernel_rfl) conj0 ?_ ?_
      · have : a = b := eq_of_all [] (by omega) (fun j hj => hn j (by omega))
        simp [this]
      · rfl
theorem eqRows_nil' (a b : List (List Cl)) (ha : a = []) (hb : b = []) :
    SpG (gT m) 68 [.c (.d (.sl 1 (rowsD a))), .c (.d (.sl 1 (rowsD b))), .c (.d (.v (.func (.func 69) #[] #[])))] [] (.c (.d (.b true))) [] := by
  refine enterB 32 Tryz.func68 (by kernel_rfl) fun fr hG => ?_
  refine stepC hG hmix [] [1, 0, 1] (!decide ((((rowsD a).length : Int) : Int) = ((rowsD b).length : Int))) (⟨[(0, [], .c (.d (.sl 1 (rowsD a)))), (1, [], .c (.d (.sl 1 (rowsD b)))), (2, [], .c (.d (.v (.func (.func 69) #[] #[])))), (6, [], .c (.d (.b false)))], []⟩) _ (by kernel_rfl) conj0 (fun hc1 => ?_) (fun hc1 => ?_)
  · (try simp only [blS, S_eqv, S_eqf, strs, rowD, rowsD, valsD, List.length_map] at hc1)
    exfalso; simp [ha, hb] at hc1; try omega
  · (try simp only [blS, S_eqv, S_eqf, strs, rowD, rowsD, valsD, List.length_map] at hc1)
    refine stepL hG hmix [] [0, 1, 0, 1, 1] ((fun (zz : Nat) => match zz with | k => ⟨[(1, [], .c (.d (.sl 1 (rowsD b)))), (2, [], .c (.d (.v (.func (.func 69) #[] #[])))), (6, [], .c (.d (.b false))), (15, [], .c (.d (.sl 1 (rowsD a)))), (16, [], .c (.d (.i ((rowsD a).length : Int)))), (17, [], .c (.d (.i (k : Int))))], []⟩) 0) _ (by kernel_rfl) conj0 ?_
    refine loopR (σ := Nat) (fun (zz : Nat) => match zz with | k => 0) (fun (zz : Nat) => match zz with | k => ⟨[(1, [], .c (.d (.sl 1 (rowsD b)))), (2, [], .c (.d (.v (.func (.func 69) #[] #[])))), (6, [], .c (.d (.b false))), (15, [], .c (.d (.sl 1 (rowsD a)))), (16, [], .c (.d (.i ((rowsD a).length : Int)))), (17, [], .c (.d (.i (k : Int))))], []⟩) (fun (zz : Nat) => match zz with | k => k = 0) 0 (by kernel_rfl) ?_ ?_
    · rfl
    rintro k hk
    refine stepC hG hmix [] [0, 1] (decide (((k : Int) : Int) < ((rowsD a).length : Int))) (⟨[(1, [], .c (.d (.sl 1 (rowsD b)))), (2, [], .c (.d (.v (.func (.func 69) #[] #[])))), (6, [], .c (.d (.b false))), (15, [], .c (.d (.sl 1 (rowsD a)))), (16, [], .c (.d (.i ((rowsD a).length : Int)))), (17, [], .c (.d (.i (k : Int))))], []⟩) _ (by kernel_rfl) conj0 (fun hc3 => ?_) (fun hc3 => ?_)
    · (try simp only [blS, S_eqv, S_eqf, strs, rowD, rowsD, valsD, List.length_map] at hc3)
      exfalso; simp [ha, hb] at hc3; try omega
    · (try simp only [blS, S_eqv, S_eqf, strs, rowD, rowsD, valsD, List.length_map] at hc3)
      refine leaveE hG hmix [] (.exit 0) (⟨[(6, [], .c (.d (.b false)))], []⟩) _ (by kernel_rfl) conj0 rfl ?_
      refine stepR' hG hmix [] [] (.c (.d (.b true))) [] (by kernel_rfl) conj0 ?_ ?_
      · rfl
      · rfl
theorem equal_of (a b : Vl) (T : Bool) (hT : SpG (gT m) 68 [.c (.d (.sl 1 (rowsD a.rows))), .c (.d (.sl 1 (rowsD b.rows))), .c (.d (.v (.func (.func 69) #[] #[])))] [] (.c (.d (.b T))) []) :
    SpG (gT m) 33 [.agg [.d (.i a.kind), .d (.s (S a.s)), .d (.i a.dn), .d (.i a.ds), .d (.i a.n), .d (.sl 1 (strs a.cols)), .d (.sl 1 (rowsD a.rows))], .agg [.d (.i b.kind), .d (.s (S b.s)), .d (.i b.dn), .d (.i b.ds), .d (.i b.n), .d (.sl 1 (strs b.cols)), .d (.sl 1 (rowsD b.rows))]] [] (.c (.d (.b (eqK T a b)))) [] := by
  refine enterB 43 Tryz.func33 (by kernel_rfl) fun fr hG => ?_
  refine stepC hG hmix [] [1, 0, 1] ((((!decide ((a.kind : Int) = b.kind)) || (!((S a.s).toList == (S b.s).toList))) || (!(((a.dn : Int) == b.dn) && ((a.ds : Int) == b.ds)))) || (!decide ((a.n : Int) = b.n))) (⟨[(2, [], .c (.bx 100 0)), (3, [], .c (.bx 101 0)), (4, [], .c (.d (.b false)))], [(100, .box 30 [.d (.i a.kind), .d (.s (S a.s)), .d (.i a.dn), .d (.i a.ds), .d (.i a.n), .d (.sl 1 (strs a.cols)), .d (.sl 1 (rowsD a.rows))]), (101, .box 30 [.d (.i b.kind), .d (.s (S b.s)), .d (.i b.dn), .d (.i b.ds), .d (.i b.n), .d (.sl 1 (strs b.cols)), .d (.sl 1 (rowsD b.rows))])]⟩) _ (by kernel_rfl) conj0 (fun hc1 => ?_) (fun hc1 => ?_)
  · (try simp only [blS, S_eqv, S_eqf, strs, rowD, rowsD, valsD, List.length_map] at hc1)
    refine stepR' hG hmix [] [] (.c (.d (.b false))) [] (by kernel_rfl) conj0 ?_ ?_
    · have e : eqK T a b = false := by
        rw [Bool.eq_false_iff]; intro hE
        simp only [eqK, Bool.and_eq_true, decide_eq_true_eq, beq_iff_eq] at hE
        obtain ⟨⟨⟨⟨⟨e1, e2⟩, e3, e4⟩, e5⟩, e6⟩, e7⟩ := hE
        rcases hc1 with ((h | h) | h | h) | h <;> first | exact h e1 | exact h e2 | exact h e5 | (rw [e3] at h; simp at h; done) | (rw [e4] at h; simp at h; done)
      rw [e]
    · rfl
  · (try simp only [blS, S_eqv, S_eqf, strs, rowD, rowsD, valsD, List.length_map] at hc1)
    refine stepR' hG hmix [(3, 4, .call (.c (.d (.b (decide ((a.cols) = (b.cols)))))) [] []), (3, 10, .call (.c (.d (.b T))) [] [])] [] (.c (.d (.b ((decide ((a.cols) = (b.cols))) && T)))) [] (by kernel_rfl) (conjC ((sEqual_ok (a.cols) (b.cols) : SpG (gT m) _ _ _ _ _)) (conj1 (fun (hg1 : (decide ((a.cols) = (b.cols))) = true) => ((hT : SpG (gT m) _ _ _ _ _))))) ?_ ?_
    · (try simp only [S_beq] at hc1)
      simp only [eqK]
      simp_all
    · rfl
theorem eqRows_nil : SpG (gT m) 68 [.c (.d (.sl 1 [])), .c (.d (.sl 1 [])), .c (.d (.v (.func (.func 69) #[] #[])))] [] (.c (.d (.b true))) [] := by
  have h := eqRows_nil' (m := m) [] [] rfl rfl
  exact h
theorem equalC (x y : Cl) : SpG (gT m) 33 [clArg x, clArg y] [] (.c (.d (.b (decide (x = y))))) [] := by
  have h := equal_of (m := m) x.toV y.toV _ eqRows_nil
  have e : eqK true x.toV y.toV = decide (x = y) := by
    have := eqK_eq (a := x.toV) (b := y.toV)
    rw [show decide (x.toV.rows = y.toV.rows) = true from rfl] at this
    rw [this]; simp [toV_inj]
  rw [e] at h
  exact h
theorem eqFuncC_ok (a b : List Cl) :
    SpG (gT m) 111 [.c (.d (.sl 7 (rowD a))), .c (.d (.sl 7 (rowD b))), .c (.d (.v (.func (.func 33) #[] #[])))] [] (.c (.d (.b (decide (a = b))))) [] := by
  refine enterB 32 Tryz.func111 (by kernel_rfl) fun fr hG => ?_
  refine stepLen 0 rfl fun hl0 => ?_
  refine stepLen 1 rfl fun hl1 => ?_
  refine stepC hG hmix [] [1, 0, 1] (!decide ((((rowD a).length : Int) : Int) = ((rowD b).length : Int))) (⟨[(0, [], .c (.d (.sl 7 (rowD a)))), (1, [], .c (.d (.sl 7 (rowD b)))), (2, [], .c (.d (.v (.func (.func 33) #[] #[])))), (6, [], .c (.d (.b false)))], []⟩) _ (by kernel_rfl) conj0 (fun hc1 => ?_) (fun hc1 => ?_)
  · (try simp only [blS, S_eqv, S_eqf, strs, rowD, rowsD, valsD, List.length_map] at hc1)
    refine stepR' hG hmix [] [] (.c (.d (.b false))) [] (by kernel_rfl) conj0 ?_ ?_
    · have : ¬ a = b := fun e => hc1 (by rw [e])
      simp [this]
    · rfl
  · (try simp only [blS, S_eqv, S_eqf, strs, rowD, rowsD, valsD, List.length_map] at hc1)
    refine stepL hG hmix [] [0, 1, 0, 1, 1] ((fun (zz : Nat) => match zz with | k => ⟨[(1, [], .c (.d (.sl 7 (rowD b)))), (2, [], .c (.d (.v (.func (.func 33) #[] #[])))), (6, [], .c (.d (.b false))), (15, [], .c (.d (.sl 7 (rowD a)))), (16, [], .c (.d (.i ((rowD a).length : Int)))), (17, [], .c (.d (.i (k : Int))))], []⟩) 0) _ (by kernel_rfl) conj0 ?_
    refine loopR (σ := Nat) (fun (zz : Nat) => match zz with | k => a.length - k) (fun (zz : Nat) => match zz with | k => ⟨[(1, [], .c (.d (.sl 7 (rowD b)))), (2, [], .c (.d (.v (.func (.func 33) #[] #[])))), (6, [], .c (.d (.b false))), (15, [], .c (.d (.sl 7 (rowD a)))), (16, [], .c (.d (.i ((rowD a).length : Int)))), (17, [], .c (.d (.i (k : Int))))], []⟩) (fun (zz : Nat) => match zz with | k => k ≤ a.length ∧ ∀ j, j < k → a.getD j Cl.z = b.getD j Cl.z) 0 (by kernel_rfl) ?_ ?_
    · exact ⟨Nat.zero_le _, fun j hj => by omega⟩
    rintro k ⟨hk, hn⟩
    refine stepC hG hmix [] [0, 1] (decide (((k : Int) : Int) < ((rowD a).length : Int))) (⟨[(1, [], .c (.d (.sl 7 (rowD b)))), (2, [], .c (.d (.v (.func (.func 33) #[] #[])))), (6, [], .c (.d (.b false))), (15, [], .c (.d (.sl 7 (rowD a)))), (16, [], .c (.d (.i ((rowD a).length : Int)))), (17, [], .c (.d (.i (k : Int))))], []⟩) _ (by kernel_rfl) conj0 (fun hc3 => ?_) (fun hc3 => ?_)
    · (try simp only [blS, S_eqv, S_eqf, strs, rowD, rowsD, valsD, List.length_map] at hc3)
      refine stepC hG hmix [(5, 1, .elem (ClD ((a).getD k Cl.z))), (6, 2, .elem (ClD ((b).getD k Cl.z))), (7, 3, .call (.c (.d (.b (decide (((a).getD k Cl.z) = ((b).getD k Cl.z)))))) [] [])] [1, 1, 1, 0, 0, 1, 1] (!(decide (((a).getD k Cl.z) = ((b).getD k Cl.z)))) (⟨[(1, [], .c (.d (.sl 7 (rowD b)))), (2, [], .c (.d (.v (.func (.func 33) #[] #[])))), (6, [], .c (.d (.b false))), (15, [], .c (.d (.sl 7 (rowD a)))), (16, [], .c (.d (.i ((rowD a).length : Int)))), (17, [], .c (.d (.i (k : Int))))], []⟩) _ (by kernel_rfl) (conjC (show (0 : Int) ≤ (k : Int) ∧ (rowD a)[k]? = some (ClD ((a).getD k Cl.z)) from (by intros; exact map_at _ (by omega) (by (try simp only [rowD, rowsD, valsD, strs, List.length_map] at *); omega))) (conjC (show (0 : Int) ≤ (k : Int) ∧ (rowD b)[k]? = some (ClD ((b).getD k Cl.z)) from (by intros; exact map_at _ (by omega) (by (try simp only [rowD, rowsD, valsD, strs, List.length_map] at *); omega))) (conj1 ((equalC ((a).getD k Cl.z) ((b).getD k Cl.z) : SpG (gT m) _ _ _ _ _))))) (fun hc4 => ?_) (fun hc4 => ?_)
      · (try simp only [blS, S_eqv, S_eqf, strs, rowD, rowsD, valsD, List.length_map] at hc4)
        refine leaveE hG hmix [] .ret (⟨[(6, [], .c (.d (.b false)))], []⟩) _ (by kernel_rfl) conj0 rfl ?_
        refine stepR' hG hmix [] [] (.c (.d (.b false))) [] (by kernel_rfl) conj0 ?_ ?_
        · have : ¬ a = b := ne_of_at Cl.z (j := k) (by simpa using hc4)
          simp [this]
        · rfl
      · (try simp only [blS, S_eqv, S_eqf, strs, rowD, rowsD, valsD, List.length_map] at hc4)
        refine roundE hG hmix [] (k + 1) _ (by kernel_rfl) (conj1 (show inR ((k : Int) + 1) from (by intros; (try simp only [strs, rowD, rowsD, valsD, List.length_map, inR, maxLen] at *); omega))) ?_ ?_
        · (try dsimp only); omega
        · exact ⟨by omega, below_succ hn (by simpa using hc4)⟩
    · (try simp only [blS, S_eqv, S_eqf, strs, rowD, rowsD, valsD, List.length_map] at hc3)
      refine leaveE hG hmix [] (.exit 0) (⟨[(6, [], .c (.d (.b false)))], []⟩) _ (by kernel_rfl) conj0 rfl ?_
      refine stepR' hG hmix [] [] (.c (.d (.b true))) [] (by kernel_rfl) conj0 ?_ ?_
      · have : a = b := eq_of_all Cl.z (by omega) (fun j hj => hn j (by omega))
        simp [this]
      · rfl
theorem equalRows_ok (a b : List Cl) :
    SpG (gT m) 69 [.c (.d (.sl 7 (rowD a))), .c (.d (.sl 7 (rowD b)))] [] (.c (.d (.b (decide (a = b))))) [] := by
  refine enterB 8 Tryz.func69 (by kernel_rfl) fun fr hG => ?_
  refine stepR' hG hmix [(1, 2, .call (.c (.d (.b (decide (a = b))))) [] [])] [] (.c (.d (.b (decide (a = b))))) [] (by kernel_rfl) (conj1 ((eqFuncC_ok a b : SpG (gT m) _ _ _ _ _))) ?_ ?_
  · rfl
  · rfl
theorem eqFuncR_ok (a b : List (List Cl)) :
    SpG (gT m) 68 [.c (.d (.sl 1 (rowsD a))), .c (.d (.sl 1 (rowsD b))), .c (.d (.v (.func (.func 69) #[] #[])))] [] (.c (.d (.b (decide (a = b))))) [] := by
  refine enterB 32 Tryz.func68 (by kernel_rfl) fun fr hG => ?_
  refine stepLen 0 rfl fun hl0 => ?_
  refine stepLen 1 rfl fun hl1 => ?_
  refine stepC hG hmix [] [1, 0, 1] (!decide ((((rowsD a).length : Int) : Int) = ((rowsD b).length : Int))) (⟨[(0, [], .c (.d (.sl 1 (rowsD a)))), (1, [], .c (.d (.sl 1 (rowsD b)))), (2, [], .c (.d (.v (.func (.func 69) #[] #[])))), (6, [], .c (.d (.b false)))], []⟩) _ (by kernel_rfl) conj0 (fun hc1 => ?_) (fun hc1 => ?_)
  · (try simp only [blS, S_eqv, S_eqf, strs, rowD, rowsD, valsD, List.length_map] at hc1)
    refine stepR' hG hmix [] [] (.c (.d (.b false))) [] (by kernel_rfl) conj0 ?_ ?_
    · have : ¬ a = b := fun e => hc1 (by rw [e])
      simp [this]
    · rfl
  · (try simp only [blS, S_eqv, S_eqf, strs, rowD, rowsD, valsD, List.length_map] at hc1)
    refine stepL hG hmix [] [0, 1, 0, 1, 1] ((fun (zz : Nat) => match zz with | k => ⟨[(1, [], .c (.d (.sl 1 (rowsD b)))), (2, [], .c (.d (.v (.func (.func 69) #[] #[])))), (6, [], .c (.d (.b false))), (15, [], .c (.d (.sl 1 (rowsD a)))), (16, [], .c (.d (.i ((rowsD a).length : Int)))), (17, [], .c (.d (.i (k : Int))))], []⟩) 0) _ (by kernel_rfl) conj0 ?_
    refine loopR (σ := Nat) (fun (zz : Nat) => match zz with | k => a.length - k) (fun (zz : Nat) => match zz with | k => ⟨[(1, [], .c (.d (.sl 1 (rowsD b)))), (2, [], .c (.d (.v (.func (.func 69) #[] #[])))), (6, [], .c (.d (.b false))), (15, [], .c (.d (.sl 1 (rowsD a)))), (16, [], .c (.d (.i ((rowsD a).length : Int)))), (17, [], .c (.d (.i (k : Int))))], []⟩) (fun (zz : Nat) => match zz with | k => k ≤ a.length ∧ ∀ j, j < k → a.getD j [] = b.getD j []) 0 (by kernel_rfl) ?_ ?_
    · exact ⟨Nat.zero_le _, fun j hj => by omega⟩
    rintro k ⟨hk, hn⟩
    refine stepC hG hmix [] [0, 1] (decide (((k : Int) : Int) < ((rowsD a).length : Int))) (⟨[(1, [], .c (.d (.sl 1 (rowsD b)))), (2, [], .c (.d (.v (.func (.func 69) #[] #[])))), (6, [], .c (.d (.b false))), (15, [], .c (.d (.sl 1 (rowsD a)))), (16, [], .c (.d (.i ((rowsD a).length : Int)))), (17, [], .c (.d (.i (k : Int))))], []⟩) _ (by kernel_rfl) conj0 (fun hc3 => ?_) (fun hc3 => ?_)
    · (try simp only [blS, S_eqv, S_eqf, strs, rowD, rowsD, valsD, List.length_map] at hc3)
      refine stepC hG hmix [(5, 1, .elem (rows1 ((a).getD k []))), (6, 2, .elem (rows1 ((b).getD k []))), (7, 3, .call (.c (.d (.b (decide (((a).getD k []) = ((b).getD k [])))))) [] [])] [1, 1, 1, 0, 0, 1, 1] (!(decide (((a).getD k []) = ((b).getD k [])))) (⟨[(1, [], .c (.d (.sl 1 (rowsD b)))), (2, [], .c (.d (.v (.func (.func 69) #[] #[])))), (6, [], .c (.d (.b false))), (15, [], .c (.d (.sl 1 (rowsD a)))), (16, [], .c (.d (.i ((rowsD a).length : Int)))), (17, [], .c (.d (.i (k : Int))))], []⟩) _ (by kernel_rfl) (conjC (show (0 : Int) ≤ (k : Int) ∧ (rowsD a)[k]? = some (rows1 ((a).getD k [])) from (by intros; exact map_at _ (by omega) (by (try simp only [rowD, rowsD, valsD, strs, List.length_map] at *); omega))) (conjC (show (0 : Int) ≤ (k : Int) ∧ (rowsD b)[k]? = some (rows1 ((b).getD k [])) from (by intros; exact map_at _ (by omega) (by (try simp only [rowD, rowsD, valsD, strs, List.length_map] at *); omega))) (conj1 ((equalRows_ok ((a).getD k []) ((b).getD k []) : SpG (gT m) _ _ _ _ _))))) (fun hc4 => ?_) (fun hc4 => ?_)
      · (try simp only [blS, S_eqv, S_eqf, strs, rowD, rowsD, valsD, List.length_map] at hc4)
        refine leaveE hG hmix [] .ret (⟨[(6, [], .c (.d (.b false)))], []⟩) _ (by kernel_rfl) conj0 rfl ?_
        refine stepR' hG hmix [] [] (.c (.d (.b false))) [] (by kernel_rfl) conj0 ?_ ?_
        · have : ¬ a = b := ne_of_at [] (j := k) (by simpa using hc4)
          simp [this]
        · rfl
      · (try simp only [blS, S_eqv, S_eqf, strs, rowD, rowsD, valsD, List.length_map] at hc4)
        refine roundE hG hmix [] (k + 1) _ (by kernel_rfl) (conj1 (show inR ((k : Int) + 1) from (by intros; (try simp only [strs, rowD, rowsD, valsD, List.length_map, inR, maxLen] at *); omega))) ?_ ?_
        · (try dsimp only); omega
        · exact ⟨by omega, below_succ hn (by simpa using hc4)⟩
    · (try simp only [blS, S_eqv, S_eqf, strs, rowD, rowsD, valsD, List.length_map] at hc3)
      refine leaveE hG hmix [] (.exit 0) (⟨[(6, [], .c (.d (.b false)))], []⟩) _ (by kernel_rfl) conj0 rfl ?_
      refine stepR' hG hmix [] [] (.c (.d (.b true))) [] (by kernel_rfl) conj0 ?_ ?_
      · have : a = b := eq_of_all [] (by omega) (fun j hj => hn j (by omega))
        simp [this]
      · rfl
theorem equal_ok (a b : Vl) : SpG (gT m) 33 [vArg a, vArg b] [] (.c (.d (.b (decide (a = b))))) [] := by
  have h := equal_of (m := m) a b _ (eqFuncR_ok a.rows b.rows)
  rw [eqK_eq] at h
  exact h
end Go.Proofs.YtmpgfchkkemngaaGreatDoor
namespace Go.Proofs.YtmpgfchkkemngaaGreatDoor
open Go.RowKit Go.V
open Go.Eng (inR byteAt u8 bytesV)
structure Cmp3 {α : Type} (P : α → Prop) (f : α → α → Int) : Prop where
  eq : ∀ a b, P a → P b → (f a b = 0 ↔ a = b)
  anti : ∀ a b, P a → P b → (f a b < 0 ↔ 0 < f b a)
  trans : ∀ a b c, P a → P b → P c → f a b < 0 → f b c < 0 → f a c < 0
theorem ci_cases (x y : Int) : (x < y ∧ Lib.compareInt x y = -1) ∨ (x = y ∧ Lib.compareInt x y = 0) ∨ (y < x ∧ Lib.compareInt x y = 1) := by
  unfold Lib.compareInt
  by_cases h : x < y
  · exact .inl ⟨h, if_pos h⟩
  · by_cases h2 : x > y
    · exact .inr (.inr ⟨h2, by rw [if_neg h, if_pos h2]⟩)
    · exact .inr (.inl ⟨by omega, by rw [if_neg h, if_neg h2]⟩)
theorem cmp3_int {α : Type} {P : α → Prop} {f : α → Int} (hf : ∀ a b, P a → P b → f a = f b → a = b) : Cmp3 P (fun a b => Lib.compareInt (f a) (f b)) := by
  refine ⟨fun a b ha hb => ⟨fun h => hf a b ha hb ?_, fun h => ?_⟩, fun a b _ _ => ?_, fun a b c _ _ _ h1 h2 => ?_⟩
  · rcases ci_cases (f a) (f b) with h' | h' | h' <;> omega
  · subst h; rcases ci_cases (f a) (f a) with h' | h' | h' <;> omega
  · rcases ci_cases (f a) (f b) with h' | h' | h' <;> rcases ci_cases (f b) (f a) with h'' | h'' | h'' <;> omega
  · (try simp only at h1 h2 ⊢)
    rcases ci_cases (f a) (f b) with h' | h' | h' <;> rcases ci_cases (f b) (f c) with h'' | h'' | h'' <;> rcases ci_cases (f a) (f c) with h3 | h3 | h3 <;> omega
theorem bytes_list : ∀ a b : List UInt8, Lib.compareBytes a b = listC (fun x y => Lib.compareInt (x.toNat : Int) (y.toNat : Int)) a b
  | [], [] => rfl
  | [], _ :: _ => rfl
  | _ :: _, [] => rfl
  | x :: a, y :: b => by
    have ih := bytes_list a b
    simp only [Lib.compareBytes, listC, ih, UInt8.lt_iff_toNat_lt]
    rcases ci_cases (x.toNat : Int) (y.toNat : Int) with ⟨h1, h2⟩ | ⟨h1, h2⟩ | ⟨h1, h2⟩ <;> rw [h2]
    · rw [if_pos (by omega), if_neg (by omega)]
    · rw [if_neg (by omega), if_neg (by omega), if_pos (by omega)]
    · rw [if_neg (by omega), if_pos (by omega), if_neg (by omega)]
theorem cmp3_list {α : Type} {P : α → Prop} {f : α → α → Int} (h : Cmp3 P f) : Cmp3 (fun l : List α => ∀ x ∈ l, P x) (listC f) := by
  refine ⟨fun a => ?_, fun a => ?_, fun a => ?_⟩
  · induction a with
    | nil => intro b; cases b <;> simp [listC]
    | cons x a ih =>
      intro b ha hb
      cases b with
      | nil => simp [listC]
      | cons y b =>
        have hx := ha x (by simp); have hy := hb y (by simp)
        have e := h.eq x y hx hy
        simp only [listC, List.cons.injEq]
        by_cases h0 : f x y = 0
        · rw [if_pos h0, ih b (fun z hz => ha z (by simp [hz])) (fun z hz => hb z (by simp [hz]))]; simp [e.1 h0]
        · rw [if_neg h0]; simp only [h0, false_iff, not_and]; intro hh; exact absurd (e.2 hh) h0
  · induction a with
    | nil => intro b; cases b <;> simp [listC]
    | cons x a ih =>
      intro b ha hb
      cases b with
      | nil => simp [listC]
      | cons y b =>
        have hx := ha x (by simp); have hy := hb y (by simp)
        have e := h.eq x y hx hy; have e' := h.eq y x hy hx
        simp only [listC]
        by_cases h0 : f x y = 0
        · have hxy := e.1 h0
          rw [if_pos h0, if_pos (e'.2 hxy.symm), ih b (fun z hz => ha z (by simp [hz])) (fun z hz => hb z (by simp [hz]))]
        · have h0' : ¬ f y x = 0 := fun hh => h0 (e.2 (e'.1 hh).symm)
          rw [if_neg h0, if_neg h0']; exact h.anti x y hx hy
  · induction a with
    | nil =>
      intro b c _ _ _ h1 h2
      cases b with
      | nil => simp [listC] at h1
      | cons y b => cases c with
        | nil => simp [listC] at h2
        | cons z c => simp [listC]
    | cons x a ih =>
      intro b c ha hb hc h1 h2
      cases b with
      | nil => simp [listC] at h1
      | cons y b => cases c with
        | nil => simp [listC] at h2
        | cons z c =>
          have hx := ha x (by simp); have hy := hb y (by simp); have hz := hc z (by simp)
          simp only [listC] at h1 h2 ⊢
          have exy := h.eq x y hx hy; have eyz := h.eq y z hy hz; have exz := h.eq x z hx hz
          by_cases hxy : f x y = 0
          · obtain rfl := exy.1 hxy
            rw [if_pos hxy] at h1
            by_cases hyz : f x z = 0
            · rw [if_pos hyz] at h2 ⊢
              exact ih b c (fun z hz => ha z (by simp [hz])) (fun z hz => hb z (by simp [hz])) (fun z hz => hc z (by simp [hz])) h1 h2
            · rw [if_neg hyz] at h2 ⊢; exact h2
          · rw [if_neg hxy] at h1
            by_cases hyz : f y z = 0
            · obtain rfl := eyz.1 hyz
              rw [if_neg hxy]; exact h1
            · rw [if_neg hyz] at h2
              have := h.trans x y z hx hy hz h1 h2
              rw [if_neg (by omega)]; exact this
theorem cmp3_bytes : Cmp3 (fun _ : List UInt8 => True) Lib.compareBytes := by
  have h := cmp3_list (cmp3_int (α := UInt8) (P := fun _ => True) (f := fun x => (x.toNat : Int)) (fun a b _ _ h => UInt8.toNat_inj.1 (by omega)))
  have e : Lib.compareBytes = listC (fun x y : UInt8 => Lib.compareInt (x.toNat : Int) (y.toNat : Int)) := funext fun a => funext fun b => bytes_list a b
  rw [e]
  exact ⟨fun a b _ _ => h.eq a b (by simp) (by simp), fun a b _ _ => h.anti a b (by simp) (by simp), fun a b c _ _ _ => h.trans a b c (by simp) (by simp) (by simp)⟩
theorem cmp3_key {α : Type} {P : α → Prop} {k : α → Int} {f : Int → α → α → Int} (h : ∀ n, Cmp3 (fun a => P a ∧ k a = n) (f n)) : Cmp3 P (fun a b => if k a = k b then f (k a) a b else Lib.compareInt (k a) (k b)) := by
  refine ⟨fun a b ha hb => ?_, fun a b ha hb => ?_, fun a b c ha hb hc h1 h2 => ?_⟩
  · by_cases e : k a = k b
    · simp only [if_pos e]; exact (h (k a)).eq a b ⟨ha, rfl⟩ ⟨hb, e.symm⟩
    · simp only [if_neg e]
      constructor
      · intro hh; rcases ci_cases (k a) (k b) with h' | h' | h' <;> omega
      · rintro rfl; exact absurd rfl e
  · by_cases e : k a = k b
    · simp only [if_pos e, if_pos e.symm]; rw [← e]; exact (h (k a)).anti a b ⟨ha, rfl⟩ ⟨hb, e.symm⟩
    · have e' : ¬ k b = k a := fun h => e h.symm
      simp only [if_neg e, if_neg e']
      rcases ci_cases (k a) (k b) with h' | h' | h' <;> rcases ci_cases (k b) (k a) with h'' | h'' | h'' <;> omega
  · (try simp only at h1 h2 ⊢)
    by_cases e : k a = k b
    · rw [if_pos e] at h1
      by_cases e2 : k b = k c
      · rw [if_pos e2, ← e] at h2
        rw [if_pos (e.trans e2)]
        exact (h (k a)).trans a b c ⟨ha, rfl⟩ ⟨hb, e.symm⟩ ⟨hc, (e.trans e2).symm⟩ h1 h2
      · rw [if_neg e2] at h2
        rw [if_neg (by omega), e]; exact h2
    · rw [if_neg e] at h1
      by_cases e2 : k b = k c
      · rw [if_neg (by omega), ← e2]; exact h1
      · rw [if_neg e2] at h2
        rcases ci_cases (k a) (k b) with h' | h' | h' <;> rcases ci_cases (k b) (k c) with h'' | h'' | h'' <;> rcases ci_cases (k a) (k c) with h3 | h3 | h3 <;> first | omega | (rw [if_neg (by omega)]; omega)
theorem Cmp3.congr {α : Type} {P : α → Prop} {f g : α → α → Int} (h : Cmp3 P f) (e : ∀ a b, P a → P b → g a b = f a b) : Cmp3 P g :=
  ⟨fun a b ha hb => by rw [e a b ha hb]; exact h.eq a b ha hb, fun a b ha hb => by rw [e a b ha hb, e b a hb ha]; exact h.anti a b ha hb, fun a b c ha hb hc h1 h2 => by rw [e a b ha hb] at h1; rw [e b c hb hc] at h2; rw [e a c ha hc]; exact h.trans a b c ha hb hc h1 h2⟩
theorem Cmp3.map {α β : Type} {P : α → Prop} {Q : β → Prop} {f : β → β → Int} (h : Cmp3 Q f) (g : α → β) (hg : ∀ a, P a → Q (g a)) (inj : ∀ a b, P a → P b → g a = g b → a = b) : Cmp3 P (fun a b => f (g a) (g b)) :=
  ⟨fun a b ha hb => ⟨fun hh => inj a b ha hb ((h.eq _ _ (hg a ha) (hg b hb)).1 hh), fun hh => (h.eq _ _ (hg a ha) (hg b hb)).2 (by rw [hh])⟩, fun a b ha hb => h.anti _ _ (hg a ha) (hg b hb), fun a b c ha hb hc => h.trans _ _ _ (hg a ha) (hg b hb) (hg c hc)⟩
theorem cmp3_pair {α β γ : Type} {P : α → Prop} {Q : β → Prop} {R : γ → Prop} {f : β → β → Int} {g : γ → γ → Int} (hf : Cmp3 Q f) (hg : Cmp3 R g) (p : α → β) (q : α → γ) (hp : ∀ a, P a → Q (p a)) (hq : ∀ a, P a → R (q a)) (inj : ∀ a b, P a → P b → p a = p b → q a = q b → a = b) : Cmp3 P (fun a b => if f (p a) (p b) = 0 then g (q a) (q b) else f (p a) (p b)) := by
  refine ⟨fun a b ha hb => ?_, fun a b ha hb => ?_, fun a b c ha hb hc h1 h2 => ?_⟩
  · have e := hf.eq _ _ (hp a ha) (hp b hb)
    by_cases h : f (p a) (p b) = 0
    · simp only [if_pos h]
      rw [hg.eq _ _ (hq a ha) (hq b hb)]
      exact ⟨fun hh => inj a b ha hb (e.1 h) hh, fun hh => by rw [hh]⟩
    · simp only [if_neg h]
      exact ⟨fun hh => absurd hh h, fun hh => absurd (e.2 (by rw [hh])) h⟩
  · have e := hf.eq _ _ (hp a ha) (hp b hb)
    have e' := hf.eq _ _ (hp b hb) (hp a ha)
    by_cases h : f (p a) (p b) = 0
    · have h' : f (p b) (p a) = 0 := e'.2 (e.1 h).symm
      simp only [if_pos h, if_pos h']
      exact hg.anti _ _ (hq a ha) (hq b hb)
    · have h' : ¬ f (p b) (p a) = 0 := fun hh => h (e.2 (e'.1 hh).symm)
      simp only [if_neg h, if_neg h']
      exact hf.anti _ _ (hp a ha) (hp b hb)
  · (try simp only at h1 h2 ⊢)
    have eab := hf.eq _ _ (hp a ha) (hp b hb)
    have ebc := hf.eq _ _ (hp b hb) (hp c hc)
    by_cases h : f (p a) (p b) = 0
    · rw [if_pos h] at h1
      rw [eab.1 h]
      by_cases h3 : f (p b) (p c) = 0
      · rw [if_pos h3] at h2 ⊢
        exact hg.trans _ _ _ (hq a ha) (hq b hb) (hq c hc) h1 h2
      · rw [if_neg h3] at h2 ⊢; exact h2
    · rw [if_neg h] at h1
      by_cases h3 : f (p b) (p c) = 0
      · rw [← ebc.1 h3, if_neg h]; exact h1
      · rw [if_neg h3] at h2
        have := hf.trans _ _ _ (hp a ha) (hp b hb) (hp c hc) h1 h2
        rw [if_neg (by omega)]; exact this
def decV (n s : Int) : Int := n * Int.tdiv 1000000 (tenD s)
theorem sp_facts {n s : Int} (h0 : 0 ≤ s) (h1 : s ≤ 6) : decV n s = 1000000 * spW n s + spP n s ∧ -1000000 < spP n s ∧ spP n s < 1000000 ∧ ((0 ≤ spW n s ∧ 0 ≤ spP n s) ∨ (spW n s ≤ 0 ∧ spP n s ≤ 0)) := by
  have key : ∀ d u : Int, 0 < d → 0 < u → d * u = 1000000 → n * u = 1000000 * Int.tdiv n d + Int.tmod n d * u ∧ -1000000 < Int.tmod n d * u ∧ Int.tmod n d * u < 1000000 ∧ ((0 ≤ Int.tdiv n d ∧ 0 ≤ Int.tmod n d * u) ∨ (Int.tdiv n d ≤ 0 ∧ Int.tmod n d * u ≤ 0)) := by
    intro d u hd hu hdu
    have e := Int.mul_tdiv_add_tmod n d
    have e2 : n * u = 1000000 * Int.tdiv n d + Int.tmod n d * u := by
      conv => lhs; rw [← e]
      rw [Int.add_mul, Int.mul_right_comm, hdu]
    have b1 : Int.tmod n d < d := Int.tmod_lt_of_pos n hd
    have b2 : -d < Int.tmod n d := by
      have := Int.lt_tmod_of_pos n hd
      omega
    have c1 : Int.tmod n d * u < d * u := Int.mul_lt_mul_of_pos_right b1 hu
    have c2 : -d * u < Int.tmod n d * u := Int.mul_lt_mul_of_pos_right b2 hu
    rw [Int.neg_mul] at c2
    refine ⟨e2, by omega, by omega, ?_⟩
    by_cases hn : 0 ≤ n
    · exact .inl ⟨Int.tdiv_nonneg hn (by omega), Int.mul_nonneg (Int.tmod_nonneg d hn) (by omega)⟩
    · refine .inr ⟨?_, ?_⟩
      · have := Int.tdiv_nonneg (a := -n) (b := d) (by omega) (by omega)
        rw [Int.neg_tdiv] at this; omega
      · have := Int.tmod_nonneg (a := -n) d (by omega)
        rw [Int.neg_tmod] at this
        have h3 := Int.mul_nonneg this (show 0 ≤ u by omega)
        rw [Int.neg_mul] at h3; omega
  obtain ⟨a, b, c, d⟩ := tenD_div h0 h1
  exact key (tenD s) (Int.tdiv 1000000 (tenD s)) (by omega) (by omega) d
theorem decCmp_eq {a b c d : Int} (h1 : decB a b = true) (h2 : decB c d = true) : decCmp a b c d = Lib.compareInt (decV a b) (decV c d) := by
  obtain ⟨x1, x2, x3, x4, _⟩ := decB_bd h1
  obtain ⟨y1, y2, y3, y4, _⟩ := decB_bd h2
  obtain ⟨p1, p2, p3, p4⟩ := sp_facts (n := a) x1 x2
  obtain ⟨q1, q2, q3, q4⟩ := sp_facts (n := c) y1 y2
  unfold decCmp
  rcases ci_cases (spW a b) (spW c d) with ⟨h, h'⟩ | ⟨h, h'⟩ | ⟨h, h'⟩ <;> rcases ci_cases (spP a b) (spP c d) with ⟨k, k'⟩ | ⟨k, k'⟩ | ⟨k, k'⟩ <;> rcases ci_cases (decV a b) (decV c d) with ⟨j, j'⟩ | ⟨j, j'⟩ | ⟨j, j'⟩ <;> rw [h', j'] <;> first | (exfalso; omega) | (simp; done) | (simp; exact k')
theorem dv0 (n : Int) : decV n 0 = n * 1000000 := rfl
theorem dv1 (n : Int) : decV n 1 = n * 100000 := rfl
theorem dv2 (n : Int) : decV n 2 = n * 10000 := rfl
theorem dv3 (n : Int) : decV n 3 = n * 1000 := rfl
theorem dv4 (n : Int) : decV n 4 = n * 100 := rfl
theorem dv5 (n : Int) : decV n 5 = n * 10 := rfl
theorem dv6 (n : Int) : decV n 6 = n * 1 := rfl
theorem decV_inj0 {a b c d : Int} (x1 : 0 ≤ b) (x2 : b ≤ 6) (y1 : 0 ≤ d) (y2 : d ≤ 6) (t1 : b = 0 ∨ ¬ a % 10 = 0) (t2 : d = 0 ∨ ¬ c % 10 = 0) (h : decV a b = decV c d) : a = c ∧ b = d := by
  have hb : b = 0 ∨ b = 1 ∨ b = 2 ∨ b = 3 ∨ b = 4 ∨ b = 5 ∨ b = 6 := by omega
  have hd : d = 0 ∨ d = 1 ∨ d = 2 ∨ d = 3 ∨ d = 4 ∨ d = 5 ∨ d = 6 := by omega
  clear x1 x2 y1 y2
  rcases hb with rfl | rfl | rfl | rfl | rfl | rfl | rfl <;> rcases hd with rfl | rfl | rfl | rfl | rfl | rfl | rfl <;> simp only [dv0, dv1, dv2, dv3, dv4, dv5, dv6] at h <;> omega
theorem decV_inj {a b c d : Int} (h1 : decB a b = true) (h2 : decB c d = true) (h : decV a b = decV c d) : a = c ∧ b = d := by
  obtain ⟨x1, x2, x3, x4, x5⟩ := decB_bd h1
  obtain ⟨y1, y2, y3, y4, y5⟩ := decB_bd h2
  have t1 : b = 0 ∨ ¬ a % 10 = 0 := x5.imp id fun hh hm => hh (by rw [← Int.dvd_iff_tmod_eq_zero]; exact Int.dvd_of_emod_eq_zero hm)
  have t2 : d = 0 ∨ ¬ c % 10 = 0 := y5.imp id fun hh hm => hh (by rw [← Int.dvd_iff_tmod_eq_zero]; exact Int.dvd_of_emod_eq_zero hm)
  exact decV_inj0 x1 x2 y1 y2 t1 t2 h
theorem right_bare {T : Bool} {v : Vl} (h : rightK T v = true) : (¬ v.kind = 1 → v.s = []) ∧ (¬ v.kind = 2 → v.dn = 0 ∧ v.ds = 0) ∧ (v.kind = 1 ∨ v.kind = 2 ∨ v.kind = 5 → v.n = 0) ∧ (¬ v.kind = 5 → v.cols = [] ∧ v.rows = []) := by
  unfold rightK bareB at h
  obtain ⟨k, s, dn, ds, n, cols, rows⟩ := v
  by_cases h0 : k = 0
  · subst h0; simp at h; simp_all
  · by_cases h1 : k = 1
    · subst h1; simp at h; simp_all
    · by_cases h2 : k = 2
      · subst h2; simp at h; simp_all
      · by_cases h3 : k = 3
        · subst h3; simp at h; simp_all
        · by_cases h4 : k = 4
          · subst h4; simp at h; simp_all
          · by_cases h5 : k = 5
            · subst h5; simp at h; simp_all
            · simp [h0, h1, h2, h3, h4, h5] at h
theorem right_ext {T U : Bool} {a b : Vl} (ha : rightK T a = true) (hb : rightK U b = true) (hk : a.kind = b.kind) (h1 : a.kind = 1 → a.s = b.s) (h2 : a.kind = 2 → a.dn = b.dn ∧ a.ds = b.ds) (h3 : a.kind = 0 ∨ a.kind = 3 ∨ a.kind = 4 → a.n = b.n) (h5 : a.kind = 5 → a.cols = b.cols ∧ a.rows = b.rows) : a = b := by
  obtain ⟨a1, a2, a3, a4⟩ := right_bare ha
  obtain ⟨b1, b2, b3, b4⟩ := right_bare hb
  obtain ⟨oa, ob, _, _⟩ := ord_of ha
  obtain ⟨k, s, dn, ds, n, cols, rows⟩ := a
  obtain ⟨k', s', dn', ds', n', cols', rows'⟩ := b
  simp only at *
  subst hk
  have hk : k = 0 ∨ k = 1 ∨ k = 2 ∨ k = 3 ∨ k = 4 ∨ k = 5 := by omega
  rcases hk with rfl | rfl | rfl | rfl | rfl | rfl <;> simp_all
theorem cmp3_kd {α : Type} {P : α → Prop} {g : α → Cl} {T : Bool} {V : α → Vl} (n : Int) (hn : ¬ n = 5) (hV : ∀ a, P a → (V a).c = g a ∧ rightK (tableB (V a).cols (V a).rows) (V a) = true ∧ (V a).kind = n) (inj : ∀ a b, P a → P b → V a = V b → a = b) : Cmp3 P (fun a b => kdC n (g a) (g b)) := by
  have inj2 : ∀ a b, P a → P b → (n = 1 → (V a).s = (V b).s) → (n = 2 → (V a).dn = (V b).dn ∧ (V a).ds = (V b).ds) → (n = 0 ∨ n = 3 ∨ n = 4 → (V a).n = (V b).n) → a = b := fun a b ha hb h1 h2 h3 => by
    obtain ⟨_, ra, ka⟩ := hV a ha
    obtain ⟨_, rb, kb⟩ := hV b hb
    exact inj a b ha hb (right_ext ra rb (by omega) (fun h => h1 (by omega)) (fun h => h2 (by omega)) (fun h => h3 (by omega)) (fun h => absurd (ka ▸ h) hn))
  by_cases h1 : n = 1
  · refine Cmp3.congr (f := fun a b => Lib.compareBytes (V a).s (V b).s) (Cmp3.map cmp3_bytes (fun a => (V a).s) (fun _ _ => trivial) fun a b ha hb h => inj2 a b ha hb (fun _ => h) (fun h => by omega) (fun h => by omega)) fun a b ha hb => ?_
    rw [kdC_1 h1, ← (hV a ha).1, ← (hV b hb).1]; rfl
  · by_cases h2 : n = 2
    · have dB : ∀ a, P a → decB (V a).dn (V a).ds = true := fun a ha => (ord_of (hV a ha).2.1).2.2.1 (by rw [(hV a ha).2.2, h2])
      refine Cmp3.congr (f := fun a b => Lib.compareInt (decV (V a).dn (V a).ds) (decV (V b).dn (V b).ds)) (cmp3_int (f := fun a => decV (V a).dn (V a).ds) fun a b ha hb h => inj2 a b ha hb (fun h => by omega) (fun _ => decV_inj (dB a ha) (dB b hb) h) (fun h => by omega)) fun a b ha hb => ?_
      rw [kdC_2 h2, ← (hV a ha).1, ← (hV b hb).1]
      exact decCmp_eq (dB a ha) (dB b hb)
    · have hP : ∀ a, P a → n = 0 ∨ n = 3 ∨ n = 4 := fun a ha => by
        obtain ⟨_, ra, ka⟩ := hV a ha
        obtain ⟨o1, o2, _, _⟩ := ord_of ra
        omega
      refine Cmp3.congr (f := fun a b => Lib.compareInt (V a).n (V b).n) (cmp3_int (f := fun a => (V a).n) fun a b ha hb h => inj2 a b ha hb (fun h => by omega) (fun h => by omega) (fun _ => h)) fun a b ha hb => ?_
      rw [kdC_0 (hP a ha), ← (hV a ha).1, ← (hV b hb).1]; rfl
def Cl.fine (c : Cl) : Prop := ¬ c.kind = 5 ∧ rightK false c.toV = true
theorem fine_right {c : Cl} (h : c.fine) : rightK (tableB c.toV.cols c.toV.rows) c.toV = true := by
  have e : rightK (tableB [] []) c.toV = rightK false c.toV := by
    have : c.toV.kind = c.kind := rfl
    simp [rightK, this, h.1]
  exact e.trans h.2
theorem cmp3_cell : Cmp3 Cl.fine clC := by
  have h := cmp3_key (P := Cl.fine) (k := Cl.kind) (f := kdC) fun n => by
    by_cases hn : n = 5
    · exact ⟨fun a b ha _ => absurd (ha.2.trans hn) ha.1.1, fun a b ha _ => absurd (ha.2.trans hn) ha.1.1, fun a b c ha _ _ => absurd (ha.2.trans hn) ha.1.1⟩
    · exact cmp3_kd (T := false) (g := id) (V := Cl.toV) n hn (fun a ha => ⟨rfl, fine_right ha.1, ha.2⟩) fun a b _ _ h => toV_inj.1 h
  exact h
theorem table_fine {cols : List (List UInt8)} {rows : List (List Cl)} (h : tableB cols rows = true) : ∀ r, r ∈ rows → ∀ c, c ∈ r → c.fine := by
  intro r hr c hc
  simp only [tableB, Bool.and_eq_true] at h
  obtain ⟨i, hi, rfl⟩ := List.mem_iff_getElem.1 hr
  obtain ⟨j, hj, rfl⟩ := List.mem_iff_getElem.1 hc
  have h1 := allR_get h.2 hi
  simp only [rowAt, Bool.and_eq_true, decide_eq_true_eq, getD_at hi] at h1
  have h2 := allR_get h1.2 hj
  simp only [cellAt, Bool.and_eq_true, Bool.not_eq_true', decide_eq_false_iff_not, getD_at hj] at h2
  exact h2
def vlK (k : Int) (a b : Vl) : Int := if k = 5 then tbC a b else kdC k a.c b.c
def valC (a b : Vl) : Int := if a.kind = b.kind then vlK a.kind a b else Lib.compareInt a.kind b.kind
theorem cmp3_val : Cmp3 (fun v : Vl => rightB v = true) valC := by
  refine cmp3_key (P := fun v : Vl => rightB v = true) (k := Vl.kind) (f := vlK) fun n => ?_
  by_cases hn : n = 5
  · subst hn
    refine Cmp3.congr (cmp3_pair (cmp3_list cmp3_bytes) (cmp3_list (cmp3_list cmp3_cell)) Vl.cols Vl.rows (fun a _ => by simp) (fun a ha r hr c hc => ?_) (fun a b ha hb h1 h2 => ?_)) fun a b _ _ => if_pos rfl
    · exact table_fine ((ord_of ha.1).2.2.2 ha.2) r hr c hc
    · exact right_ext ha.1 hb.1 (ha.2.trans hb.2.symm) (fun h => by have := ha.2; omega) (fun h => by have := ha.2; omega) (fun h => by have := ha.2; omega) (fun _ => ⟨h1, h2⟩)
  · refine Cmp3.congr (cmp3_kd (T := false) (g := Vl.c) (V := id) n hn (fun a ha => ⟨rfl, ha.1, ha.2⟩) fun a b _ _ h => h) fun a b _ _ => if_neg hn
theorem lessB_eq {a b : Vl} (ha : rightB a = true) (hb : rightB b = true) : lessB a b = decide (valC a b < 0) := by
  rw [lessB, if_pos ⟨ha, hb⟩, valC]
  split
  · rfl
  · rename_i hk
    rcases ci_cases a.kind b.kind with ⟨h, h'⟩ | ⟨h, h'⟩ | ⟨h, h'⟩ <;> rw [h'] <;> simp <;> omega
theorem less_refl {a : Vl} (ha : rightB a = true) : lessB a a = false := by
  rw [lessB_eq ha ha, (cmp3_val.eq a a ha ha).2 rfl]; rfl
theorem less_trans {a b c : Vl} (ha : rightB a = true) (hb : rightB b = true) (hc : rightB c = true) (h1 : lessB a b = true) (h2 : lessB b c = true) : lessB a c = true := by
  rw [lessB_eq ha hb, decide_eq_true_eq] at h1
  rw [lessB_eq hb hc, decide_eq_true_eq] at h2
  rw [lessB_eq ha hc, decide_eq_true_eq]
  exact cmp3_val.trans a b c ha hb hc h1 h2
theorem less_tri {a b : Vl} (ha : rightB a = true) (hb : rightB b = true) : (lessB a b = true ∧ lessB b a = false ∧ ¬ a = b) ∨ (lessB a b = false ∧ lessB b a = true ∧ ¬ a = b) ∨ (lessB a b = false ∧ lessB b a = false ∧ a = b) := by
  rw [lessB_eq ha hb, lessB_eq hb ha]
  simp only [decide_eq_true_eq, decide_eq_false_iff_not]
  have e := cmp3_val.eq a b ha hb
  have e1 := cmp3_val.anti a b ha hb
  have e2 := cmp3_val.anti b a hb ha
  by_cases h : a = b
  · have h1 := e.2 h; exact .inr (.inr ⟨by omega, by omega, h⟩)
  · have h1 : ¬ valC a b = 0 := fun hh => h (e.1 hh)
    by_cases h2 : valC a b < 0
    · exact .inl ⟨h2, by omega, h⟩
    · exact .inr (.inl ⟨h2, by omega, h⟩)
theorem less_kind {a b : Vl} (ha : rightB a = true) (hb : rightB b = true) (h : a.kind < b.kind) : lessB a b = true := by
  rw [lessB, if_pos ⟨ha, hb⟩, if_neg (by omega)]; simpa using h
end Go.Proofs.YtmpgfchkkemngaaGreatDoor
namespace Go.Proofs.YtmpgfchkkemngaaGreatDoor
open Go.RowKit Go.V
open Go.Eng (inR byteAt u8 bytesV)
def dval (l : List UInt8) : Nat := l.foldl (fun a c => 10 * a + (c.toNat - 48)) 0
def isDig (c : UInt8) : Bool := decide (48 ≤ c.toNat) && decide (c.toNat ≤ 57)
theorem dval_snoc (l : List UInt8) (c : UInt8) : dval (l ++ [c]) = 10 * dval l + (c.toNat - 48) := by simp [dval]
theorem u8_digit {k : Nat} (h : k < 10) : (u8 (48 + (k : Int))).toNat = 48 + k := by
  have : ((48 + (k : Int)) % 256).toNat = 48 + k := by omega
  rw [u8, this, UInt8.toNat_ofNat']; omega
theorem natD_val : ∀ n : Nat, dval (natD n) = n ∧ (natD n).all isDig = true := by
  intro n
  induction n using Nat.strongRecOn with
  | ind n ih =>
    by_cases h : n = 0
    · subst h; rw [natD_zero]; exact ⟨rfl, rfl⟩
    · obtain ⟨h1, h2⟩ := ih (n / 10) (by omega)
      have hd := u8_digit (k := n % 10) (by omega)
      rw [natD_pos h, dval_snoc, h1, hd]
      refine ⟨by omega, ?_⟩
      rw [List.all_append, h2]
      simp only [List.all_cons, List.all_nil, isDig, hd, Bool.and_true, Bool.true_and, Bool.and_eq_true, decide_eq_true_eq]; omega
theorem natT_val (n : Nat) : dval (natT n) = n ∧ (natT n).all isDig = true := by
  unfold natT
  split
  · rename_i h; subst h; exact ⟨rfl, rfl⟩
  · exact natD_val n
theorem natT_ne (n : Nat) : natT n ≠ [] := fun h => by have := natT_pos n; rw [h] at this; simp at this
theorem dval_zeros (l : List UInt8) : ∀ k : Nat, dval (List.replicate k 48 ++ l) = dval l
  | 0 => rfl
  | k + 1 => by
    have ih := dval_zeros l k
    rw [List.replicate_succ, List.cons_append]
    unfold dval at ih ⊢
    rw [List.foldl_cons]
    exact ih
theorem zeros_dig (k : Nat) : (List.replicate k (48 : UInt8)).all isDig = true := by
  rw [List.all_eq_true]; intro x hx; rw [(List.mem_replicate.1 hx).2]; rfl
theorem padN_val (a s : Nat) : dval (padN a s) = a ∧ (padN a s).all isDig = true := by
  unfold padN
  rw [dval_zeros, List.all_append, (natT_val a).2, zeros_dig]
  exact ⟨(natT_val a).1, rfl⟩
theorem digs_val {x k : Int} (h0 : 0 ≤ x) (h1 : x ≤ 99999) (hk : k ≤ 5) : dval (digs 5 x k []) = x.toNat ∧ (digs 5 x k []).all isDig = true := by
  rw [digs_nat 5 x k [] h0 (by omega) (by omega), List.append_nil, dval_zeros, List.all_append, zeros_dig, (natD_val _).2]
  exact ⟨(natD_val _).1, rfl⟩
theorem digs_size {x k : Int} (h0 : 0 ≤ x) (h : (k = 2 ∧ x < 100) ∨ (k = 4 ∧ x < 10000)) : (digs 5 x k []).length = k.toNat := by
  rw [digs_nat 5 x k [] h0 (by omega) (by omega), List.append_nil, List.length_append, List.length_replicate]
  have : (natD x.toNat).length ≤ k.toNat := by
    rcases h with ⟨rfl, h⟩ | ⟨rfl, h⟩
    · exact natD_len (k := 2) (by omega)
    · exact natD_len (k := 4) (by omega)
  omega
theorem takeWhile_all {α : Type} {p : α → Bool} {l r : List α} (h : l.all p = true) (hr : r = [] ∨ ∃ x t, r = x :: t ∧ p x = false) : (l ++ r).takeWhile p = l ∧ (l ++ r).dropWhile p = r := by
  induction l with
  | nil =>
    rcases hr with rfl | ⟨x, t, rfl, hx⟩
    · simp
    · simp [List.takeWhile_cons, List.dropWhile_cons, hx]
  | cons y l ih =>
    simp only [List.all_cons, Bool.and_eq_true] at h
    obtain ⟨h1, h2⟩ := ih h.2
    simp [List.takeWhile_cons, List.dropWhile_cons, h.1, h1, h2]
def absT (a s : Nat) : List UInt8 := natT (a / 10 ^ s) ++ (if s = 0 then [] else 46 :: lowD s a)
theorem lowD_dig (a s : Nat) : (lowD s a).all isDig = true := by
  have h := (padN_val a s).2
  rw [padN_eq, List.all_append, Bool.and_eq_true] at h
  exact h.2
theorem absT_parts (a s : Nat) : (absT a s).takeWhile isDig = natT (a / 10 ^ s) ∧ ((absT a s).dropWhile isDig).drop 1 = lowD s a := by
  unfold absT
  by_cases h : s = 0
  · rw [if_pos h]
    obtain ⟨h1, h2⟩ := takeWhile_all (natT_val (a / 10 ^ s)).2 (.inl rfl)
    rw [h1, h2]; subst h; exact ⟨rfl, rfl⟩
  · rw [if_neg h]
    obtain ⟨h1, h2⟩ := takeWhile_all (r := 46 :: lowD s a) (natT_val (a / 10 ^ s)).2 (.inr ⟨46, _, rfl, rfl⟩)
    rw [h1, h2]; exact ⟨rfl, rfl⟩
theorem decT_abs {n s : Int} (h : 0 ≤ s) : decT n s = (if n < 0 then [45] else []) ++ absT n.natAbs s.toNat := by
  unfold decT absT
  by_cases h0 : s > 0
  · rw [if_pos h0, if_neg (show ¬ s.toNat = 0 by omega), natT_one]; simp
  · rw [if_neg h0, if_pos (show s.toNat = 0 by omega)]; simp
theorem absT_head (a s : Nat) : ∃ c t, absT a s = c :: t ∧ isDig c = true := by
  unfold absT
  cases h : natT (a / 10 ^ s) with
  | nil => exact absurd h (natT_ne _)
  | cons c t =>
    have := (natT_val (a / 10 ^ s)).2
    rw [h, List.all_cons, Bool.and_eq_true] at this
    exact ⟨c, _, rfl, this.1⟩
def absP (l : List UInt8) : Nat × Nat := (dval (l.takeWhile isDig ++ (l.dropWhile isDig).drop 1), ((l.dropWhile isDig).drop 1).length)
theorem absP_of (a s : Nat) : absP (absT a s) = (a, s) := by
  unfold absP
  rw [(absT_parts a s).1, (absT_parts a s).2, ← padN_eq, (padN_val a s).1, lowD_len]
def decP1 (l : List UInt8) : Int × Int := match l with
  | [] => (0, 0)
  | c :: t => if c = 45 then (-((absP t).1 : Int), ((absP t).2 : Int)) else (((absP (c :: t)).1 : Int), ((absP (c :: t)).2 : Int))
theorem decP1_of {n s : Int} (h : 0 ≤ s) : decP1 (decT n s) = (n, s) := by
  rw [decT_abs h]
  by_cases hn : n < 0
  · rw [if_pos hn]
    simp only [List.singleton_append, decP1, if_true, absP_of]
    ext <;> simp <;> omega
  · rw [if_neg hn, List.nil_append]
    obtain ⟨c, t, hc, hd⟩ := absT_head n.natAbs s.toNat
    have hc45 : ¬ c = 45 := by rintro rfl; simp [isDig] at hd
    rw [hc]
    simp only [decP1, if_neg hc45]
    rw [← hc, absP_of]
    ext <;> simp <;> omega
def dateP1 (l : List UInt8) : Int := numI (dval (l.take 4)) (dval ((l.drop 5).take 2)) (dval (l.drop 8))
theorem dateP1_of {n : Int} (h0 : 0 ≤ n) (h1 : n ≤ 3652058) : dateP1 (dateText n) = n := by
  obtain ⟨a, b, c, d, e, f⟩ := civ_bd h0 h1
  have ly := digs_size (x := (civ n).1) (k := 4) (by omega) (.inr ⟨rfl, by omega⟩)
  have lm := digs_size (x := (civ n).2.1) (k := 2) (by omega) (.inl ⟨rfl, by omega⟩)
  have ld := digs_size (x := (civ n).2.2) (k := 2) (by omega) (.inl ⟨rfl, by omega⟩)
  have vy := (digs_val (x := (civ n).1) (k := 4) (by omega) (by omega) (by decide)).1
  have vm := (digs_val (x := (civ n).2.1) (k := 2) (by omega) (by omega) (by decide)).1
  have vd := (digs_val (x := (civ n).2.2) (k := 2) (by omega) (by omega) (by decide)).1
  have hT : dateText n = digs 5 (civ n).1 4 [] ++ [45] ++ digs 5 (civ n).2.1 2 [] ++ [45] ++ digs 5 (civ n).2.2 2 [] := rfl
  generalize digs 5 (civ n).1 4 [] = Y at *
  generalize digs 5 (civ n).2.1 2 [] = M at *
  generalize digs 5 (civ n).2.2 2 [] = X at *
  unfold dateP1
  have e1 : (dateText n).take 4 = Y := by rw [hT]; simp [List.take_append, ly]
  have e2 : ((dateText n).drop 5).take 2 = M := by rw [hT]; simp [List.drop_append, List.take_append, ly, lm]
  have e3 : (dateText n).drop 8 = X := by
    have l1 : Y.length = 4 := ly
    have l2 : M.length = 2 := lm
    rw [hT, List.drop_left' (by simp [l1, l2])]
  rw [e1, e2, e3, vy, vm, vd]
  have s := (civ_spec h0 h1).2
  have q1 : (((civ n).1.toNat : Nat) : Int) = (civ n).1 := by omega
  have q2 : (((civ n).2.1.toNat : Nat) : Int) = (civ n).2.1 := by omega
  have q3 : (((civ n).2.2.toNat : Nat) : Int) = (civ n).2.2 := by omega
  rw [q1, q2, q3]; exact s
def nsep (c : UInt8) : Bool := !(c == 44 || c == 59 || c == 93 || c == 124)
theorem dig_nsep {c : UInt8} (h : isDig c = true) : nsep c = true := by
  simp only [isDig, Bool.and_eq_true, decide_eq_true_eq] at h
  simp only [nsep, Bool.not_eq_true', Bool.or_eq_false_iff, beq_eq_false_iff_ne, ne_eq]
  refine ⟨⟨⟨?_, ?_⟩, ?_⟩, ?_⟩ <;> rintro rfl <;> simp at h
theorem all_mono {p q : UInt8 → Bool} (h : ∀ c, p c = true → q c = true) {l : List UInt8} (hl : l.all p = true) : l.all q = true := by
  rw [List.all_eq_true] at hl ⊢; exact fun c hc => h c (hl c hc)
theorem decT_nsep {n s : Int} (h : 0 ≤ s) : (decT n s).all nsep = true := by
  rw [decT_abs h, absT]
  have h1 := all_mono (fun c => dig_nsep) (natT_val (n.natAbs / 10 ^ s.toNat)).2
  have h2 := all_mono (fun c => dig_nsep) (lowD_dig n.natAbs s.toNat)
  have h45 : nsep 45 = true := by decide
  have h46 : nsep 46 = true := by decide
  split <;> split <;> simp [List.all_append, h1, h2, h45, h46]
theorem dateText_nsep {n : Int} (h0 : 0 ≤ n) (h1 : n ≤ 3652058) : (dateText n).all nsep = true := by
  obtain ⟨a, b, c, d, e, f⟩ := civ_bd h0 h1
  have vy := all_mono (fun c => dig_nsep) (digs_val (x := (civ n).1) (k := 4) (by omega) (by omega) (by decide)).2
  have vm := all_mono (fun c => dig_nsep) (digs_val (x := (civ n).2.1) (k := 2) (by omega) (by omega) (by decide)).2
  have vd := all_mono (fun c => dig_nsep) (digs_val (x := (civ n).2.2) (k := 2) (by omega) (by omega) (by decide)).2
  have h45 : nsep 45 = true := by decide
  unfold dateText
  simp [List.all_append, vy, vm, vd, h45]
theorem dec2_nat {n : Int} (h0 : 0 ≤ n) (h1 : n ≤ 99) : dec2 n = natT n.toNat := by
  have : ∀ k : Nat, k < 100 → dec2 (k : Int) = natT k := by
    intro k hk
    have h := dig_eq (i := k) hk
    rw [← h, natT_dec]
  have h := this n.toNat (by omega)
  rw [← h]; congr 1; omega
def EndsW (r : List UInt8) : Prop := r = [] ∨ ∃ x t, r = x :: t ∧ nsep x = false
theorem word_take {w r : List UInt8} (h : w.all nsep = true) (hr : EndsW r) : (w ++ r).takeWhile nsep = w ∧ (w ++ r).dropWhile nsep = r := takeWhile_all h hr
def unq : List UInt8 → List UInt8 × List UInt8
  | [] => ([], [])
  | c :: t => if c = 39 then (match t with
      | [] => ([], [])
      | d :: u => if d = 39 then (39 :: (unq u).1, (unq u).2) else ([], d :: u))
    else (c :: (unq t).1, (unq t).2)
theorem unq_cons {c : UInt8} {t : List UInt8} (h : ¬ c = 39) : unq (c :: t) = (c :: (unq t).1, (unq t).2) := by
  rw [unq.eq_def]; simp [h]
theorem unq_of {r : List UInt8} (hr : EndsW r) : ∀ s : List UInt8, unq (escL s ++ 39 :: r) = (s, r)
  | [] => by
    rw [show escL [] = [] from rfl, List.nil_append]
    rcases hr with rfl | ⟨x, t, rfl, hx⟩
    · simp [unq]
    · have : ¬ x = 39 := by rintro rfl; simp [nsep] at hx
      simp [unq, this]
  | c :: s => by
    have ih := unq_of hr s
    have e : escL (c :: s) = escC c ++ escL s := by simp [escL]
    rw [e, escC]
    by_cases h : c = 39
    · subst h
      rw [if_pos rfl]
      simp [unq, ih]
    · rw [if_neg h]
      rw [List.singleton_append, List.cons_append, unq_cons h, ih]
def clP : List UInt8 → Cl × List UInt8
  | [] => (Cl.z, [])
  | x :: t => if x = 39 then (⟨1, (unq t).1, 0, 0, 0⟩, (unq t).2)
    else (if x = 33 then ⟨0, [], 0, 0, dval (t.takeWhile nsep)⟩ else if x = 35 then ⟨2, [], (decP1 (t.takeWhile nsep)).1, (decP1 (t.takeWhile nsep)).2, 0⟩ else if x = 64 then ⟨3, [], 0, 0, dateP1 (t.takeWhile nsep)⟩ else ⟨4, [], 0, 0, dval (t.takeWhile nsep)⟩, t.dropWhile nsep)
theorem right_fields {T : Bool} {v : Vl} (h : rightK T v = true) : (¬ v.kind = 1 → v.s = []) ∧ (¬ v.kind = 2 → v.dn = 0 ∧ v.ds = 0) ∧ (v.kind = 1 ∨ v.kind = 2 ∨ v.kind = 5 → v.n = 0) ∧ (¬ v.kind = 5 → v.cols = [] ∧ v.rows = []) ∧ 0 ≤ v.kind ∧ v.kind ≤ 5 ∧ (v.kind = 0 → 0 ≤ v.n ∧ v.n ≤ 99) ∧ (v.kind = 2 → decB v.dn v.ds = true) ∧ (v.kind = 3 → 0 ≤ v.n ∧ v.n ≤ 3652058) ∧ (v.kind = 4 → v.n = 0 ∨ v.n = 1) ∧ (v.kind = 5 → T = true) := by
  unfold rightK bareB at h
  obtain ⟨k, s, dn, ds, n, cols, rows⟩ := v
  by_cases h0 : k = 0
  · subst h0; simp at h; simp_all
  · by_cases h1 : k = 1
    · subst h1; simp at h; simp_all
    · by_cases h2 : k = 2
      · subst h2; simp at h; simp_all
      · by_cases h3 : k = 3
        · subst h3; simp at h; simp_all
        · by_cases h4 : k = 4
          · subst h4; simp at h; simp_all
          · by_cases h5 : k = 5
            · subst h5; simp at h; simp_all
            · simp [h0, h1, h2, h3, h4, h5] at h
theorem clP_of {c : Cl} (hk : ¬ c.kind = 5) (h : rightK false c.toV = true) {r : List UInt8} (hr : EndsW r) : clP (cellT c ++ r) = (c, r) := by
  obtain ⟨a1, a2, a3, _, a5, a6, a7, a8, a9, a10, _⟩ := right_fields h
  obtain ⟨k, s, dn, ds, n⟩ := c
  simp only [Cl.toV] at *
  unfold cellT baseT
  simp only
  have hk : k = 0 ∨ k = 1 ∨ k = 2 ∨ k = 3 ∨ k = 4 := by omega
  rcases hk with rfl | rfl | rfl | rfl | rfl
  · have hn := a7 rfl
    have hw := word_take (all_mono (fun c => dig_nsep) (natT_val n.toNat).2) hr
    simp only [if_true, List.cons_append, clP, show ¬ (33 : UInt8) = 39 by decide, if_false, dec2_nat hn.1 hn.2, hw.1, hw.2, (natT_val n.toNat).1]
    have := a1 (by decide); have := a2 (by decide)
    simp_all; omega
  · have e : quoL s ++ r = 39 :: (escL s ++ 39 :: r) := by simp [quoL]
    simp only [show ¬ (1 : Int) = 0 by decide, if_false, if_true, e, clP, unq_of hr]
    have := a2 (by decide); have := a3 (by decide)
    simp_all
  · have hd := decB_bd (a8 rfl)
    have hw := word_take (decT_nsep (n := dn) hd.1) hr
    simp only [show ¬ (2 : Int) = 0 by decide, show ¬ (2 : Int) = 1 by decide, if_false, if_true, List.cons_append, clP, show ¬ (35 : UInt8) = 39 by decide, show ¬ (35 : UInt8) = 33 by decide, hw.1, hw.2, decP1_of hd.1]
    have := a1 (by decide); have := a3 (by decide)
    simp_all
  · have hn := a9 rfl
    have hw := word_take (dateText_nsep hn.1 hn.2) hr
    simp only [show ¬ (3 : Int) = 0 by decide, show ¬ (3 : Int) = 1 by decide, show ¬ (3 : Int) = 2 by decide, if_false, if_true, List.cons_append, clP, show ¬ (64 : UInt8) = 39 by decide, show ¬ (64 : UInt8) = 33 by decide, show ¬ (64 : UInt8) = 35 by decide, hw.1, hw.2, dateP1_of hn.1 hn.2]
    have := a1 (by decide); have := a2 (by decide)
    simp_all
  · have hn := a10 rfl
    have hw := word_take (all_mono (fun c => dig_nsep) (natT_val n.toNat).2) hr
    simp only [show ¬ (4 : Int) = 0 by decide, show ¬ (4 : Int) = 1 by decide, show ¬ (4 : Int) = 2 by decide, show ¬ (4 : Int) = 3 by decide, if_false, List.cons_append, clP, show ¬ (63 : UInt8) = 39 by decide, show ¬ (63 : UInt8) = 33 by decide, show ¬ (63 : UInt8) = 35 by decide, show ¬ (63 : UInt8) = 64 by decide, dec2_nat (n := n) (by omega) (by omega), hw.1, hw.2, (natT_val n.toNat).1]
    have := a1 (by decide); have := a2 (by decide)
    simp_all; omega
theorem cell_inj {c c' : Cl} (hk : ¬ c.kind = 5) (h : rightK false c.toV = true) (hk' : ¬ c'.kind = 5) (h' : rightK false c'.toV = true) {r r' : List UInt8} (hr : EndsW r) (hr' : EndsW r') (e : cellT c ++ r = cellT c' ++ r') : c = c' ∧ r = r' := by
  have h1 := clP_of hk h hr
  rw [e, clP_of hk' h' hr'] at h1
  exact ⟨by injection h1 with a b; exact a.symm, by injection h1 with a b; exact b.symm⟩
def Fine (c : Cl) : Prop := ¬ c.kind = 5 ∧ rightK false c.toV = true
theorem endsW_cons {x : UInt8} {t : List UInt8} (h : nsep x = false) : EndsW (x :: t) := .inr ⟨x, t, rfl, h⟩
theorem row_inj : ∀ {a b : List Cl} {r r' : List UInt8}, a.length = b.length → (∀ c, c ∈ a → Fine c) → (∀ c, c ∈ b → Fine c) → EndsW r → EndsW r' → joinL [44] (a.map cellT) ++ r = joinL [44] (b.map cellT) ++ r' → a = b ∧ r = r'
  | [], [], r, r', _, _, _, _, _, e => ⟨rfl, by simpa [joinL] using e⟩
  | [], _ :: _, _, _, hl, _, _, _, _, _ => by simp at hl
  | _ :: _, [], _, _, hl, _, _, _, _, _ => by simp at hl
  | [x], [y], r, r', _, ha, hb, hr, hr', e => by
    obtain ⟨h1, h2⟩ := cell_inj (ha x (by simp)).1 (ha x (by simp)).2 (hb y (by simp)).1 (hb y (by simp)).2 hr hr' (by simpa [joinL] using e)
    exact ⟨by rw [h1], h2⟩
  | [x], y :: z :: b, _, _, hl, _, _, _, _, _ => by simp at hl
  | x :: z :: a, [y], _, _, hl, _, _, _, _, _ => by simp at hl
  | x :: x2 :: a, y :: y2 :: b, r, r', hl, ha, hb, hr, hr', e => by
    have e' : cellT x ++ (44 :: (joinL [44] ((x2 :: a).map cellT) ++ r)) = cellT y ++ (44 :: (joinL [44] ((y2 :: b).map cellT) ++ r')) := by
      simpa [joinL] using e
    obtain ⟨h1, h2⟩ := cell_inj (ha x (by simp)).1 (ha x (by simp)).2 (hb y (by simp)).1 (hb y (by simp)).2 (endsW_cons rfl) (endsW_cons rfl) e'
    obtain ⟨h3, h4⟩ := row_inj (a := x2 :: a) (b := y2 :: b) (by simpa using hl) (fun c hc => ha c (by simp at hc ⊢; right; exact hc)) (fun c hc => hb c (by simp at hc ⊢; right; exact hc)) hr hr' (by injection h2)
    exact ⟨by rw [h1, h3], h4⟩
theorem rows_inj {k : Nat} : ∀ {a b : List (List Cl)} {r r' : List UInt8}, (∀ x, x ∈ a → x.length = k ∧ ∀ c, c ∈ x → Fine c) → (∀ x, x ∈ b → x.length = k ∧ ∀ c, c ∈ x → Fine c) → a.flatMap rowT ++ 93 :: r = b.flatMap rowT ++ 93 :: r' → a = b ∧ r = r'
  | [], [], r, r', _, _, e => ⟨rfl, by simpa using e⟩
  | [], y :: b, r, r', _, _, e => by simp [rowT] at e
  | x :: a, [], r, r', _, _, e => by simp [rowT] at e
  | x :: a, y :: b, r, r', ha, hb, e => by
    have hends : ∀ (q : List (List Cl)) (s : List UInt8), EndsW (q.flatMap rowT ++ 93 :: s) := fun q s => by
      cases q with
      | nil => exact endsW_cons rfl
      | cons z q => exact endsW_cons (x := 59) rfl
    have e' : joinL [44] (x.map cellT) ++ (a.flatMap rowT ++ 93 :: r) = joinL [44] (y.map cellT) ++ (b.flatMap rowT ++ 93 :: r') := by
      simpa [rowT] using e
    obtain ⟨h1, h2⟩ := row_inj (by rw [(ha x (by simp)).1, (hb y (by simp)).1]) (ha x (by simp)).2 (hb y (by simp)).2 (hends _ _) (hends _ _) e'
    obtain ⟨h3, h4⟩ := rows_inj (fun z hz => ha z (by simp [hz])) (fun z hz => hb z (by simp [hz])) h2
    exact ⟨by rw [h1, h3], h4⟩
theorem name_parts {l : List UInt8} (h : isNameL l = true) : l.all nsep = true ∧ ∃ c t, l = c :: t ∧ nsep c = true := by
  have e : bs (S l) = l := by simp [bs, S]
  simp only [isNameL, isNameB, Bool.and_eq_true, decide_eq_true_eq, S_size, e] at h
  have ha : l.all nsep = true := by
    rw [List.all_eq_true] at h ⊢
    intro c hc
    have hh := h.2 c hc
    simp only [nsep, Bool.not_eq_true', Bool.or_eq_false_iff, beq_eq_false_iff_ne, ne_eq]
    refine ⟨⟨⟨?_, ?_⟩, ?_⟩, ?_⟩ <;> rintro rfl <;> revert hh <;> decide
  refine ⟨ha, ?_⟩
  cases l with
  | nil => simp at h
  | cons c t => simp only [List.all_cons, Bool.and_eq_true] at ha; exact ⟨c, t, rfl, ha.1⟩
def EndsT (r : List UInt8) : Prop := ∃ x t, r = x :: t ∧ (x = 59 ∨ x = 93)
theorem EndsT.w {r : List UInt8} (h : EndsT r) : EndsW r := by
  obtain ⟨x, t, rfl, h | h⟩ := h <;> subst h <;> exact endsW_cons rfl
theorem word_inj {w w' r r' : List UInt8} (h : w.all nsep = true) (h' : w'.all nsep = true) (hr : EndsW r) (hr' : EndsW r') (e : w ++ r = w' ++ r') : w = w' ∧ r = r' := by
  have h1 := word_take h hr
  rw [e, (word_take h' hr').1, (word_take h' hr').2] at h1
  exact ⟨h1.1.symm, h1.2.symm⟩
theorem cols_inj : ∀ {a b : List (List UInt8)} {r r' : List UInt8}, (∀ x, x ∈ a → isNameL x = true) → (∀ x, x ∈ b → isNameL x = true) → EndsT r → EndsT r' → joinL [44] a ++ r = joinL [44] b ++ r' → a = b ∧ r = r'
  | [], [], r, r', _, _, _, _, e => ⟨rfl, by simpa [joinL] using e⟩
  | [], y :: b, r, r', _, hb, hr, _, e => by
    obtain ⟨_, c, t, hy, hc⟩ := name_parts (hb y (by simp))
    obtain ⟨x, s, hx, hxs⟩ := hr
    have : ∃ u, joinL [44] (y :: b) ++ r' = c :: u := by
      cases b with
      | nil => exact ⟨_, by simp [joinL, hy]; rfl⟩
      | cons z b => exact ⟨_, by simp [joinL, hy]; rfl⟩
    obtain ⟨u, hu⟩ := this
    rw [hu, hx] at e
    simp [joinL] at e
    obtain ⟨rfl, _⟩ := e
    rcases hxs with rfl | rfl <;> simp [nsep] at hc
  | x :: a, [], r, r', ha, _, _, hr', e => by
    obtain ⟨_, c, t, hy, hc⟩ := name_parts (ha x (by simp))
    obtain ⟨z, s, hx, hxs⟩ := hr'
    have : ∃ u, joinL [44] (x :: a) ++ r = c :: u := by
      cases a with
      | nil => exact ⟨_, by simp [joinL, hy]; rfl⟩
      | cons z b => exact ⟨_, by simp [joinL, hy]; rfl⟩
    obtain ⟨u, hu⟩ := this
    rw [hu, hx] at e
    simp [joinL] at e
    obtain ⟨rfl, _⟩ := e
    rcases hxs with rfl | rfl <;> simp [nsep] at hc
  | [x], [y], r, r', ha, hb, hr, hr', e => by
    obtain ⟨h1, h2⟩ := word_inj (name_parts (ha x (by simp))).1 (name_parts (hb y (by simp))).1 hr.w hr'.w (by simpa [joinL] using e)
    exact ⟨by rw [h1], h2⟩
  | [x], y :: y2 :: b, r, r', ha, hb, hr, hr', e => by
    have e' : x ++ r = y ++ (44 :: (joinL [44] (y2 :: b) ++ r')) := by simpa [joinL] using e
    obtain ⟨h1, h2⟩ := word_inj (name_parts (ha x (by simp))).1 (name_parts (hb y (by simp))).1 hr.w (endsW_cons rfl) e'
    obtain ⟨z, s, hz, hzs⟩ := hr
    rw [hz] at h2
    injection h2 with h3 _
    subst h3
    rcases hzs with h | h <;> simp at h
  | x :: x2 :: a, [y], r, r', ha, hb, hr, hr', e => by
    have e' : x ++ (44 :: (joinL [44] (x2 :: a) ++ r)) = y ++ r' := by simpa [joinL] using e
    obtain ⟨h1, h2⟩ := word_inj (name_parts (ha x (by simp))).1 (name_parts (hb y (by simp))).1 (endsW_cons rfl) hr'.w e'
    obtain ⟨z, s, hz, hzs⟩ := hr'
    rw [hz] at h2
    injection h2 with h3 _
    subst h3
    rcases hzs with h | h <;> simp at h
  | x :: x2 :: a, y :: y2 :: b, r, r', ha, hb, hr, hr', e => by
    have e' : x ++ (44 :: (joinL [44] (x2 :: a) ++ r)) = y ++ (44 :: (joinL [44] (y2 :: b) ++ r')) := by simpa [joinL] using e
    obtain ⟨h1, h2⟩ := word_inj (name_parts (ha x (by simp))).1 (name_parts (hb y (by simp))).1 (endsW_cons rfl) (endsW_cons rfl) e'
    obtain ⟨h3, h4⟩ := cols_inj (a := x2 :: a) (b := y2 :: b) (fun c hc => ha c (by simp at hc ⊢; right; exact hc)) (fun c hc => hb c (by simp at hc ⊢; right; exact hc)) hr hr' (by injection h2)
    exact ⟨by rw [h1, h3], h4⟩
theorem table_names {cols : List (List UInt8)} {rows : List (List Cl)} (h : tableB cols rows = true) : (∀ x, x ∈ cols → isNameL x = true) ∧ ∀ r, r ∈ rows → r.length = cols.length ∧ ∀ c, c ∈ r → Fine c := by
  simp only [tableB, Bool.and_eq_true] at h
  refine ⟨fun x hx => ?_, fun r hr => ?_⟩
  · obtain ⟨i, hi, rfl⟩ := List.mem_iff_getElem.1 hx
    have h1 := allR_get h.1.2 hi
    simp only [nameAt, Bool.and_eq_true] at h1
    have : cols.getD i [] = cols[i] := by simp [hi]
    rw [this] at h1; exact h1.1
  · obtain ⟨i, hi, rfl⟩ := List.mem_iff_getElem.1 hr
    have h1 := allR_get h.2 hi
    have e : rows.getD i [] = rows[i] := by simp [hi]
    simp only [rowAt, Bool.and_eq_true, decide_eq_true_eq, e] at h1
    refine ⟨h1.1, fun c hc => ?_⟩
    obtain ⟨j, hj, rfl⟩ := List.mem_iff_getElem.1 hc
    have h2 := allR_get h1.2 hj
    have e2 : rows[i].getD j Cl.z = rows[i][j] := by simp [hj]
    simp only [cellAt, Bool.and_eq_true, Bool.not_eq_true', decide_eq_false_iff_not, e2] at h2
    exact h2
def Vl.cl (v : Vl) : Cl := ⟨v.kind, v.s, v.dn, v.ds, v.n⟩
theorem plain_cl {v : Vl} (hk : ¬ v.kind = 5) (h : rightB v = true) : v.cl.toV = v ∧ Fine v.cl ∧ textK v = cellT v.cl := by
  obtain ⟨_, _, _, a4, _⟩ := right_fields h
  obtain ⟨k, s, dn, ds, n, cols, rows⟩ := v
  obtain ⟨rfl, rfl⟩ := a4 hk
  simp only at hk
  refine ⟨rfl, ⟨hk, ?_⟩, ?_⟩
  · have : rightK (tableB [] []) (⟨k, s, dn, ds, n, [], []⟩ : Vl) = rightK false ⟨k, s, dn, ds, n, [], []⟩ := by simp [rightK, hk]
    rw [show (Vl.cl ⟨k, s, dn, ds, n, [], []⟩).toV = (⟨k, s, dn, ds, n, [], []⟩ : Vl) from rfl, ← this]
    exact h
  · simp [textK, hk, cellT, Vl.cl]
theorem cell_head {c : Cl} (hk : ¬ c.kind = 5) : ∃ x t, cellT c = x :: t ∧ ¬ x = 91 := by
  unfold cellT baseT
  split
  · exact ⟨33, _, rfl, by decide⟩
  · split
    · exact ⟨39, _, rfl, by decide⟩
    · split
      · exact ⟨35, _, rfl, by decide⟩
      · split
        · exact ⟨64, _, rfl, by decide⟩
        · exact ⟨63, _, rfl, by decide⟩
theorem table_text {v : Vl} (hk : v.kind = 5) (h : rightB v = true) (r : List UInt8) : textK v ++ r = 91 :: (joinL [44] v.cols ++ (v.rows.flatMap rowT ++ 93 :: r)) := by
  simp [textK, hk]
theorem text_inj {a b : Vl} (ha : rightB a = true) (hb : rightB b = true) {r r' : List UInt8} (hr : EndsW r) (hr' : EndsW r') (e : textK a ++ r = textK b ++ r') : a = b ∧ r = r' := by
  by_cases ka : a.kind = 5
  · by_cases kb : b.kind = 5
    · rw [table_text ka ha, table_text kb hb] at e
      injection e with _ e
      obtain ⟨a1, a2, a3, _, _, _, _, _, _, _, a11⟩ := right_fields ha
      obtain ⟨b1, b2, b3, _, _, _, _, _, _, _, b11⟩ := right_fields hb
      obtain ⟨na, ra⟩ := table_names (a11 ka)
      obtain ⟨nb, rb⟩ := table_names (b11 kb)
      have hT : ∀ (q : List (List Cl)) (s : List UInt8), EndsT (q.flatMap rowT ++ 93 :: s) := fun q s => by
        cases q with
        | nil => exact ⟨93, _, rfl, .inr rfl⟩
        | cons z q => exact ⟨59, _, rfl, .inl rfl⟩
      obtain ⟨h1, h2⟩ := cols_inj na nb (hT _ _) (hT _ _) e
      obtain ⟨h3, h4⟩ := rows_inj ra (fun x hx => by rw [h1]; exact rb x hx) h2
      refine ⟨?_, h4⟩
      obtain ⟨k, s, dn, ds, n, cols, rows⟩ := a
      obtain ⟨k', s', dn', ds', n', cols', rows'⟩ := b
      simp only at *
      subst ka kb h1 h3
      have := a1 (by decide); have := a2 (by decide); have := a3 (by decide)
      have := b1 (by decide); have := b2 (by decide); have := b3 (by decide)
      simp_all
    · obtain ⟨_, _, h1⟩ := plain_cl kb hb
      obtain ⟨x, t, h2, h3⟩ := cell_head (c := b.cl) kb
      rw [table_text ka ha, h1, h2] at e
      injection e with e1 _
      exact absurd e1.symm h3
  · obtain ⟨a1, a2, a3⟩ := plain_cl ka ha
    by_cases kb : b.kind = 5
    · obtain ⟨x, t, h2, h3⟩ := cell_head (c := a.cl) ka
      rw [table_text kb hb, a3, h2] at e
      injection e with e1 _
      exact absurd e1 h3
    · obtain ⟨b1, b2, b3⟩ := plain_cl kb hb
      rw [a3, b3] at e
      obtain ⟨h1, h2⟩ := cell_inj a2.1 a2.2 b2.1 b2.2 hr hr' e
      exact ⟨by rw [← a1, ← b1, h1], h2⟩
theorem textB_inj {a b : Vl} (ha : rightB a = true) (hb : rightB b = true) : textB a = textB b ↔ a = b := by
  refine ⟨fun e => ?_, fun e => by rw [e]⟩
  rw [textB, textB, if_pos ha, if_pos hb] at e
  exact (text_inj ha hb (.inl rfl) (.inl rfl) (by rw [e])).1
end Go.Proofs.YtmpgfchkkemngaaGreatDoor
namespace Go.Proofs.YtmpgfchkkemngaaGreatDoor
open Go.RowKit Go.V
open Go.Eng (inR byteAt u8 bytesV)
variable {m : Int}
def cntB (l : List Bool) (k : Nat) : Int := (((l.take k).filter id).length : Int)
theorem cntB_step {l : List Bool} {k : Nat} (h : k < l.length) : cntB l (k + 1) = if l.getD k false = true then cntB l k + 1 else cntB l k := by
  unfold cntB
  have e : l.take (k + 1) = l.take k ++ [l.getD k false] := by
    rw [List.take_add_one, List.getD_eq_getElem?_getD, List.getElem?_eq_getElem h]; rfl
  rw [e, List.filter_append]
  cases hb : l.getD k false <;> simp
theorem cntB_le {l : List Bool} {k : Nat} (h : k ≤ 3) : cntB l k ≤ 3 ∧ 0 ≤ cntB l k := by
  unfold cntB
  have h1 := List.length_filter_le id (l.take k)
  have h2 := List.length_take_le k l
  omega
theorem at3 {x y z : Bool} {k : Nat} (h : k < 3) : (0 : Int) ≤ (k : Int) ∧ ([[.b x], [.b y], [.b z]] : List (List D))[k]? = some [.b ([x, y, z].getD k false)] := by
  have hk : k = 0 ∨ k = 1 ∨ k = 2 := by omega
  rcases hk with rfl | rfl | rfl <;> exact ⟨by decide, rfl⟩
theorem one_of {a b : Vl} (ha : rightB a = true) (hb : rightB b = true) : cntB [lessB a b, lessB b a, decide (a = b)] 3 = 1 := by
  rcases less_tri ha hb with ⟨h1, h2, h3⟩ | ⟨h1, h2, h3⟩ | ⟨h1, h2, h3⟩
  · simp [cntB, h1, h2, h3]
  · simp [cntB, h1, h2, h3]
  · subst h3; simp [cntB, h1]
theorem textS_eq {a b : Vl} (ha : rightB a = true) (hb : rightB b = true) : ((S (textB a)).toList == (S (textB b)).toList) = decide (a = b) := by
  rw [S_beq]
  by_cases h : a = b
  · subst h; simp
  · have : ¬ textB a = textB b := fun e => h ((textB_inj ha hb).1 e)
    simp [h, this]
theorem valueOrder_ok (x y z : List Int) :
    SpG (gT m) 9 [.c (.d (.sl 1 (intsD x))), .c (.d (.sl 1 (intsD y))), .c (.d (.sl 1 (intsD z)))] [] (.c (.d (.b true))) [] := by
  have hx := made_right x
  have hy := made_right y
  have hz := made_right z
  refine enterB 98 Tryz.func9 (by kernel_rfl) fun fr hG => ?_
  refine stepL hG hmix [(1, 0, .call (.c (.d (.b true))) [] []), (2, 1, .call (.agg [.d (.i ((madeV x).kind)), .d (.s (S (madeV x).s)), .d (.i ((madeV x).dn)), .d (.i ((madeV x).ds)), .d (.i ((madeV x).n)), .d (.sl 1 (strs ((madeV x).cols))), .d (.sl 1 (rowsD ((madeV x).rows)))]) [] []), (2, 3, .call (.agg [.d (.i ((madeV y).kind)), .d (.s (S (madeV y).s)), .d (.i ((madeV y).dn)), .d (.i ((madeV y).ds)), .d (.i ((madeV y).n)), .d (.sl 1 (strs ((madeV y).cols))), .d (.sl 1 (rowsD ((madeV y).rows)))]) [] []), (2, 5, .call (.agg [.d (.i ((madeV z).kind)), .d (.s (S (madeV z).s)), .d (.i ((madeV z).dn)), .d (.i ((madeV z).ds)), .d (.i ((madeV z).n)), .d (.sl 1 (strs ((madeV z).cols))), .d (.sl 1 (rowsD ((madeV z).rows)))]) [] []), (3, 2, .call (.c (.d (.b (lessB (madeV x) (madeV y))))) [] []), (3, 5, .call (.c (.d (.b (lessB (madeV y) (madeV x))))) [] []), (3, 8, .call (.c (.d (.b (decide ((madeV x) = (madeV y)))))) [] [])] [0, 1, 0, 1, 1, 1, 1, 1] ((fun (zz : Nat × Int) => match zz with | (k, o) => ⟨[(6, [], .c (.d (.b false))), (7, [], .c (.d (.b true))), (8, [], .c (.bx 306 0)), (9, [], .c (.bx 307 0)), (10, [], .c (.bx 308 0)), (11, [], .c (.d (.b (lessB (madeV x) (madeV y))))), (13, [], .c (.d (.b (decide ((madeV x) = (madeV y)))))), (14, [], .c (.d (.i o))), (37, [], .c (.ar 603 0)), (38, [], .c (.d (.i 3))), (39, [], .c (.d (.i (k : Int))))], [(306, .box 30 [.d (.i ((madeV x).kind)), .d (.s (S (madeV x).s)), .d (.i ((madeV x).dn)), .d (.i ((madeV x).ds)), .d (.i ((madeV x).n)), .d (.sl 1 (strs ((madeV x).cols))), .d (.sl 1 (rowsD ((madeV x).rows)))]), (307, .box 30 [.d (.i ((madeV y).kind)), .d (.s (S (madeV y).s)), .d (.i ((madeV y).dn)), .d (.i ((madeV y).ds)), .d (.i ((madeV y).n)), .d (.sl 1 (strs ((madeV y).cols))), .d (.sl 1 (rowsD ((madeV y).rows)))]), (308, .box 30 [.d (.i ((madeV z).kind)), .d (.s (S (madeV z).s)), .d (.i ((madeV z).dn)), .d (.i ((madeV z).ds)), .d (.i ((madeV z).n)), .d (.sl 1 (strs ((madeV z).cols))), .d (.sl 1 (rowsD ((madeV z).rows)))]), (603, .arr 0 4 1 (([[.b (lessB (madeV x) (madeV y))], [.b (lessB (madeV y) (madeV x))], [.b (decide ((madeV x) = (madeV y)))]] : List (List D))))]⟩) (0, 0)) _ (by kernel_rfl) (conjC ((sanity_ok : SpG (gT m) _ _ _ _ _)) (conjC ((made_ok x : SpG (gT m) _ _ _ _ _)) (conjC ((made_ok y : SpG (gT m) _ _ _ _ _)) (conjC ((made_ok z : SpG (gT m) _ _ _ _ _)) (conjC ((less_ok (madeV x) (madeV y) (made_fit _) (made_fit _) : SpG (gT m) _ _ _ _ _)) (conjC ((less_ok (madeV y) (madeV x) (made_fit _) (made_fit _) : SpG (gT m) _ _ _ _ _)) (conj1 ((equal_ok (madeV x) (madeV y) : SpG (gT m) _ _ _ _ _))))))))) ?_
  refine loopR (σ := Nat × Int) (fun (zz : Nat × Int) => match zz with | (k, o) => 3 - k) (fun (zz : Nat × Int) => match zz with | (k, o) => ⟨[(6, [], .c (.d (.b false))), (7, [], .c (.d (.b true))), (8, [], .c (.bx 306 0)), (9, [], .c (.bx 307 0)), (10, [], .c (.bx 308 0)), (11, [], .c (.d (.b (lessB (madeV x) (madeV y))))), (13, [], .c (.d (.b (decide ((madeV x) = (madeV y)))))), (14, [], .c (.d (.i o))), (37, [], .c (.ar 603 0)), (38, [], .c (.d (.i 3))), (39, [], .c (.d (.i (k : Int))))], [(306, .box 30 [.d (.i ((madeV x).kind)), .d (.s (S (madeV x).s)), .d (.i ((madeV x).dn)), .d (.i ((madeV x).ds)), .d (.i ((madeV x).n)), .d (.sl 1 (strs ((madeV x).cols))), .d (.sl 1 (rowsD ((madeV x).rows)))]), (307, .box 30 [.d (.i ((madeV y).kind)), .d (.s (S (madeV y).s)), .d (.i ((madeV y).dn)), .d (.i ((madeV y).ds)), .d (.i ((madeV y).n)), .d (.sl 1 (strs ((madeV y).cols))), .d (.sl 1 (rowsD ((madeV y).rows)))]), (308, .box 30 [.d (.i ((madeV z).kind)), .d (.s (S (madeV z).s)), .d (.i ((madeV z).dn)), .d (.i ((madeV z).ds)), .d (.i ((madeV z).n)), .d (.sl 1 (strs ((madeV z).cols))), .d (.sl 1 (rowsD ((madeV z).rows)))]), (603, .arr 0 4 1 (([[.b (lessB (madeV x) (madeV y))], [.b (lessB (madeV y) (madeV x))], [.b (decide ((madeV x) = (madeV y)))]] : List (List D))))]⟩) (fun (zz : Nat × Int) => match zz with | (k, o) => k ≤ 3 ∧ o = cntB [lessB (madeV x) (madeV y), lessB (madeV y) (madeV x), decide ((madeV x) = (madeV y))] k) (0, 0) (by kernel_rfl) ?_ ?_
  · exact ⟨Nat.zero_le _, rfl⟩
  rintro ⟨k, o⟩ ⟨hk, ho⟩
  refine stepC hG hmix [] [0, 1] (decide (((k : Int) : Int) < 3)) (⟨[(6, [], .c (.d (.b false))), (7, [], .c (.d (.b true))), (8, [], .c (.bx 306 0)), (9, [], .c (.bx 307 0)), (10, [], .c (.bx 308 0)), (11, [], .c (.d (.b (lessB (madeV x) (madeV y))))), (13, [], .c (.d (.b (decide ((madeV x) = (madeV y)))))), (14, [], .c (.d (.i o))), (37, [], .c (.ar 603 0)), (38, [], .c (.d (.i 3))), (39, [], .c (.d (.i (k : Int))))], [(306, .box 30 [.d (.i ((madeV x).kind)), .d (.s (S (madeV x).s)), .d (.i ((madeV x).dn)), .d (.i ((madeV x).ds)), .d (.i ((madeV x).n)), .d (.sl 1 (strs ((madeV x).cols))), .d (.sl 1 (rowsD ((madeV x).rows)))]), (307, .box 30 [.d (.i ((madeV y).kind)), .d (.s (S (madeV y).s)), .d (.i ((madeV y).dn)), .d (.i ((madeV y).ds)), .d (.i ((madeV y).n)), .d (.sl 1 (strs ((madeV y).cols))), .d (.sl 1 (rowsD ((madeV y).rows)))]), (308, .box 30 [.d (.i ((madeV z).kind)), .d (.s (S (madeV z).s)), .d (.i ((madeV z).dn)), .d (.i ((madeV z).ds)), .d (.i ((madeV z).n)), .d (.sl 1 (strs ((madeV z).cols))), .d (.sl 1 (rowsD ((madeV z).rows)))]), (603, .arr 0 4 1 (([[.b (lessB (madeV x) (madeV y))], [.b (lessB (madeV y) (madeV x))], [.b (decide ((madeV x) = (madeV y)))]] : List (List D))))]⟩) _ (by kernel_rfl) conj0 (fun hc2 => ?_) (fun hc2 => ?_)
  · (try simp only [blS] at hc2)
    refine stepC hG hmix [(7, 1, .elem ([.b ([lessB (madeV x) (madeV y), lessB (madeV y) (madeV x), decide ((madeV x) = (madeV y))].getD k false)]))] [1, 1, 0, 0, 1, 1] ([lessB (madeV x) (madeV y), lessB (madeV y) (madeV x), decide ((madeV x) = (madeV y))].getD k false) (⟨[(6, [], .c (.d (.b false))), (7, [], .c (.d (.b true))), (8, [], .c (.bx 306 0)), (9, [], .c (.bx 307 0)), (10, [], .c (.bx 308 0)), (11, [], .c (.d (.b (lessB (madeV x) (madeV y))))), (13, [], .c (.d (.b (decide ((madeV x) = (madeV y)))))), (14, [], .c (.d (.i o))), (37, [], .c (.ar 603 0)), (38, [], .c (.d (.i 3))), (39, [], .c (.d (.i (k : Int))))], [(306, .box 30 [.d (.i ((madeV x).kind)), .d (.s (S (madeV x).s)), .d (.i ((madeV x).dn)), .d (.i ((madeV x).ds)), .d (.i ((madeV x).n)), .d (.sl 1 (strs ((madeV x).cols))), .d (.sl 1 (rowsD ((madeV x).rows)))]), (307, .box 30 [.d (.i ((madeV y).kind)), .d (.s (S (madeV y).s)), .d (.i ((madeV y).dn)), .d (.i ((madeV y).ds)), .d (.i ((madeV y).n)), .d (.sl 1 (strs ((madeV y).cols))), .d (.sl 1 (rowsD ((madeV y).rows)))]), (308, .box 30 [.d (.i ((madeV z).kind)), .d (.s (S (madeV z).s)), .d (.i ((madeV z).dn)), .d (.i ((madeV z).ds)), .d (.i ((madeV z).n)), .d (.sl 1 (strs ((madeV z).cols))), .d (.sl 1 (rowsD ((madeV z).rows)))]), (603, .arr 0 4 1 (([[.b (lessB (madeV x) (madeV y))], [.b (lessB (madeV y) (madeV x))], [.b (decide ((madeV x) = (madeV y)))]] : List (List D))))]⟩) _ (by kernel_rfl) (conjC (show (0 : Int) ≤ (k : Int) ∧ (k : Int) < ((([[.b (lessB (madeV x) (madeV y))], [.b (lessB (madeV y) (madeV x))], [.b (decide ((madeV x) = (madeV y)))]] : List (List D))).length : Int) from (by intros; first | decide | omega | (simp only [List.length_cons, List.length_nil]; omega) | (have := cntB_le (l := [lessB (madeV x) (madeV y), lessB (madeV y) (madeV x), decide ((madeV x) = (madeV y))]) (k := k) (by omega); unfold inR; omega))) (conj1 (show (([[.b (lessB (madeV x) (madeV y))], [.b (lessB (madeV y) (madeV x))], [.b (decide ((madeV x) = (madeV y)))]] : List (List D)))[k]? = some ([.b ([lessB (madeV x) (madeV y), lessB (madeV y) (madeV x), decide ((madeV x) = (madeV y))].getD k false)]) from (by intros; exact (at3 (k := k) (by omega)).2)))) (fun hc3 => ?_) (fun hc3 => ?_)
    · (try simp only [blS] at hc3)
      refine roundE hG hmix [] (k + 1, o + 1) _ (by kernel_rfl) (conjC (show inR (o + 1) from (by intros; first | decide | omega | (simp only [List.length_cons, List.length_nil]; omega) | (have := cntB_le (l := [lessB (madeV x) (madeV y), lessB (madeV y) (madeV x), decide ((madeV x) = (madeV y))]) (k := k) (by omega); unfold inR; omega))) (conj1 (show inR ((k : Int) + 1) from (by intros; first | decide | omega | (simp only [List.length_cons, List.length_nil]; omega) | (have := cntB_le (l := [lessB (madeV x) (madeV y), lessB (madeV y) (madeV x), decide ((madeV x) = (madeV y))]) (k := k) (by omega); unfold inR; omega))))) ?_ ?_
      · (try dsimp only); omega
      · exact ⟨by omega, by rw [cntB_step (by show k < 3; omega), if_pos hc3, ho]⟩
    · (try simp only [blS] at hc3)
      refine roundE hG hmix [] (k + 1, o) _ (by kernel_rfl) (conj1 (show inR ((k : Int) + 1) from (by intros; first | decide | omega | (simp only [List.length_cons, List.length_nil]; omega) | (have := cntB_le (l := [lessB (madeV x) (madeV y), lessB (madeV y) (madeV x), decide ((madeV x) = (madeV y))]) (k := k) (by omega); unfold inR; omega)))) ?_ ?_
      · (try dsimp only); omega
      · exact ⟨by omega, by rw [cntB_step (by show k < 3; omega), if_neg (by simpa using hc3), ho]⟩
  · (try simp only [blS] at hc2)
    refine leaveE hG hmix [] (.exit 0) (⟨[(6, [], .c (.d (.b false))), (7, [], .c (.d (.b true))), (8, [], .c (.bx 306 0)), (9, [], .c (.bx 307 0)), (10, [], .c (.bx 308 0)), (11, [], .c (.d (.b (lessB (madeV x) (madeV y))))), (13, [], .c (.d (.b (decide ((madeV x) = (madeV y)))))), (14, [], .c (.d (.i o)))], [(306, .box 30 [.d (.i ((madeV x).kind)), .d (.s (S (madeV x).s)), .d (.i ((madeV x).dn)), .d (.i ((madeV x).ds)), .d (.i ((madeV x).n)), .d (.sl 1 (strs ((madeV x).cols))), .d (.sl 1 (rowsD ((madeV x).rows)))]), (307, .box 30 [.d (.i ((madeV y).kind)), .d (.s (S (madeV y).s)), .d (.i ((madeV y).dn)), .d (.i ((madeV y).ds)), .d (.i ((madeV y).n)), .d (.sl 1 (strs ((madeV y).cols))), .d (.sl 1 (rowsD ((madeV y).rows)))]), (308, .box 30 [.d (.i ((madeV z).kind)), .d (.s (S (madeV z).s)), .d (.i ((madeV z).dn)), .d (.i ((madeV z).ds)), .d (.i ((madeV z).n)), .d (.sl 1 (strs ((madeV z).cols))), .d (.sl 1 (rowsD ((madeV z).rows)))])]⟩) _ (by kernel_rfl) conj0 rfl ?_
    refine stepR' hG hmix [(12, 14, .call (.c (.d (.b (lessB (madeV y) (madeV z))))) [] []), (12, 20, .call (.c (.d (.b (lessB (madeV x) (madeV z))))) [] []), (12, 26, .call (.c (.d (.b (lessB (madeV x) (madeV x))))) [] []), (12, 32, .call (.c (.d (.b (decide ((madeV x) = (madeV x)))))) [] []), (12, 36, .call (.c (.d (.s (S (textB (madeV x)))))) [] []), (12, 38, .call (.c (.d (.s (S (textB (madeV y)))))) [] [])] [] (.c (.d (.b ((((((decide ((o : Int) = 1)) && ((decide (((madeV x).kind : Int) ≥ ((madeV y).kind))) || (lessB (madeV x) (madeV y)))) && (((!(lessB (madeV x) (madeV y))) || (!(lessB (madeV y) (madeV z)))) || (lessB (madeV x) (madeV z)))) && (!(lessB (madeV x) (madeV x)))) && (decide ((madeV x) = (madeV x)))) && (((S (textB (madeV x))).toList == (S (textB (madeV y))).toList) == (decide ((madeV x) = (madeV y)))))))) [] (by kernel_rfl) (conjC (fun (hg1 : (!(lessB (madeV x) (madeV y))) = false) => (fun (hg2 : ((decide ((o : Int) = 1)) && ((decide (((madeV x).kind : Int) ≥ ((madeV y).kind))) || (lessB (madeV x) (madeV y)))) = true) => ((less_ok (madeV y) (madeV z) (made_fit _) (made_fit _) : SpG (gT m) _ _ _ _ _)))) (conjC (fun (hg1 : ((!(lessB (madeV x) (madeV y))) || (!(lessB (madeV y) (madeV z)))) = false) => (fun (hg2 : ((decide ((o : Int) = 1)) && ((decide (((madeV x).kind : Int) ≥ ((madeV y).kind))) || (lessB (madeV x) (madeV y)))) = true) => ((less_ok (madeV x) (madeV z) (made_fit _) (made_fit _) : SpG (gT m) _ _ _ _ _)))) (conjC (fun (hg1 : (((decide ((o : Int) = 1)) && ((decide (((madeV x).kind : Int) ≥ ((madeV y).kind))) || (lessB (madeV x) (madeV y)))) && (((!(lessB (madeV x) (madeV y))) || (!(lessB (madeV y) (madeV z)))) || (lessB (madeV x) (madeV z)))) = true) => ((less_ok (madeV x) (madeV x) (made_fit _) (made_fit _) : SpG (gT m) _ _ _ _ _))) (conjC (fun (hg1 : ((((decide ((o : Int) = 1)) && ((decide (((madeV x).kind : Int) ≥ ((madeV y).kind))) || (lessB (madeV x) (madeV y)))) && (((!(lessB (madeV x) (madeV y))) || (!(lessB (madeV y) (madeV z)))) || (lessB (madeV x) (madeV z)))) && (!(lessB (madeV x) (madeV x)))) = true) => ((equal_ok (madeV x) (madeV x) : SpG (gT m) _ _ _ _ _))) (conjC (fun (hg1 : (((((decide ((o : Int) = 1)) && ((decide (((madeV x).kind : Int) ≥ ((madeV y).kind))) || (lessB (madeV x) (madeV y)))) && (((!(lessB (madeV x) (madeV y))) || (!(lessB (madeV y) (madeV z)))) || (lessB (madeV x) (madeV z)))) && (!(lessB (madeV x) (madeV x)))) && (decide ((madeV x) = (madeV x)))) = true) => ((valText_all (madeV x) (made_fit _) : SpG (gT m) _ _ _ _ _))) (conj1 (fun (hg1 : (((((decide ((o : Int) = 1)) && ((decide (((madeV x).kind : Int) ≥ ((madeV y).kind))) || (lessB (madeV x) (madeV y)))) && (((!(lessB (madeV x) (madeV y))) || (!(lessB (madeV y) (madeV z)))) || (lessB (madeV x) (madeV z)))) && (!(lessB (madeV x) (madeV x)))) && (decide ((madeV x) = (madeV x)))) = true) => ((valText_all (madeV y) (made_fit _) : SpG (gT m) _ _ _ _ _))))))))) ?_ ?_
    · have h1 : o = 1 := by rw [ho, show k = 3 by omega]; exact one_of hx hy
      have hr := less_refl hx
      have hk2 : (!(lessB (madeV x) (madeV y)) || !(lessB (madeV y) (madeV z)) || lessB (madeV x) (madeV z)) = true := by
        cases h1 : lessB (madeV x) (madeV y) with
        | false => rfl
        | true => cases h2 : lessB (madeV y) (madeV z) with
          | false => rfl
          | true => rw [less_trans hx hy hz h1 h2]; rfl
      have hk3 : (decide (((madeV x).kind : Int) ≥ (madeV y).kind) || lessB (madeV x) (madeV y)) = true := by
        by_cases h : (madeV x).kind ≥ (madeV y).kind
        · simp [h]
        · rw [less_kind hx hy (by omega)]; simp
      simp only [textS_eq hx hy]
      simp only [Bool.or_assoc] at hk2 ⊢
      simp [h1, hr, hk2, hk3]
    · rfl
end Go.Proofs.YtmpgfchkkemngaaGreatDoor
