/- Part 35 of the proof: texts D11, D12, L1, D13, D14, G1, E3, G3. -/
import Derived.Test.YtmpgfchkkemngaaGreatDoorP34
set_option linter.all false
namespace Go.Proofs.YtmpgfchkkemngaaGreatDoor
open Go.RowKit Go.V
open Go.Eng (inR byteAt u8 bytesV)
open Go.Sort (grow)
variable {g : Gv}
theorem below_grow (w : World) (q : Nat) (os : Array Obj) : Below w.heap.size w (grow (w.drewN q) os) :=
 ⟨rfl, rfl, rfl, by simp [grow, World.drewN], fun i hi => by
  show ((w.drewN q).heap ++ os)[i]? = _
  rw [Array.getElem?_append_left (by show i < w.heap.size; omega)]
  rfl⟩
theorem tab_of {w : World} (hG : ∀ b cs, (b, cs) ∈ Gl g → ∃ ty fz, w.heap[b]? = some (.cells cs.toArray ty fz)) : Lib.TabIs Tryz.prog w "internal/strconv.uint64pow10" .u64 Lib.pow10Tab := by
 obtain ⟨ty, fz, h⟩ := hG 2 (powL.map (Value.int .u64)) (by simp [Gl])
 have hn : Tryz.prog.globalNamed "internal/strconv.uint64pow10" = some 2 := by kernel_rfl
 unfold Lib.TabIs World.var?
 rw [hn]
 simp only [Option.bind_some, h]
 rfl
theorem laid_of {w : World} (hG : ∀ b cs, (b, cs) ∈ Gl g → ∃ ty fz, w.heap[b]? = some (.cells cs.toArray ty fz)) : Laid w := by
 obtain ⟨ty, fz, h⟩ := hG 5 (mlen.map (Value.int .i64)) (by simp [Gl])
 refine ⟨fun i hi => ?_, (Array.getElem?_eq_some_iff.1 h).1⟩
 rw [Lib.cell_of_heap h]
 have : i < mlen.length := hi
 simp [this]
theorem natT_dec (u : Nat) : Lib.decDigits u = natT u := by
 induction u using Nat.strongRecOn with
 | ind u ih =>
  rw [Lib.decDigits]
  by_cases h : u < 10
  ·rw [dif_pos h, natT]
   by_cases h0 : u = 0
   ·subst h0; rfl
   ·rw [if_neg h0, natD_pos h0, show u / 10 = 0 by omega, natD_zero, show u % 10 = u by omega, ← u8_nat]; rfl
  ·rw [dif_neg h, ih (u / 10) (by omega), natT, natT, if_neg (by omega), if_neg (by omega), natD_pos (n := u) (by omega), ← u8_nat]; rfl
theorem digs_nat : ∀ (f : Nat) (x k : Int) (acc : List UInt8), 0 ≤ x → x < 10 ^ f → k ≤ f → digs f x k acc = List.replicate (k.toNat - (natD x.toNat).length) 48 ++ natD x.toNat ++ acc
 | 0, x, k, acc, h0, h1, h2 => by
  have : x = 0 := by simp at h1; omega
  subst this
  rw [show k.toNat = 0 by omega]
  simp [digs, natD_zero]
 | f + 1, x, k, acc, h0, h1, h2 => by
  by_cases h : x > 0 ∨ k > 0
  ·have hp : (10 : Int) ^ (f + 1) = 10 * 10 ^ f := by rw [Int.pow_succ, Int.mul_comm]
   have hx : x / 10 < 10 ^ f := Int.ediv_lt_of_lt_mul (by decide) (by rw [Int.mul_comm, ← hp]; exact h1)
   rw [digs, if_pos h, digs_nat f (x / 10) (k - 1) _ (by omega) hx (by omega)]
   have hd : (x / 10).toNat = x.toNat / 10 := by omega
   rw [hd]
   by_cases hz : x = 0
   ·subst hz
    have : k.toNat = (k - 1).toNat + 1 := by omega
    simp only [Int.toNat_zero, Nat.zero_div, natD_zero, List.length_nil, Nat.sub_zero, List.append_nil]
    rw [this, List.replicate_succ']
    simp; rfl
   ·rw [natD_pos (n := x.toNat) (by omega)]
    have e : (48 + x % 10 : Int) = 48 + ((x.toNat % 10 : Nat) : Int) := by omega
    have e2 : k.toNat - (natD (x.toNat / 10) ++ [u8 (48 + ((x.toNat % 10 : Nat) : Int))]).length = (k - 1).toNat - (natD (x.toNat / 10)).length := by
     simp only [zq12]; omega
    rw [e, e2]
    simp
  ·have hx : x = 0 := by omega
   subst hx
   rw [digs, if_neg h, show k.toNat = 0 by omega]
   simp [natD_zero]
theorem itoa_ok (n : Int) (h0 : 0 ≤ n) (h1 : n ≤ 9223372036854775807) : SpG g 44 [.c (.d (.i n))] [] (.c (.d (.s (S (natT n.toNat))))) [] := by
 refine spec_of (args := [.int .i64 n]) rfl rfl rfl fun w hG => ?_
 have h := Tryz.strconv_Itoa n (by omega) h1 w (tab_of hG)
 refine h.mono ?_
 rintro e w' ⟨rfl, k, os, rfl⟩
 refine ⟨?_, below_grow _ _ _⟩
 obtain ⟨u, rfl⟩ : ∃ u : Nat, n = u := ⟨n.toNat, by omega⟩
 rw [Lib.itoa_nonneg, natT_dec, Int.toNat_natCast]; rfl
theorem repeat_ok (c : Int) (h0 : 0 ≤ c) (h1 : c ≤ 1000000) : SpG g 197 [.c (.d (.s (S [48]))), .c (.d (.i c))] [] (.c (.d (.s (S (List.replicate c.toNat 48))))) [] := by
 refine spec_of (args := [.string (S [48]), .int .i64 c]) rfl rfl rfl fun w _ => ?_
 obtain ⟨u, rfl⟩ : ∃ u : Nat, c = u := ⟨c.toNat, by omega⟩
 have h := Tryz.strings_Repeat (S [48]) u w (by omega) (by rw [S_size]; simp; omega)
 have e : Lib.repeatL (S [48]).data.toList u = List.replicate u 48 := by
  have := Lib.repeatL_replicate 48 1 u
  rw [Nat.mul_one] at this
  rw [S_data]; exact this
 rw [e] at h
 exact h
theorem civil_ok (n : Int) (h0 : 0 ≤ n) (h1 : n ≤ 3652058) : SpG g 122 [.c (.d (.i n))] [] (.tup [(false, [.d (.i (civ n).1)]), (false, [.d (.i (civ n).2.1)]), (false, [.d (.i (civ n).2.2)]), (false, [.d (.b true)])]) [] :=
 spec_of (args := [.int .i64 n]) rfl rfl rfl fun w hG => (civil_yes n w (laid_of hG) h0 h1).mono fun _ _ ⟨a, b⟩ => ⟨a, by subst b; exact Below.refl _ _⟩
def padL (n size : Int) : List UInt8 := List.replicate (size.toNat - (natT n.toNat).length) 48 ++ natT n.toNat
theorem padL_digs {n k : Int} (h0 : 1 ≤ n) (h1 : n ≤ 99999) (hk : k ≤ 5) : padL n k = digs 5 n k [] := by
 rw [digs_nat 5 n k [] (by omega) (by omega) (by omega), padL, natT, if_neg (by omega)]; simp
theorem padL_len {n k : Int} (h1 : n ≤ 99999) (hk : k ≤ 5) : (padL n k).length ≤ 10 := by
 have := natT_len (n := n.toNat) (k := 5) (by omega) (by decide)
 simp only [padL, List.length_append, List.length_replicate]; omega
def dT (y m d : Int) : Nat → List UInt8
 | 0 => []
 | 1 => padL y 4
 | 2 => padL y 4 ++ [45]
 | 3 => padL y 4 ++ [45] ++ padL m 2
 | 4 => padL y 4 ++ [45] ++ padL m 2 ++ [45]
 | _ => padL y 4 ++ [45] ++ padL m 2 ++ [45] ++ padL d 2
theorem dT_date {n : Int} (h0 : 0 ≤ n) (h1 : n ≤ 3652058) : dT (civ n).1 (civ n).2.1 (civ n).2.2 5 = dateText n := by
 obtain ⟨a1, a2, a3, a4, a5, a6⟩ := civ_bd h0 h1
 show padL _ 4 ++ [45] ++ padL _ 2 ++ [45] ++ padL _ 2 = _
 rw [padL_digs a1 (by omega) (by decide), padL_digs a3 (by omega) (by decide), padL_digs a5 (by omega) (by decide), dateText]
def dE (y m d : Int) : Nat → List (List D)
 | 0 => []
 | 1 => bytesD (S (padL y 4)).data.toList
 | 2 => bytesD (S (padL y 4)).data.toList ++ bytesD (S [45]).data.toList
 | 3 => bytesD (S (padL y 4)).data.toList ++ bytesD (S [45]).data.toList ++ bytesD (S (padL m 2)).data.toList
 | 4 => bytesD (S (padL y 4)).data.toList ++ bytesD (S [45]).data.toList ++ bytesD (S (padL m 2)).data.toList ++ bytesD (S [45]).data.toList
 | _ => bytesD (S (padL y 4)).data.toList ++ bytesD (S [45]).data.toList ++ bytesD (S (padL m 2)).data.toList ++ bytesD (S [45]).data.toList ++ bytesD (S (padL d 2)).data.toList
structure YMD (y m d : Int) : Prop where
 y0 : 0 ≤ y
 y1 : y ≤ 9999
 m0 : 0 ≤ m
 m1 : m ≤ 12
 d0 : 0 ≤ d
 d1 : d ≤ 31
theorem dE_len {y m d : Int} (h : YMD y m d) (k : Nat) : (dE y m d k).length ≤ 100 := by
 obtain ⟨h1, h2, h3, h4, h5, h6⟩ := h
 have a1 := padL_len (n := y) (k := 4) (by omega) (by decide)
 have a2 := padL_len (n := m) (k := 2) (by omega) (by decide)
 have a3 := padL_len (n := d) (k := 2) (by omega) (by decide)
 unfold dE
 split <;> simp only [zq12, bytesD_len, S_data] <;> omega
theorem dE_text (y m d : Int) : dE y m d 5 = bytesD (S (dT y m d 5)).data.toList := by
 show bytesD (S (padL y 4)).data.toList ++ bytesD (S [45]).data.toList ++ bytesD (S (padL m 2)).data.toList ++ bytesD (S [45]).data.toList ++ bytesD (S (padL d 2)).data.toList = bytesD (S (padL y 4 ++ [45] ++ padL m 2 ++ [45] ++ padL d 2)).data.toList
 simp only [S_data, ← bytesD_app]
theorem natT_len9 (n : Int) (h : n ≤ 99999) : (natT n.toNat).length ≤ 5 := natT_len (by omega) (by decide)
theorem padded_ (n k : Int) (h0 : 0 ≤ n) (h1 : n ≤ 99999) (hk0 : 0 ≤ k) (hk : k ≤ 5) :
  SpG g 171 [.c (.d (.i n)), .c (.d (.i k))] [] (.c (.d (.s (S (padL n k))))) [] := by
 have hl := natT_len9 n h1
 refine enterB 16 Tryz.func171 (by kernel_rfl) fun fr hG => ?_
 refine zR hG [(1, 1, .call (.c (.d (.s (S (natT (n : Int).toNat))))) [] []), (2, 5, .call (.c (.d (.s (S (List.replicate ((if (0 : Int) > (k - ((S (natT (n : Int).toNat)).size : Int)) then 0 else (k - ((S (natT (n : Int).toNat)).size : Int))) : Int).toNat 48))))) [] [])] [] (.c (.d (.s ((S (List.replicate ((if (0 : Int) > (k - ((S (natT (n : Int).toNat)).size : Int)) then 0 else (k - ((S (natT (n : Int).toNat)).size : Int))) : Int).toNat 48)) ++ (S (natT (n : Int).toNat)))))) [] (by kernel_rfl) (conjC ((itoa_ok (n) (by omega) (by omega) : SpG g _ _ _ _ _)) (conjC (show inR (k - ((S (natT (n : Int).toNat)).size : Int)) from (by intros; (try simp only [inR, S_size, S_app, maxLen, List.length_append, List.length_replicate] at *); omega)) (conjC ((repeat_ok ((if (0 : Int) > (k - ((S (natT (n : Int).toNat)).size : Int)) then 0 else (k - ((S (natT (n : Int).toNat)).size : Int)))) (by (try simp only [S_size] at *); omega) (by (try simp only [S_size] at *); omega) : SpG g _ _ _ _ _)) (conj1 (show (S (List.replicate ((if (0 : Int) > (k - ((S (natT (n : Int).toNat)).size : Int)) then 0 else (k - ((S (natT (n : Int).toNat)).size : Int))) : Int).toNat 48)).size + (S (natT (n : Int).toNat)).size ≤ maxLen from (by intros; (try simp only [inR, S_size, S_app, maxLen, List.length_append, List.length_replicate] at *); omega)))))) ?_ ?_
 ·have e : ((if ((0 : Int) : Int) > (k - ((S (natT (n : Int).toNat)).size : Int)) then 0 else (k - ((S (natT (n : Int).toNat)).size : Int))) : Int).toNat = k.toNat - (natT n.toNat).length := by rw [S_size]; split <;> omega
  rw [S_app, e]; rfl
 ·rfl
theorem padded_ok (n k : Int) (h0 : 0 ≤ n) (h1 : n ≤ 99999) (hk0 : 0 ≤ k) (hk : k ≤ 5) : SpG g 171 [.c (.d (.i n)), .c (.d (.i k))] [] (.c (.d (.s (S (padL n k))))) [] := padded_ n k h0 h1 hk0 hk
theorem copyCheckO_N (bo : Nat) (y m d : Int) :
  SpG g 83 [.c (.bx 0 3)] [(0, .box ⟨.c 153, some bo⟩ [.d (.i y), .d (.i m), .d (.i d), .d (.v (.pointer none)), .d (.nil)])] (.tup []) [(0, .box ⟨.c 153, some bo⟩ [.d (.i y), .d (.i m), .d (.i d), .bx 0 3, .d (.nil)])] := by
 refine enterB 20 Tryz.func83 (by kernel_rfl) fun fr hG => ?_
 refine zc hG [] [1] (true) (by kernel_rfl) conj0 (fun _ => ?_) (fun hc1 => absurd hc1 (by decide))
 exact zr hG [] [] (by kernel_rfl) (conj1 (show NoEsc Tryz.prog 126 from noEsc_126))
theorem copyCheckO_1 (bo : Nat) (y m d : Int) (es : List (List D)) :
  SpG g 83 [.c (.bx 0 3)] [(0, .box ⟨.c 153, some bo⟩ [.d (.i y), .d (.i m), .d (.i d), .bx 0 3, .ar 1 0]), (1, .arr 0 5 1 (es))] (.tup []) [(0, .box ⟨.c 153, some bo⟩ [.d (.i y), .d (.i m), .d (.i d), .bx 0 3, .ar 1 0]), (1, .arr 0 5 1 (es))] := by
 refine enterB 20 Tryz.func83 (by kernel_rfl) fun fr hG => ?_
 refine zc hG [] [1] (false) (by kernel_rfl) conj0 (fun hc1 => absurd hc1 (by decide)) (fun _ => ?_)
 refine zC hG [] [1, 1, 1] (false) (⟨[], [(0, .box ⟨.c 153, some bo⟩ [.d (.i y), .d (.i m), .d (.i d), .bx 0 3, .ar 1 0]), (1, .arr 0 5 1 (es))]⟩) (by kernel_rfl) conj0 (fun hc2 => absurd hc2 (by decide)) (fun _ => ?_)
 exact zr hG [] [] (by kernel_rfl) conj0
theorem writeStringO_N (bo : Nat) (y m d : Int) (s : ByteArray) (h : s.size ≤ 1000000000000) :
  SpG g 48 [.c (.bx 0 3), .c (.d (.s s))] [(0, .box ⟨.c 153, some bo⟩ [.d (.i y), .d (.i m), .d (.i d), .d (.v (.pointer none)), .d (.nil)])] (.tup [(false, [.d (.i (s.size : Int))]), (false, [.d (.v (.nilIface))])]) [(0, .box ⟨.c 153, some bo⟩ [.d (.i y), .d (.i m), .d (.i d), .bx 0 3, .ar 100 0]), (100, .arr 0 5 1 (bytesD s.data.toList))] := by
 refine enterB 19 Tryz.func48 (by kernel_rfl) fun fr hG => ?_
 exact zr hG [(1, 1, .callG (.tup []) [0] [(0, .box ⟨.c 153, some bo⟩ [.d (.i y), .d (.i m), .d (.i d), .bx 0 3, .d (.nil)])])] [306] (by kernel_rfl) (conjC ((copyCheckO_N bo y m d : SpG g _ _ _ _ _)) (conj1 (show (s).size ≤ 1000000000000 from (by intros; first | assumption | omega))))
theorem writeStringO_1 (bo : Nat) (y m d : Int) (es : List (List D)) (s : ByteArray) (h : es.length + s.size ≤ 1000000000000) :
  SpG g 48 [.c (.bx 0 3), .c (.d (.s s))] [(0, .box ⟨.c 153, some bo⟩ [.d (.i y), .d (.i m), .d (.i d), .bx 0 3, .ar 1 0]), (1, .arr 0 5 1 (es))] (.tup [(false, [.d (.i (s.size : Int))]), (false, [.d (.v (.nilIface))])]) [(0, .box ⟨.c 153, some bo⟩ [.d (.i y), .d (.i m), .d (.i d), .bx 0 3, .ar 1 0]), (1, .arr 0 5 1 (es ++ bytesD s.data.toList))] := by
 refine enterB 19 Tryz.func48 (by kernel_rfl) fun fr hG => ?_
 exact zr hG [(1, 1, .callG (.tup []) [0, 1] [(0, .box ⟨.c 153, some bo⟩ [.d (.i y), .d (.i m), .d (.i d), .bx 0 3, .ar 1 0]), (1, .arr 0 5 1 (es))])] [] (by kernel_rfl) (conjC ((copyCheckO_1 bo y m d (es) : SpG g _ _ _ _ _)) (conj1 (show (es).length + (s).size ≤ 1000000000000 from (by intros; first | assumption | omega))))
theorem builderStringO_ (bo : Nat) (y m d : Int) (es : List (List D)) (r : ByteArray) (h : es = bytesD r.data.toList) :
  SpG g 51 [.c (.bx 0 3)] [(0, .box ⟨.c 153, some bo⟩ [.d (.i y), .d (.i m), .d (.i d), .bx 0 3, .ar 1 0]), (1, .arr 0 5 1 (es))] (.c (.d (.s r))) [(1, .arr 0 5 1 []), (0, .box ⟨.c 153, some bo⟩ [.d (.i y), .d (.i m), .d (.i d), .bx 0 3, .any])] := by
 refine enterB 14 Tryz.func51 (by kernel_rfl) fun fr hG => ?_
 exact zr hG [(1, 10, .call (.c (.d (.s (r)))) [] [])] [] (by kernel_rfl) (conjC (show es = bytesD (r).data.toList from h) (conj1 (show (((es).length : Int) : Int) = ((r).size : Int) from (by intros; first | assumption | (rw [h, bytesD_len]; rfl)))))
theorem builderStringO (bo : Nat) (y m d : Int) (es : List (List D)) (r : ByteArray) (h : es = bytesD r.data.toList) :
  SpG g 51 [.c (.bx 0 3)] [(0, .box ⟨.c 153, some bo⟩ [.d (.i y), .d (.i m), .d (.i d), .bx 0 3, .ar 1 0]), (1, .arr 0 5 1 es)] (.c (.d (.s r))) [(0, .box ⟨.c 153, some bo⟩ [.d (.i y), .d (.i m), .d (.i d), .bx 0 3, .any]), (1, .arr 0 5 1 [])] :=
 spec_look (builderStringO_ bo y m d es r h) (by funext i; match i with | 0 => rfl | 1 => rfl | i + 2 => rfl)
def zq16 := And.intro @List.length_cons.{0} (And.intro @List.length_nil.{0} (@S_size))
theorem put0_ (bo : Nat) (y m d : Int) (hy : YMD y m d) :
  SpG g 124 [.c (.bx 0 0), .agg [.d (.s (S [89, 89, 89, 89])), .d (.b true)]] [(0, .box ⟨.c 153, some bo⟩ [.d (.i y), .d (.i m), .d (.i d), .d (.v (.pointer none)), .d (.nil)])] (.tup []) [(100, .arr 0 5 1 (dE y m d 1)), (0, .box ⟨.c 153, some bo⟩ [.d (.i y), .d (.i m), .d (.i d), .bx 0 3, .ar 100 0])] := by
 have hdl := dE_len hy 0
 have p1 := padL_len (n := y) (k := 4) (by have := hy.y1; omega) (by decide)
 have p2 := padL_len (n := m) (k := 2) (by have := hy.m1; omega) (by decide)
 have p3 := padL_len (n := d) (k := 2) (by have := hy.d1; omega) (by decide)
 obtain ⟨y0, y1, m0, m1, d0, d1⟩ := hy
 refine enterB 57 Tryz.func124 (by kernel_rfl) fun fr hG => ?_
 refine zC hG [] [1, 0, 1] (false) (⟨[(0, [], .c (.bx 0 0)), (3, [], .c (.bx 100 0))], [(0, .box ⟨.c 153, some bo⟩ [.d (.i y), .d (.i m), .d (.i d), .d (.v (.pointer none)), .d (.nil)]), (100, .box 159 [.d (.s (S [89, 89, 89, 89])), .d (.b true)])]⟩) (by kernel_rfl) conj0 (fun hc1 => absurd hc1 (by decide)) (fun _ => ?_)
 refine zc hG [] [1, 1, 1, 0, 1] (true) (by kernel_rfl) (conj1 (show (0 : Int) ≤ 0 ∧ 0 < ((S [89, 89, 89, 89]).size : Int) from (by decide))) (fun _ => ?_) (fun hc2 => absurd hc2 (by decide))
 exact zr hG [(5, 7, .call (.c (.d (.s (S (padL y 4))))) [] []), (5, 8, .callG (.tup [(false, [.d (.i ((S (padL y 4)).size : Int))]), (false, [.d (.v (.nilIface))])]) [0] [(0, .box ⟨.c 153, some bo⟩ [.d (.i y), .d (.i m), .d (.i d), .bx 0 3, .ar 100 0]), (100, .arr 0 5 1 (bytesD (S (padL y 4)).data.toList))])] [608] (by kernel_rfl) (conjC ((padded_ok y 4 (by omega) (by omega) (by decide) (by decide) : SpG g _ _ _ _ _)) (conj1 ((writeStringO_N bo y m d (S (padL y 4)) (by simp only [zq16] at *; omega) : SpG g _ _ _ _ _))))
theorem put0 (bo : Nat) (y m d : Int) (hy : YMD y m d) :
  SpG g 124 [.c (.bx 0 0), .agg [.d (.s (S [89, 89, 89, 89])), .d (.b true)]] [(0, .box ⟨.c 153, some bo⟩ [.d (.i y), .d (.i m), .d (.i d), .d (.v (.pointer none)), .d (.nil)])] (.tup []) [(0, .box ⟨.c 153, some bo⟩ [.d (.i y), .d (.i m), .d (.i d), .bx 0 3, .ar 100 0]), (100, .arr 0 5 1 (dE y m d 1))] := by
 refine spec_look (put0_ bo y m d hy) ?_
 first | rfl | (funext i; simp only [lookO_cons, upd]; ((repeat' split) <;> first | rfl | (exfalso; omega)))
theorem put1_ (bo : Nat) (y m d : Int) (hy : YMD y m d) :
  SpG g 124 [.c (.bx 0 0), .agg [.d (.s (S [45])), .d (.b false)]] [(0, .box ⟨.c 153, some bo⟩ [.d (.i y), .d (.i m), .d (.i d), .bx 0 3, .ar 1 0]), (1, .arr 0 5 1 (dE y m d 1))] (.tup []) [(1, .arr 0 5 1 (dE y m d 2)), (0, .box ⟨.c 153, some bo⟩ [.d (.i y), .d (.i m), .d (.i d), .bx 0 3, .ar 1 0])] := by
 have hdl := dE_len hy 1
 have p1 := padL_len (n := y) (k := 4) (by have := hy.y1; omega) (by decide)
 have p2 := padL_len (n := m) (k := 2) (by have := hy.m1; omega) (by decide)
 have p3 := padL_len (n := d) (k := 2) (by have := hy.d1; omega) (by decide)
 obtain ⟨y0, y1, m0, m1, d0, d1⟩ := hy
 refine enterB 57 Tryz.func124 (by kernel_rfl) fun fr hG => ?_
 refine zC hG [] [1, 0, 1] (true) (⟨[(0, [], .c (.bx 0 0)), (3, [], .c (.bx 100 0))], [(0, .box ⟨.c 153, some bo⟩ [.d (.i y), .d (.i m), .d (.i d), .bx 0 3, .ar 1 0]), (1, .arr 0 5 1 (dE y m d 1)), (100, .box 159 [.d (.s (S [45])), .d (.b false)])]⟩) (by kernel_rfl) conj0 (fun _ => ?_) (fun hc1 => absurd hc1 (by decide))
 exact zr hG [(3, 5, .callG (.tup [(false, [.d (.i ((S [45]).size : Int))]), (false, [.d (.v (.nilIface))])]) [0, 1] [(0, .box ⟨.c 153, some bo⟩ [.d (.i y), .d (.i m), .d (.i d), .bx 0 3, .ar 1 0]), (1, .arr 0 5 1 ((dE y m d 1) ++ bytesD (S [45]).data.toList))])] [] (by kernel_rfl) (conj1 ((writeStringO_1 bo y m d (dE y m d 1) (S [45]) (by simp only [zq16] at *; omega) : SpG g _ _ _ _ _)))
theorem put1 (bo : Nat) (y m d : Int) (hy : YMD y m d) :
  SpG g 124 [.c (.bx 0 0), .agg [.d (.s (S [45])), .d (.b false)]] [(0, .box ⟨.c 153, some bo⟩ [.d (.i y), .d (.i m), .d (.i d), .bx 0 3, .ar 1 0]), (1, .arr 0 5 1 (dE y m d 1))] (.tup []) [(0, .box ⟨.c 153, some bo⟩ [.d (.i y), .d (.i m), .d (.i d), .bx 0 3, .ar 1 0]), (1, .arr 0 5 1 (dE y m d 2))] := by
 refine spec_look (put1_ bo y m d hy) ?_
 first | rfl | (funext i; simp only [lookO_cons, upd]; ((repeat' split) <;> first | rfl | (exfalso; omega)))
theorem put2_ (bo : Nat) (y m d : Int) (hy : YMD y m d) :
  SpG g 124 [.c (.bx 0 0), .agg [.d (.s (S [77, 77])), .d (.b true)]] [(0, .box ⟨.c 153, some bo⟩ [.d (.i y), .d (.i m), .d (.i d), .bx 0 3, .ar 1 0]), (1, .arr 0 5 1 (dE y m d 2))] (.tup []) [(1, .arr 0 5 1 (dE y m d 3)), (0, .box ⟨.c 153, some bo⟩ [.d (.i y), .d (.i m), .d (.i d), .bx 0 3, .ar 1 0])] := by
 have hdl := dE_len hy 2
 have p1 := padL_len (n := y) (k := 4) (by have := hy.y1; omega) (by decide)
 have p2 := padL_len (n := m) (k := 2) (by have := hy.m1; omega) (by decide)
 have p3 := padL_len (n := d) (k := 2) (by have := hy.d1; omega) (by decide)
 obtain ⟨y0, y1, m0, m1, d0, d1⟩ := hy
 refine enterB 57 Tryz.func124 (by kernel_rfl) fun fr hG => ?_
 refine zC hG [] [1, 0, 1] (false) (⟨[(0, [], .c (.bx 0 0)), (3, [], .c (.bx 100 0))], [(0, .box ⟨.c 153, some bo⟩ [.d (.i y), .d (.i m), .d (.i d), .bx 0 3, .ar 1 0]), (1, .arr 0 5 1 (dE y m d 2)), (100, .box 159 [.d (.s (S [77, 77])), .d (.b true)])]⟩) (by kernel_rfl) conj0 (fun hc1 => absurd hc1 (by decide)) (fun _ => ?_)
 refine zc hG [] [1, 1, 1, 0, 1] (false) (by kernel_rfl) (conj1 (show (0 : Int) ≤ 0 ∧ 0 < ((S [77, 77]).size : Int) from (by decide))) (fun hc2 => absurd hc2 (by decide)) (fun _ => ?_)
 refine zc hG [] [1, 1, 1, 1, 1, 0, 1] (true) (by kernel_rfl) (conj1 (show (0 : Int) ≤ 0 ∧ 0 < ((S [77, 77]).size : Int) from (by decide))) (fun _ => ?_) (fun hc3 => absurd hc3 (by decide))
 exact zr hG [(7, 10, .call (.c (.d (.s (S (padL m 2))))) [] []), (7, 11, .callG (.tup [(false, [.d (.i ((S (padL m 2)).size : Int))]), (false, [.d (.v (.nilIface))])]) [0, 1] [(0, .box ⟨.c 153, some bo⟩ [.d (.i y), .d (.i m), .d (.i d), .bx 0 3, .ar 1 0]), (1, .arr 0 5 1 ((dE y m d 2) ++ bytesD (S (padL m 2)).data.toList))])] [] (by kernel_rfl) (conjC ((padded_ok m 2 (by omega) (by omega) (by decide) (by decide) : SpG g _ _ _ _ _)) (conj1 ((writeStringO_1 bo y m d (dE y m d 2) (S (padL m 2)) (by simp only [zq16] at *; omega) : SpG g _ _ _ _ _))))
theorem put2 (bo : Nat) (y m d : Int) (hy : YMD y m d) :
  SpG g 124 [.c (.bx 0 0), .agg [.d (.s (S [77, 77])), .d (.b true)]] [(0, .box ⟨.c 153, some bo⟩ [.d (.i y), .d (.i m), .d (.i d), .bx 0 3, .ar 1 0]), (1, .arr 0 5 1 (dE y m d 2))] (.tup []) [(0, .box ⟨.c 153, some bo⟩ [.d (.i y), .d (.i m), .d (.i d), .bx 0 3, .ar 1 0]), (1, .arr 0 5 1 (dE y m d 3))] := by
 refine spec_look (put2_ bo y m d hy) ?_
 first | rfl | (funext i; simp only [lookO_cons, upd]; ((repeat' split) <;> first | rfl | (exfalso; omega)))
theorem put3_ (bo : Nat) (y m d : Int) (hy : YMD y m d) :
  SpG g 124 [.c (.bx 0 0), .agg [.d (.s (S [45])), .d (.b false)]] [(0, .box ⟨.c 153, some bo⟩ [.d (.i y), .d (.i m), .d (.i d), .bx 0 3, .ar 1 0]), (1, .arr 0 5 1 (dE y m d 3))] (.tup []) [(1, .arr 0 5 1 (dE y m d 4)), (0, .box ⟨.c 153, some bo⟩ [.d (.i y), .d (.i m), .d (.i d), .bx 0 3, .ar 1 0])] := by
 have hdl := dE_len hy 3
 have p1 := padL_len (n := y) (k := 4) (by have := hy.y1; omega) (by decide)
 have p2 := padL_len (n := m) (k := 2) (by have := hy.m1; omega) (by decide)
 have p3 := padL_len (n := d) (k := 2) (by have := hy.d1; omega) (by decide)
 obtain ⟨y0, y1, m0, m1, d0, d1⟩ := hy
 refine enterB 57 Tryz.func124 (by kernel_rfl) fun fr hG => ?_
 refine zC hG [] [1, 0, 1] (true) (⟨[(0, [], .c (.bx 0 0)), (3, [], .c (.bx 100 0))], [(0, .box ⟨.c 153, some bo⟩ [.d (.i y), .d (.i m), .d (.i d), .bx 0 3, .ar 1 0]), (1, .arr 0 5 1 (dE y m d 3)), (100, .box 159 [.d (.s (S [45])), .d (.b false)])]⟩) (by kernel_rfl) conj0 (fun _ => ?_) (fun hc1 => absurd hc1 (by decide))
 exact zr hG [(3, 5, .callG (.tup [(false, [.d (.i ((S [45]).size : Int))]), (false, [.d (.v (.nilIface))])]) [0, 1] [(0, .box ⟨.c 153, some bo⟩ [.d (.i y), .d (.i m), .d (.i d), .bx 0 3, .ar 1 0]), (1, .arr 0 5 1 ((dE y m d 3) ++ bytesD (S [45]).data.toList))])] [] (by kernel_rfl) (conj1 ((writeStringO_1 bo y m d (dE y m d 3) (S [45]) (by simp only [zq16] at *; omega) : SpG g _ _ _ _ _)))
theorem put3 (bo : Nat) (y m d : Int) (hy : YMD y m d) :
  SpG g 124 [.c (.bx 0 0), .agg [.d (.s (S [45])), .d (.b false)]] [(0, .box ⟨.c 153, some bo⟩ [.d (.i y), .d (.i m), .d (.i d), .bx 0 3, .ar 1 0]), (1, .arr 0 5 1 (dE y m d 3))] (.tup []) [(0, .box ⟨.c 153, some bo⟩ [.d (.i y), .d (.i m), .d (.i d), .bx 0 3, .ar 1 0]), (1, .arr 0 5 1 (dE y m d 4))] := by
 refine spec_look (put3_ bo y m d hy) ?_
 first | rfl | (funext i; simp only [lookO_cons, upd]; ((repeat' split) <;> first | rfl | (exfalso; omega)))
theorem put4_ (bo : Nat) (y m d : Int) (hy : YMD y m d) :
  SpG g 124 [.c (.bx 0 0), .agg [.d (.s (S [68, 68])), .d (.b true)]] [(0, .box ⟨.c 153, some bo⟩ [.d (.i y), .d (.i m), .d (.i d), .bx 0 3, .ar 1 0]), (1, .arr 0 5 1 (dE y m d 4))] (.tup []) [(1, .arr 0 5 1 (dE y m d 5)), (0, .box ⟨.c 153, some bo⟩ [.d (.i y), .d (.i m), .d (.i d), .bx 0 3, .ar 1 0])] := by
 have hdl := dE_len hy 4
 have p1 := padL_len (n := y) (k := 4) (by have := hy.y1; omega) (by decide)
 have p2 := padL_len (n := m) (k := 2) (by have := hy.m1; omega) (by decide)
 have p3 := padL_len (n := d) (k := 2) (by have := hy.d1; omega) (by decide)
 obtain ⟨y0, y1, m0, m1, d0, d1⟩ := hy
 refine enterB 57 Tryz.func124 (by kernel_rfl) fun fr hG => ?_
 refine zC hG [] [1, 0, 1] (false) (⟨[(0, [], .c (.bx 0 0)), (3, [], .c (.bx 100 0))], [(0, .box ⟨.c 153, some bo⟩ [.d (.i y), .d (.i m), .d (.i d), .bx 0 3, .ar 1 0]), (1, .arr 0 5 1 (dE y m d 4)), (100, .box 159 [.d (.s (S [68, 68])), .d (.b true)])]⟩) (by kernel_rfl) conj0 (fun hc1 => absurd hc1 (by decide)) (fun _ => ?_)
 refine zc hG [] [1, 1, 1, 0, 1] (false) (by kernel_rfl) (conj1 (show (0 : Int) ≤ 0 ∧ 0 < ((S [68, 68]).size : Int) from (by decide))) (fun hc2 => absurd hc2 (by decide)) (fun _ => ?_)
 refine zc hG [] [1, 1, 1, 1, 1, 0, 1] (false) (by kernel_rfl) (conj1 (show (0 : Int) ≤ 0 ∧ 0 < ((S [68, 68]).size : Int) from (by decide))) (fun hc3 => absurd hc3 (by decide)) (fun _ => ?_)
 exact zr hG [(1, 10, .call (.c (.d (.s (S (padL d 2))))) [] []), (1, 11, .callG (.tup [(false, [.d (.i ((S (padL d 2)).size : Int))]), (false, [.d (.v (.nilIface))])]) [0, 1] [(0, .box ⟨.c 153, some bo⟩ [.d (.i y), .d (.i m), .d (.i d), .bx 0 3, .ar 1 0]), (1, .arr 0 5 1 ((dE y m d 4) ++ bytesD (S (padL d 2)).data.toList))])] [] (by kernel_rfl) (conjC ((padded_ok d 2 (by omega) (by omega) (by decide) (by decide) : SpG g _ _ _ _ _)) (conj1 ((writeStringO_1 bo y m d (dE y m d 4) (S (padL d 2)) (by simp only [zq16] at *; omega) : SpG g _ _ _ _ _))))
theorem put4 (bo : Nat) (y m d : Int) (hy : YMD y m d) :
  SpG g 124 [.c (.bx 0 0), .agg [.d (.s (S [68, 68])), .d (.b true)]] [(0, .box ⟨.c 153, some bo⟩ [.d (.i y), .d (.i m), .d (.i d), .bx 0 3, .ar 1 0]), (1, .arr 0 5 1 (dE y m d 4))] (.tup []) [(0, .box ⟨.c 153, some bo⟩ [.d (.i y), .d (.i m), .d (.i d), .bx 0 3, .ar 1 0]), (1, .arr 0 5 1 (dE y m d 5))] := by
 refine spec_look (put4_ bo y m d hy) ?_
 first | rfl | (funext i; simp only [lookO_cons, upd]; ((repeat' split) <;> first | rfl | (exfalso; omega)))
theorem formatY0 (bo bw D l : Nat) (y m d : Int) (hy : YMD y m d) (fn : FuncId) (tm : Array Value) (h11 : tm.getD 11 undef = .pointer (some ⟨bw, 0, none⟩)) (hn : tm.size = 44) :
  YSpec Tryz.prog (Gl g) l [.agg [.d (.s (S [89, 89, 89, 89])), .d (.b true)]] [(0, .box ⟨.raw (.loop (recOf (bodyOf Tryz.f82) [0, 1, 0, 1, 1, 1, 1, 1] fn tm D)), some l⟩ []), (1, .box ⟨.c 153, some bo⟩ [.d (.i y), .d (.i m), .d (.i d), .d (.v (.pointer none)), .d (.nil)]), (2, .box ⟨.c 154, some bw⟩ [.fn 124 [(1, 0)] []])] (.c (.d (.b true))) [(0, .box ⟨.raw (.loop (recOf (bodyOf Tryz.f82) [0, 1, 0, 1, 1, 1, 1, 1] fn tm D)), some l⟩ []), (1, .box ⟨.c 153, some bo⟩ [.d (.i y), .d (.i m), .d (.i d), .bx 1 3, .ar 100 0]), (2, .box ⟨.c 154, some bw⟩ [.fn 124 [(1, 0)] []]), (100, .arr 0 5 1 (dE y m d 1))] := by
 refine enterY (iL := 0) (p := 36) (env0 := [(11, [], .c (.bx 2 0))]) (n := 44) (r := (recOf (bodyOf Tryz.f82) [0, 1, 0, 1, 1, 1, 1, 1] fn tm D)) rfl (by kernel_rfl) hn (by decide) ⟨rfl, ⟨_, _, _, rfl, rfl, h11⟩, trivial⟩ rfl fun fr hG => ?_
 refine stepB hG hmix [] (⟨[(11, [], .c (.bx 2 0)), (12, [], .c (.bx 800 0))], [(0, .box ⟨.raw (.loop (recOf (bodyOf Tryz.f82) [0, 1, 0, 1, 1, 1, 1, 1] fn tm D)), some l⟩ []), (1, .box ⟨.c 153, some bo⟩ [.d (.i y), .d (.i m), .d (.i d), .d (.v (.pointer none)), .d (.nil)]), (2, .box ⟨.c 154, some bw⟩ [.fn 124 [(1, 0)] []]), (800, .box 159 [.d (.s (S [89, 89, 89, 89])), .d (.b true)])]⟩) 0 (r := (recOf (bodyOf Tryz.f82) [0, 1, 0, 1, 1, 1, 1, 1] fn tm D)) (by kernel_rfl) conj0 rfl rfl ?_
 refine stepK hG (⟨[(11, [], .c (.bx 2 0)), (12, [], .c (.bx 800 0))], [(0, .box ⟨.raw (.loop { (recOf (bodyOf Tryz.f82) [0, 1, 0, 1, 1, 1, 1, 1] fn tm D) with state := .busy }), some l⟩ []), (1, .box ⟨.c 153, some bo⟩ [.d (.i y), .d (.i m), .d (.i d), .d (.v (.pointer none)), .d (.nil)]), (2, .box ⟨.c 154, some bw⟩ [.fn 124 [(1, 0)] []]), (800, .box 159 [.d (.s (S [89, 89, 89, 89])), .d (.b true)])]⟩) (by kernel_rfl) ?_
 refine stepY hG hmix [(8, 2, .callG (.tup []) [1] [(0, .box ⟨.c 153, some bo⟩ [.d (.i y), .d (.i m), .d (.i d), .bx 0 3, .ar 100 0]), (100, .arr 0 5 1 (dE y m d 1))])] [902] 0 .normal [(0, .box ⟨.raw (endL { (recOf (bodyOf Tryz.f82) [0, 1, 0, 1, 1, 1, 1, 1] fn tm D) with state := .busy } .normal), some l⟩ []), (100, .arr 0 5 1 (dE y m d 1)), (1, .box ⟨.c 153, some bo⟩ [.d (.i y), .d (.i m), .d (.i d), .bx 1 3, .ar 100 0]), (2, .box ⟨.c 154, some bw⟩ [.fn 124 [(1, 0)] []])] (by kernel_rfl) (conj1 ((put0 bo y m d hy : SpG g _ _ _ _ _))) ?_ ?_
 ·rfl
 ·funext i; simp only [lookO_cons, upd]; (repeat' split) <;> first | rfl | (exfalso; omega)
theorem formatY1 (bo bw D l : Nat) (y m d : Int) (hy : YMD y m d) (fn : FuncId) (tm : Array Value) (h11 : tm.getD 11 undef = .pointer (some ⟨bw, 0, none⟩)) (hn : tm.size = 44) :
  YSpec Tryz.prog (Gl g) l [.agg [.d (.s (S [45])), .d (.b false)]] [(0, .box ⟨.raw (.loop (recOf (bodyOf Tryz.f82) [0, 1, 0, 1, 1, 1, 1, 1] fn tm D)), some l⟩ []), (1, .box ⟨.c 153, some bo⟩ [.d (.i y), .d (.i m), .d (.i d), .bx 1 3, .ar 3 0]), (2, .box ⟨.c 154, some bw⟩ [.fn 124 [(1, 0)] []]), (3, .arr 0 5 1 (dE y m d 1))] (.c (.d (.b true))) [(0, .box ⟨.raw (.loop (recOf (bodyOf Tryz.f82) [0, 1, 0, 1, 1, 1, 1, 1] fn tm D)), some l⟩ []), (1, .box ⟨.c 153, some bo⟩ [.d (.i y), .d (.i m), .d (.i d), .bx 1 3, .ar 3 0]), (2, .box ⟨.c 154, some bw⟩ [.fn 124 [(1, 0)] []]), (3, .arr 0 5 1 (dE y m d 2))] := by
 refine enterY (iL := 0) (p := 36) (env0 := [(11, [], .c (.bx 2 0))]) (n := 44) (r := (recOf (bodyOf Tryz.f82) [0, 1, 0, 1, 1, 1, 1, 1] fn tm D)) rfl (by kernel_rfl) hn (by decide) ⟨rfl, ⟨_, _, _, rfl, rfl, h11⟩, trivial⟩ rfl fun fr hG => ?_
 refine stepB hG hmix [] (⟨[(11, [], .c (.bx 2 0)), (12, [], .c (.bx 800 0))], [(0, .box ⟨.raw (.loop (recOf (bodyOf Tryz.f82) [0, 1, 0, 1, 1, 1, 1, 1] fn tm D)), some l⟩ []), (1, .box ⟨.c 153, some bo⟩ [.d (.i y), .d (.i m), .d (.i d), .bx 1 3, .ar 3 0]), (2, .box ⟨.c 154, some bw⟩ [.fn 124 [(1, 0)] []]), (3, .arr 0 5 1 (dE y m d 1)), (800, .box 159 [.d (.s (S [45])), .d (.b false)])]⟩) 0 (r := (recOf (bodyOf Tryz.f82) [0, 1, 0, 1, 1, 1, 1, 1] fn tm D)) (by kernel_rfl) conj0 rfl rfl ?_
 refine stepK hG (⟨[(11, [], .c (.bx 2 0)), (12, [], .c (.bx 800 0))], [(0, .box ⟨.raw (.loop { (recOf (bodyOf Tryz.f82) [0, 1, 0, 1, 1, 1, 1, 1] fn tm D) with state := .busy }), some l⟩ []), (1, .box ⟨.c 153, some bo⟩ [.d (.i y), .d (.i m), .d (.i d), .bx 1 3, .ar 3 0]), (2, .box ⟨.c 154, some bw⟩ [.fn 124 [(1, 0)] []]), (3, .arr 0 5 1 (dE y m d 1)), (800, .box 159 [.d (.s (S [45])), .d (.b false)])]⟩) (by kernel_rfl) ?_
 refine stepY hG hmix [(8, 2, .callG (.tup []) [1, 3] [(0, .box ⟨.c 153, some bo⟩ [.d (.i y), .d (.i m), .d (.i d), .bx 0 3, .ar 1 0]), (1, .arr 0 5 1 (dE y m d 2))])] [] 0 .normal [(0, .box ⟨.raw (endL { (recOf (bodyOf Tryz.f82) [0, 1, 0, 1, 1, 1, 1, 1] fn tm D) with state := .busy } .normal), some l⟩ []), (3, .arr 0 5 1 (dE y m d 2)), (1, .box ⟨.c 153, some bo⟩ [.d (.i y), .d (.i m), .d (.i d), .bx 1 3, .ar 3 0]), (2, .box ⟨.c 154, some bw⟩ [.fn 124 [(1, 0)] []])] (by kernel_rfl) (conj1 ((put1 bo y m d hy : SpG g _ _ _ _ _))) ?_ ?_
 ·rfl
 ·funext i; simp only [lookO_cons, upd]; (repeat' split) <;> first | rfl | (exfalso; omega)
theorem formatY2 (bo bw D l : Nat) (y m d : Int) (hy : YMD y m d) (fn : FuncId) (tm : Array Value) (h11 : tm.getD 11 undef = .pointer (some ⟨bw, 0, none⟩)) (hn : tm.size = 44) :
  YSpec Tryz.prog (Gl g) l [.agg [.d (.s (S [77, 77])), .d (.b true)]] [(0, .box ⟨.raw (.loop (recOf (bodyOf Tryz.f82) [0, 1, 0, 1, 1, 1, 1, 1] fn tm D)), some l⟩ []), (1, .box ⟨.c 153, some bo⟩ [.d (.i y), .d (.i m), .d (.i d), .bx 1 3, .ar 3 0]), (2, .box ⟨.c 154, some bw⟩ [.fn 124 [(1, 0)] []]), (3, .arr 0 5 1 (dE y m d 2))] (.c (.d (.b true))) [(0, .box ⟨.raw (.loop (recOf (bodyOf Tryz.f82) [0, 1, 0, 1, 1, 1, 1, 1] fn tm D)), some l⟩ []), (1, .box ⟨.c 153, some bo⟩ [.d (.i y), .d (.i m), .d (.i d), .bx 1 3, .ar 3 0]), (2, .box ⟨.c 154, some bw⟩ [.fn 124 [(1, 0)] []]), (3, .arr 0 5 1 (dE y m d 3))] := by
 refine enterY (iL := 0) (p := 36) (env0 := [(11, [], .c (.bx 2 0))]) (n := 44) (r := (recOf (bodyOf Tryz.f82) [0, 1, 0, 1, 1, 1, 1, 1] fn tm D)) rfl (by kernel_rfl) hn (by decide) ⟨rfl, ⟨_, _, _, rfl, rfl, h11⟩, trivial⟩ rfl fun fr hG => ?_
 refine stepB hG hmix [] (⟨[(11, [], .c (.bx 2 0)), (12, [], .c (.bx 800 0))], [(0, .box ⟨.raw (.loop (recOf (bodyOf Tryz.f82) [0, 1, 0, 1, 1, 1, 1, 1] fn tm D)), some l⟩ []), (1, .box ⟨.c 153, some bo⟩ [.d (.i y), .d (.i m), .d (.i d), .bx 1 3, .ar 3 0]), (2, .box ⟨.c 154, some bw⟩ [.fn 124 [(1, 0)] []]), (3, .arr 0 5 1 (dE y m d 2)), (800, .box 159 [.d (.s (S [77, 77])), .d (.b true)])]⟩) 0 (r := (recOf (bodyOf Tryz.f82) [0, 1, 0, 1, 1, 1, 1, 1] fn tm D)) (by kernel_rfl) conj0 rfl rfl ?_
 refine stepK hG (⟨[(11, [], .c (.bx 2 0)), (12, [], .c (.bx 800 0))], [(0, .box ⟨.raw (.loop { (recOf (bodyOf Tryz.f82) [0, 1, 0, 1, 1, 1, 1, 1] fn tm D) with state := .busy }), some l⟩ []), (1, .box ⟨.c 153, some bo⟩ [.d (.i y), .d (.i m), .d (.i d), .bx 1 3, .ar 3 0]), (2, .box ⟨.c 154, some bw⟩ [.fn 124 [(1, 0)] []]), (3, .arr 0 5 1 (dE y m d 2)), (800, .box 159 [.d (.s (S [77, 77])), .d (.b true)])]⟩) (by kernel_rfl) ?_
 refine stepY hG hmix [(8, 2, .callG (.tup []) [1, 3] [(0, .box ⟨.c 153, some bo⟩ [.d (.i y), .d (.i m), .d (.i d), .bx 0 3, .ar 1 0]), (1, .arr 0 5 1 (dE y m d 3))])] [] 0 .normal [(0, .box ⟨.raw (endL { (recOf (bodyOf Tryz.f82) [0, 1, 0, 1, 1, 1, 1, 1] fn tm D) with state := .busy } .normal), some l⟩ []), (3, .arr 0 5 1 (dE y m d 3)), (1, .box ⟨.c 153, some bo⟩ [.d (.i y), .d (.i m), .d (.i d), .bx 1 3, .ar 3 0]), (2, .box ⟨.c 154, some bw⟩ [.fn 124 [(1, 0)] []])] (by kernel_rfl) (conj1 ((put2 bo y m d hy : SpG g _ _ _ _ _))) ?_ ?_
 ·rfl
 ·funext i; simp only [lookO_cons, upd]; (repeat' split) <;> first | rfl | (exfalso; omega)
theorem formatY3 (bo bw D l : Nat) (y m d : Int) (hy : YMD y m d) (fn : FuncId) (tm : Array Value) (h11 : tm.getD 11 undef = .pointer (some ⟨bw, 0, none⟩)) (hn : tm.size = 44) :
  YSpec Tryz.prog (Gl g) l [.agg [.d (.s (S [45])), .d (.b false)]] [(0, .box ⟨.raw (.loop (recOf (bodyOf Tryz.f82) [0, 1, 0, 1, 1, 1, 1, 1] fn tm D)), some l⟩ []), (1, .box ⟨.c 153, some bo⟩ [.d (.i y), .d (.i m), .d (.i d), .bx 1 3, .ar 3 0]), (2, .box ⟨.c 154, some bw⟩ [.fn 124 [(1, 0)] []]), (3, .arr 0 5 1 (dE y m d 3))] (.c (.d (.b true))) [(0, .box ⟨.raw (.loop (recOf (bodyOf Tryz.f82) [0, 1, 0, 1, 1, 1, 1, 1] fn tm D)), some l⟩ []), (1, .box ⟨.c 153, some bo⟩ [.d (.i y), .d (.i m), .d (.i d), .bx 1 3, .ar 3 0]), (2, .box ⟨.c 154, some bw⟩ [.fn 124 [(1, 0)] []]), (3, .arr 0 5 1 (dE y m d 4))] := by
 refine enterY (iL := 0) (p := 36) (env0 := [(11, [], .c (.bx 2 0))]) (n := 44) (r := (recOf (bodyOf Tryz.f82) [0, 1, 0, 1, 1, 1, 1, 1] fn tm D)) rfl (by kernel_rfl) hn (by decide) ⟨rfl, ⟨_, _, _, rfl, rfl, h11⟩, trivial⟩ rfl fun fr hG => ?_
 refine stepB hG hmix [] (⟨[(11, [], .c (.bx 2 0)), (12, [], .c (.bx 800 0))], [(0, .box ⟨.raw (.loop (recOf (bodyOf Tryz.f82) [0, 1, 0, 1, 1, 1, 1, 1] fn tm D)), some l⟩ []), (1, .box ⟨.c 153, some bo⟩ [.d (.i y), .d (.i m), .d (.i d), .bx 1 3, .ar 3 0]), (2, .box ⟨.c 154, some bw⟩ [.fn 124 [(1, 0)] []]), (3, .arr 0 5 1 (dE y m d 3)), (800, .box 159 [.d (.s (S [45])), .d (.b false)])]⟩) 0 (r := (recOf (bodyOf Tryz.f82) [0, 1, 0, 1, 1, 1, 1, 1] fn tm D)) (by kernel_rfl) conj0 rfl rfl ?_
 refine stepK hG (⟨[(11, [], .c (.bx 2 0)), (12, [], .c (.bx 800 0))], [(0, .box ⟨.raw (.loop { (recOf (bodyOf Tryz.f82) [0, 1, 0, 1, 1, 1, 1, 1] fn tm D) with state := .busy }), some l⟩ []), (1, .box ⟨.c 153, some bo⟩ [.d (.i y), .d (.i m), .d (.i d), .bx 1 3, .ar 3 0]), (2, .box ⟨.c 154, some bw⟩ [.fn 124 [(1, 0)] []]), (3, .arr 0 5 1 (dE y m d 3)), (800, .box 159 [.d (.s (S [45])), .d (.b false)])]⟩) (by kernel_rfl) ?_
 refine stepY hG hmix [(8, 2, .callG (.tup []) [1, 3] [(0, .box ⟨.c 153, some bo⟩ [.d (.i y), .d (.i m), .d (.i d), .bx 0 3, .ar 1 0]), (1, .arr 0 5 1 (dE y m d 4))])] [] 0 .normal [(0, .box ⟨.raw (endL { (recOf (bodyOf Tryz.f82) [0, 1, 0, 1, 1, 1, 1, 1] fn tm D) with state := .busy } .normal), some l⟩ []), (3, .arr 0 5 1 (dE y m d 4)), (1, .box ⟨.c 153, some bo⟩ [.d (.i y), .d (.i m), .d (.i d), .bx 1 3, .ar 3 0]), (2, .box ⟨.c 154, some bw⟩ [.fn 124 [(1, 0)] []])] (by kernel_rfl) (conj1 ((put3 bo y m d hy : SpG g _ _ _ _ _))) ?_ ?_
 ·rfl
 ·funext i; simp only [lookO_cons, upd]; (repeat' split) <;> first | rfl | (exfalso; omega)
theorem formatY4 (bo bw D l : Nat) (y m d : Int) (hy : YMD y m d) (fn : FuncId) (tm : Array Value) (h11 : tm.getD 11 undef = .pointer (some ⟨bw, 0, none⟩)) (hn : tm.size = 44) :
  YSpec Tryz.prog (Gl g) l [.agg [.d (.s (S [68, 68])), .d (.b true)]] [(0, .box ⟨.raw (.loop (recOf (bodyOf Tryz.f82) [0, 1, 0, 1, 1, 1, 1, 1] fn tm D)), some l⟩ []), (1, .box ⟨.c 153, some bo⟩ [.d (.i y), .d (.i m), .d (.i d), .bx 1 3, .ar 3 0]), (2, .box ⟨.c 154, some bw⟩ [.fn 124 [(1, 0)] []]), (3, .arr 0 5 1 (dE y m d 4))] (.c (.d (.b true))) [(0, .box ⟨.raw (.loop (recOf (bodyOf Tryz.f82) [0, 1, 0, 1, 1, 1, 1, 1] fn tm D)), some l⟩ []), (1, .box ⟨.c 153, some bo⟩ [.d (.i y), .d (.i m), .d (.i d), .bx 1 3, .ar 3 0]), (2, .box ⟨.c 154, some bw⟩ [.fn 124 [(1, 0)] []]), (3, .arr 0 5 1 (dE y m d 5))] := by
 refine enterY (iL := 0) (p := 36) (env0 := [(11, [], .c (.bx 2 0))]) (n := 44) (r := (recOf (bodyOf Tryz.f82) [0, 1, 0, 1, 1, 1, 1, 1] fn tm D)) rfl (by kernel_rfl) hn (by decide) ⟨rfl, ⟨_, _, _, rfl, rfl, h11⟩, trivial⟩ rfl fun fr hG => ?_
 refine stepB hG hmix [] (⟨[(11, [], .c (.bx 2 0)), (12, [], .c (.bx 800 0))], [(0, .box ⟨.raw (.loop (recOf (bodyOf Tryz.f82) [0, 1, 0, 1, 1, 1, 1, 1] fn tm D)), some l⟩ []), (1, .box ⟨.c 153, some bo⟩ [.d (.i y), .d (.i m), .d (.i d), .bx 1 3, .ar 3 0]), (2, .box ⟨.c 154, some bw⟩ [.fn 124 [(1, 0)] []]), (3, .arr 0 5 1 (dE y m d 4)), (800, .box 159 [.d (.s (S [68, 68])), .d (.b true)])]⟩) 0 (r := (recOf (bodyOf Tryz.f82) [0, 1, 0, 1, 1, 1, 1, 1] fn tm D)) (by kernel_rfl) conj0 rfl rfl ?_
 refine stepK hG (⟨[(11, [], .c (.bx 2 0)), (12, [], .c (.bx 800 0))], [(0, .box ⟨.raw (.loop { (recOf (bodyOf Tryz.f82) [0, 1, 0, 1, 1, 1, 1, 1] fn tm D) with state := .busy }), some l⟩ []), (1, .box ⟨.c 153, some bo⟩ [.d (.i y), .d (.i m), .d (.i d), .bx 1 3, .ar 3 0]), (2, .box ⟨.c 154, some bw⟩ [.fn 124 [(1, 0)] []]), (3, .arr 0 5 1 (dE y m d 4)), (800, .box 159 [.d (.s (S [68, 68])), .d (.b true)])]⟩) (by kernel_rfl) ?_
 refine stepY hG hmix [(8, 2, .callG (.tup []) [1, 3] [(0, .box ⟨.c 153, some bo⟩ [.d (.i y), .d (.i m), .d (.i d), .bx 0 3, .ar 1 0]), (1, .arr 0 5 1 (dE y m d 5))])] [] 0 .normal [(0, .box ⟨.raw (endL { (recOf (bodyOf Tryz.f82) [0, 1, 0, 1, 1, 1, 1, 1] fn tm D) with state := .busy } .normal), some l⟩ []), (3, .arr 0 5 1 (dE y m d 5)), (1, .box ⟨.c 153, some bo⟩ [.d (.i y), .d (.i m), .d (.i d), .bx 1 3, .ar 3 0]), (2, .box ⟨.c 154, some bw⟩ [.fn 124 [(1, 0)] []])] (by kernel_rfl) (conj1 ((put4 bo y m d hy : SpG g _ _ _ _ _))) ?_ ?_
 ·rfl
 ·funext i; simp only [lookO_cons, upd]; (repeat' split) <;> first | rfl | (exfalso; omega)
noncomputable def itO (b0 bo bw D l : Nat) (y m d : Int) (fn : FuncId) (tm : Array Value) : Nat → OwnL
 | 0 => [(0, .box ⟨.c 9, some b0⟩ [.d (.s (S [89, 89, 89, 89, 45, 77, 77, 45, 68, 68]))]), (1, .box ⟨.raw (.loop (recOf (bodyOf Tryz.f82) [0, 1, 0, 1, 1, 1, 1, 1] fn tm D)), some l⟩ []), (2, .box ⟨.c 153, some bo⟩ [.d (.i y), .d (.i m), .d (.i d), .d (.v (.pointer none)), .d (.nil)]), (3, .box ⟨.c 154, some bw⟩ [.fn 124 [(2, 0)] []])]
 | 1 => [(0, .box ⟨.c 9, some b0⟩ [.d (.s (S [45, 77, 77, 45, 68, 68]))]), (1, .box ⟨.raw (.loop (recOf (bodyOf Tryz.f82) [0, 1, 0, 1, 1, 1, 1, 1] fn tm D)), some l⟩ []), (2, .box ⟨.c 153, some bo⟩ [.d (.i y), .d (.i m), .d (.i d), .bx 2 3, .ar 302 0]), (3, .box ⟨.c 154, some bw⟩ [.fn 124 [(2, 0)] []]), (302, .arr 0 5 1 (dE y m d 1))]
 | 2 => [(0, .box ⟨.c 9, some b0⟩ [.d (.s (S [77, 77, 45, 68, 68]))]), (1, .box ⟨.raw (.loop (recOf (bodyOf Tryz.f82) [0, 1, 0, 1, 1, 1, 1, 1] fn tm D)), some l⟩ []), (2, .box ⟨.c 153, some bo⟩ [.d (.i y), .d (.i m), .d (.i d), .bx 2 3, .ar 302 0]), (3, .box ⟨.c 154, some bw⟩ [.fn 124 [(2, 0)] []]), (302, .arr 0 5 1 (dE y m d 2))]
 | 3 => [(0, .box ⟨.c 9, some b0⟩ [.d (.s (S [45, 68, 68]))]), (1, .box ⟨.raw (.loop (recOf (bodyOf Tryz.f82) [0, 1, 0, 1, 1, 1, 1, 1] fn tm D)), some l⟩ []), (2, .box ⟨.c 153, some bo⟩ [.d (.i y), .d (.i m), .d (.i d), .bx 2 3, .ar 302 0]), (3, .box ⟨.c 154, some bw⟩ [.fn 124 [(2, 0)] []]), (302, .arr 0 5 1 (dE y m d 3))]
 | 4 => [(0, .box ⟨.c 9, some b0⟩ [.d (.s (S [68, 68]))]), (1, .box ⟨.raw (.loop (recOf (bodyOf Tryz.f82) [0, 1, 0, 1, 1, 1, 1, 1] fn tm D)), some l⟩ []), (2, .box ⟨.c 153, some bo⟩ [.d (.i y), .d (.i m), .d (.i d), .bx 2 3, .ar 302 0]), (3, .box ⟨.c 154, some bw⟩ [.fn 124 [(2, 0)] []]), (302, .arr 0 5 1 (dE y m d 4))]
 | _ => [(0, .box ⟨.c 9, some b0⟩ [.d (.s (S []))]), (1, .box ⟨.raw (.loop (recOf (bodyOf Tryz.f82) [0, 1, 0, 1, 1, 1, 1, 1] fn tm D)), some l⟩ []), (2, .box ⟨.c 153, some bo⟩ [.d (.i y), .d (.i m), .d (.i d), .bx 2 3, .ar 302 0]), (3, .box ⟨.c 154, some bw⟩ [.fn 124 [(2, 0)] []]), (302, .arr 0 5 1 (dE y m d 5))]
theorem format_it_ (b0 : Nat) (bo bw D l : Nat) (y m d : Int) (hy : YMD y m d) (fn : FuncId) (tm : Array Value) (h11 : tm.getD 11 undef = .pointer (some ⟨bw, 0, none⟩)) (hn : tm.size = 44) :
  SpG g 172 [.c (.d (.v (.func (.yield l) #[] #[]))), .c (.bx 0 0)] [(0, .box ⟨.c 9, some b0⟩ [.d (.s (S [89, 89, 89, 89, 45, 77, 77, 45, 68, 68]))]), (1, .box ⟨.raw (.loop (recOf (bodyOf Tryz.f82) [0, 1, 0, 1, 1, 1, 1, 1] fn tm D)), some l⟩ []), (2, .box ⟨.c 153, some bo⟩ [.d (.i y), .d (.i m), .d (.i d), .d (.v (.pointer none)), .d (.nil)]), (3, .box ⟨.c 154, some bw⟩ [.fn 124 [(2, 0)] []])] (.tup []) [(0, .box ⟨.c 9, some b0⟩ [.d (.s (S []))]), (1, .box ⟨.raw (.loop (recOf (bodyOf Tryz.f82) [0, 1, 0, 1, 1, 1, 1, 1] fn tm D)), some l⟩ []), (2, .box ⟨.c 153, some bo⟩ [.d (.i y), .d (.i m), .d (.i d), .bx 2 3, .ar 100 0]), (3, .box ⟨.c 154, some bw⟩ [.fn 124 [(2, 0)] []]), (100, .arr 0 5 1 (dE y m d 5))] := by
 refine enterB 17 Tryz.func172 (by kernel_rfl) fun fr hG => ?_
 refine zL hG [] [0] (fun (zz : Nat) => match zz with | k => (6 - k, ⟨[(0, [], .c (.d (.v (.func (.yield l) #[] #[])))), (1, [], .c (.bx 0 0))], itO b0 bo bw D l y m d fn tm k⟩, k ≤ 5)) 0 (by kernel_rfl) conj0 (by kernel_rfl) ?_ ?_
 ·exact Nat.zero_le _
 rintro k hI
 rcases (by omega : k = 0 ∨ k = 1 ∨ k = 2 ∨ k = 3 ∨ k = 4 ∨ k = 5) with rfl | rfl | rfl | rfl | rfl | rfl
 ·skip
  refine zc hG [] [1, 0] (true) (by kernel_rfl) conj0 (fun _ => ?_) (fun hc2 => absurd hc2 (by decide))
  refine zC hG [(1, 1, .call (.agg [.d (.s (S [89, 89, 89, 89])), .d (.b true)]) [] []), (2, 2, .callG (.c (.d (.b true))) [1, 2, 3] [(0, .box ⟨.raw (.loop (recOf (bodyOf Tryz.f82) [0, 1, 0, 1, 1, 1, 1, 1] fn tm D)), some l⟩ []), (1, .box ⟨.c 153, some bo⟩ [.d (.i y), .d (.i m), .d (.i d), .bx 1 3, .ar 100 0]), (2, .box ⟨.c 154, some bw⟩ [.fn 124 [(1, 0)] []]), (100, .arr 0 5 1 (dE y m d 1))])] [1, 0, 1, 0, 1] (false) (⟨[(0, [], .c (.d (.v (.func (.yield l) #[] #[])))), (1, [], .c (.bx 0 0)), (3, [], .c (.bx 202 0))], [(0, .box ⟨.c 9, some b0⟩ [.d (.s (S [89, 89, 89, 89, 45, 77, 77, 45, 68, 68]))]), (1, .box ⟨.raw (.loop (recOf (bodyOf Tryz.f82) [0, 1, 0, 1, 1, 1, 1, 1] fn tm D)), some l⟩ []), (2, .box ⟨.c 153, some bo⟩ [.d (.i y), .d (.i m), .d (.i d), .bx 2 3, .ar 302 0]), (3, .box ⟨.c 154, some bw⟩ [.fn 124 [(2, 0)] []]), (202, .box 159 [.d (.s (S [89, 89, 89, 89])), .d (.b true)]), (302, .arr 0 5 1 (dE y m d 1))]⟩) (by kernel_rfl) (conjC ((first0 : SpG g _ _ _ _ _)) (conj1 ((formatY0 bo bw D l y m d hy fn tm h11 hn : YSpec Tryz.prog (Gl g) _ _ _ _ _)))) (fun hc3 => absurd hc3 (by decide)) (fun _ => ?_)
  refine zD hG [] 1 (by kernel_rfl) (conj1 (show (0 : Int) ≤ 4 ∧ (4 : Int) ≤ ((S [89, 89, 89, 89, 45, 77, 77, 45, 68, 68]).size : Int) ∧ ((S [89, 89, 89, 89, 45, 77, 77, 45, 68, 68]).size : Int) ≤ ((S [89, 89, 89, 89, 45, 77, 77, 45, 68, 68]).size : Int) from (by decide))) ?_ ?_
  ·(try dsimp only); decide
  ·(try dsimp only); decide
 ·skip
  refine zc hG [] [1, 0] (true) (by kernel_rfl) conj0 (fun _ => ?_) (fun hc4 => absurd hc4 (by decide))
  refine zC hG [(1, 1, .call (.agg [.d (.s (S [45])), .d (.b false)]) [] []), (2, 2, .callG (.c (.d (.b true))) [1, 2, 3, 302] [(0, .box ⟨.raw (.loop (recOf (bodyOf Tryz.f82) [0, 1, 0, 1, 1, 1, 1, 1] fn tm D)), some l⟩ []), (1, .box ⟨.c 153, some bo⟩ [.d (.i y), .d (.i m), .d (.i d), .bx 1 3, .ar 3 0]), (2, .box ⟨.c 154, some bw⟩ [.fn 124 [(1, 0)] []]), (3, .arr 0 5 1 (dE y m d 2))])] [1, 0, 1, 0, 1] (false) (⟨[(0, [], .c (.d (.v (.func (.yield l) #[] #[])))), (1, [], .c (.bx 0 0)), (3, [], .c (.bx 202 0))], [(0, .box ⟨.c 9, some b0⟩ [.d (.s (S [45, 77, 77, 45, 68, 68]))]), (1, .box ⟨.raw (.loop (recOf (bodyOf Tryz.f82) [0, 1, 0, 1, 1, 1, 1, 1] fn tm D)), some l⟩ []), (2, .box ⟨.c 153, some bo⟩ [.d (.i y), .d (.i m), .d (.i d), .bx 2 3, .ar 302 0]), (3, .box ⟨.c 154, some bw⟩ [.fn 124 [(2, 0)] []]), (202, .box 159 [.d (.s (S [45])), .d (.b false)]), (302, .arr 0 5 1 (dE y m d 2))]⟩) (by kernel_rfl) (conjC ((first1 : SpG g _ _ _ _ _)) (conj1 ((formatY1 bo bw D l y m d hy fn tm h11 hn : YSpec Tryz.prog (Gl g) _ _ _ _ _)))) (fun hc5 => absurd hc5 (by decide)) (fun _ => ?_)
  refine zD hG [] 2 (by kernel_rfl) (conj1 (show (0 : Int) ≤ 1 ∧ (1 : Int) ≤ ((S [45, 77, 77, 45, 68, 68]).size : Int) ∧ ((S [45, 77, 77, 45, 68, 68]).size : Int) ≤ ((S [45, 77, 77, 45, 68, 68]).size : Int) from (by decide))) ?_ ?_
  ·(try dsimp only); decide
  ·(try dsimp only); decide
 ·skip
  refine zc hG [] [1, 0] (true) (by kernel_rfl) conj0 (fun _ => ?_) (fun hc6 => absurd hc6 (by decide))
  refine zC hG [(1, 1, .call (.agg [.d (.s (S [77, 77])), .d (.b true)]) [] []), (2, 2, .callG (.c (.d (.b true))) [1, 2, 3, 302] [(0, .box ⟨.raw (.loop (recOf (bodyOf Tryz.f82) [0, 1, 0, 1, 1, 1, 1, 1] fn tm D)), some l⟩ []), (1, .box ⟨.c 153, some bo⟩ [.d (.i y), .d (.i m), .d (.i d), .bx 1 3, .ar 3 0]), (2, .box ⟨.c 154, some bw⟩ [.fn 124 [(1, 0)] []]), (3, .arr 0 5 1 (dE y m d 3))])] [1, 0, 1, 0, 1] (false) (⟨[(0, [], .c (.d (.v (.func (.yield l) #[] #[])))), (1, [], .c (.bx 0 0)), (3, [], .c (.bx 202 0))], [(0, .box ⟨.c 9, some b0⟩ [.d (.s (S [77, 77, 45, 68, 68]))]), (1, .box ⟨.raw (.loop (recOf (bodyOf Tryz.f82) [0, 1, 0, 1, 1, 1, 1, 1] fn tm D)), some l⟩ []), (2, .box ⟨.c 153, some bo⟩ [.d (.i y), .d (.i m), .d (.i d), .bx 2 3, .ar 302 0]), (3, .box ⟨.c 154, some bw⟩ [.fn 124 [(2, 0)] []]), (202, .box 159 [.d (.s (S [77, 77])), .d (.b true)]), (302, .arr 0 5 1 (dE y m d 3))]⟩) (by kernel_rfl) (conjC ((first2 : SpG g _ _ _ _ _)) (conj1 ((formatY2 bo bw D l y m d hy fn tm h11 hn : YSpec Tryz.prog (Gl g) _ _ _ _ _)))) (fun hc7 => absurd hc7 (by decide)) (fun _ => ?_)
  refine zD hG [] 3 (by kernel_rfl) (conj1 (show (0 : Int) ≤ 2 ∧ (2 : Int) ≤ ((S [77, 77, 45, 68, 68]).size : Int) ∧ ((S [77, 77, 45, 68, 68]).size : Int) ≤ ((S [77, 77, 45, 68, 68]).size : Int) from (by decide))) ?_ ?_
  ·(try dsimp only); decide
  ·(try dsimp only); decide
 ·skip
  refine zc hG [] [1, 0] (true) (by kernel_rfl) conj0 (fun _ => ?_) (fun hc8 => absurd hc8 (by decide))
  refine zC hG [(1, 1, .call (.agg [.d (.s (S [45])), .d (.b false)]) [] []), (2, 2, .callG (.c (.d (.b true))) [1, 2, 3, 302] [(0, .box ⟨.raw (.loop (recOf (bodyOf Tryz.f82) [0, 1, 0, 1, 1, 1, 1, 1] fn tm D)), some l⟩ []), (1, .box ⟨.c 153, some bo⟩ [.d (.i y), .d (.i m), .d (.i d), .bx 1 3, .ar 3 0]), (2, .box ⟨.c 154, some bw⟩ [.fn 124 [(1, 0)] []]), (3, .arr 0 5 1 (dE y m d 4))])] [1, 0, 1, 0, 1] (false) (⟨[(0, [], .c (.d (.v (.func (.yield l) #[] #[])))), (1, [], .c (.bx 0 0)), (3, [], .c (.bx 202 0))], [(0, .box ⟨.c 9, some b0⟩ [.d (.s (S [45, 68, 68]))]), (1, .box ⟨.raw (.loop (recOf (bodyOf Tryz.f82) [0, 1, 0, 1, 1, 1, 1, 1] fn tm D)), some l⟩ []), (2, .box ⟨.c 153, some bo⟩ [.d (.i y), .d (.i m), .d (.i d), .bx 2 3, .ar 302 0]), (3, .box ⟨.c 154, some bw⟩ [.fn 124 [(2, 0)] []]), (202, .box 159 [.d (.s (S [45])), .d (.b false)]), (302, .arr 0 5 1 (dE y m d 4))]⟩) (by kernel_rfl) (conjC ((first3 : SpG g _ _ _ _ _)) (conj1 ((formatY3 bo bw D l y m d hy fn tm h11 hn : YSpec Tryz.prog (Gl g) _ _ _ _ _)))) (fun hc9 => absurd hc9 (by decide)) (fun _ => ?_)
  refine zD hG [] 4 (by kernel_rfl) (conj1 (show (0 : Int) ≤ 1 ∧ (1 : Int) ≤ ((S [45, 68, 68]).size : Int) ∧ ((S [45, 68, 68]).size : Int) ≤ ((S [45, 68, 68]).size : Int) from (by decide))) ?_ ?_
  ·(try dsimp only); decide
  ·(try dsimp only); decide
 ·skip
  refine zc hG [] [1, 0] (true) (by kernel_rfl) conj0 (fun _ => ?_) (fun hc10 => absurd hc10 (by decide))
  refine zC hG [(1, 1, .call (.agg [.d (.s (S [68, 68])), .d (.b true)]) [] []), (2, 2, .callG (.c (.d (.b true))) [1, 2, 3, 302] [(0, .box ⟨.raw (.loop (recOf (bodyOf Tryz.f82) [0, 1, 0, 1, 1, 1, 1, 1] fn tm D)), some l⟩ []), (1, .box ⟨.c 153, some bo⟩ [.d (.i y), .d (.i m), .d (.i d), .bx 1 3, .ar 3 0]), (2, .box ⟨.c 154, some bw⟩ [.fn 124 [(1, 0)] []]), (3, .arr 0 5 1 (dE y m d 5))])] [1, 0, 1, 0, 1] (false) (⟨[(0, [], .c (.d (.v (.func (.yield l) #[] #[])))), (1, [], .c (.bx 0 0)), (3, [], .c (.bx 202 0))], [(0, .box ⟨.c 9, some b0⟩ [.d (.s (S [68, 68]))]), (1, .box ⟨.raw (.loop (recOf (bodyOf Tryz.f82) [0, 1, 0, 1, 1, 1, 1, 1] fn tm D)), some l⟩ []), (2, .box ⟨.c 153, some bo⟩ [.d (.i y), .d (.i m), .d (.i d), .bx 2 3, .ar 302 0]), (3, .box ⟨.c 154, some bw⟩ [.fn 124 [(2, 0)] []]), (202, .box 159 [.d (.s (S [68, 68])), .d (.b true)]), (302, .arr 0 5 1 (dE y m d 5))]⟩) (by kernel_rfl) (conjC ((first4 : SpG g _ _ _ _ _)) (conj1 ((formatY4 bo bw D l y m d hy fn tm h11 hn : YSpec Tryz.prog (Gl g) _ _ _ _ _)))) (fun hc11 => absurd hc11 (by decide)) (fun _ => ?_)
  refine zD hG [] 5 (by kernel_rfl) (conj1 (show (0 : Int) ≤ 2 ∧ (2 : Int) ≤ ((S [68, 68]).size : Int) ∧ ((S [68, 68]).size : Int) ≤ ((S [68, 68]).size : Int) from (by decide))) ?_ ?_
  ·(try dsimp only); decide
  ·(try dsimp only); decide
 ·skip
  refine zc hG [] [1, 0] (false) (by kernel_rfl) conj0 (fun hc12 => absurd hc12 (by decide)) (fun _ => ?_)
  refine zE hG [] (.exit 0) (⟨[], [(0, .box ⟨.c 9, some b0⟩ [.d (.s (S []))]), (1, .box ⟨.raw (.loop (recOf (bodyOf Tryz.f82) [0, 1, 0, 1, 1, 1, 1, 1] fn tm D)), some l⟩ []), (2, .box ⟨.c 153, some bo⟩ [.d (.i y), .d (.i m), .d (.i d), .bx 2 3, .ar 302 0]), (3, .box ⟨.c 154, some bw⟩ [.fn 124 [(2, 0)] []]), (302, .arr 0 5 1 (dE y m d 5))]⟩) (by kernel_rfl) conj0 rfl ?_
  exact zr hG [] [302] (by kernel_rfl) conj0
theorem format_it (b0 : Nat) (bo bw D l : Nat) (y m d : Int) (hy : YMD y m d) (fn : FuncId) (tm : Array Value) (h11 : tm.getD 11 undef = .pointer (some ⟨bw, 0, none⟩)) (hn : tm.size = 44) :
  SpG g 172 [.c (.d (.v (.func (.yield l) #[] #[]))), .c (.bx 0 0)] [(0, .box ⟨.c 9, some b0⟩ [.d (.s (S [89, 89, 89, 89, 45, 77, 77, 45, 68, 68]))]), (1, .box ⟨.raw (.loop (recOf (bodyOf Tryz.f82) [0, 1, 0, 1, 1, 1, 1, 1] fn tm D)), some l⟩ []), (2, .box ⟨.c 153, some bo⟩ [.d (.i y), .d (.i m), .d (.i d), .d (.v (.pointer none)), .d (.nil)]), (3, .box ⟨.c 154, some bw⟩ [.fn 124 [(2, 0)] []])] (.tup []) [(0, .box ⟨.c 9, some b0⟩ [.d (.s (S []))]), (1, .box ⟨.raw (.loop (recOf (bodyOf Tryz.f82) [0, 1, 0, 1, 1, 1, 1, 1] fn tm D)), some l⟩ []), (2, .box ⟨.c 153, some bo⟩ [.d (.i y), .d (.i m), .d (.i d), .bx 2 3, .ar 100 0]), (3, .box ⟨.c 154, some bw⟩ [.fn 124 [(2, 0)] []]), (100, .arr 0 5 1 (dE y m d 5))] := by
 refine spec_look (format_it_ b0 bo bw D l y m d hy fn tm h11 hn) ?_
 first | rfl | (funext i; simp only [lookO_cons, upd]; ((repeat' split) <;> first | rfl | (exfalso; omega)))
theorem civ_ymd {n : Int} (h0 : 0 ≤ n) (h1 : n ≤ 3652058) : YMD (civ n).1 (civ n).2.1 (civ n).2.2 := by
 obtain ⟨a1, a2, a3, a4, a5, a6⟩ := civ_bd h0 h1
 exact ⟨by omega, by omega, by omega, by omega, by omega, by omega⟩
theorem format_ok (n : Int) (h0 : 0 ≤ n) (h1 : n ≤ 3652058) :
  SpG g 82 [.c (.d (.s (S [89, 89, 89, 89, 45, 77, 77, 45, 68, 68]))), .c (.d (.i n))] [] (.tup [(false, [.d (.s (S (dateText n)))]), (false, [.d (.b true)])]) [] := by
 refine enterM 44 Tryz.func82 (by kernel_rfl) fun fr hG => ?_
 refine zC hG [(1, 1, .call (.tup [(false, [.d (.i ((civ n).1))]), (false, [.d (.i ((civ n).2.1))]), (false, [.d (.i ((civ n).2.2))]), (false, [.d (.b true)])]) [] []), (2, 4, .call (.c (.d (.b true))) [] [])] [1, 0, 1, 1] (false) (⟨[(0, [], .c (.d (.s (S [89, 89, 89, 89, 45, 77, 77, 45, 68, 68])))), (4, [], .c (.d (.s (S [])))), (5, [], .c (.d (.b false))), (6, [], .c (.d (.i ((civ n).1)))), (7, [], .c (.d (.i ((civ n).2.1)))), (8, [], .c (.d (.i ((civ n).2.2))))], []⟩) (by kernel_rfl) (conjC ((civil_ok n h0 h1 : SpG g _ _ _ _ _)) (conj1 (fun (hg1 : false = false) => ((dateRight_ok : SpG g _ _ _ _ _))))) (fun hc1 => absurd hc1 (by decide)) (fun _ => ?_)
 refine stepL hG hmix [(6, 1, .call (.c (.fn 172 [] [(100, 0)])) [(100, .box 9 [.d (.s (S [89, 89, 89, 89, 45, 77, 77, 45, 68, 68]))])] [])] [0, 1, 0, 1, 1, 1, 1, 1] (⟨[(4, [], .c (.d (.s (S [])))), (5, [], .c (.d (.b false))), (10, [], .c (.bx 504 0)), (11, [], .c (.bx 602 0)), (35, [], .c (.fn 172 [] [(701, 0)]))], [(504, .box 153 [.d (.i ((civ n).1)), .d (.i ((civ n).2.1)), .d (.i ((civ n).2.2)), .d (.v (.pointer none)), .d (.nil)]), (602, .box 154 [.fn 124 [(504, 0)] []]), (701, .box 9 [.d (.s (S [89, 89, 89, 89, 45, 77, 77, 45, 68, 68]))])]⟩) _ (by kernel_rfl) (conj1 ((tokens_ok (S [89, 89, 89, 89, 45, 77, 77, 45, 68, 68]) : SpG g _ _ _ _ _))) ?_
 refine rangeR (g := 35) (ps := rgP (bodyOf Tryz.f82) [0, 1, 0, 1, 1, 1, 1, 1]) (assign := rgA (bodyOf Tryz.f82) [0, 1, 0, 1, 1, 1, 1, 1]) (body := rgB (bodyOf Tryz.f82) [0, 1, 0, 1, 1, 1, 1, 1]) hG (by kernel_rfl) 9900 9901 9910 (by kernel_rfl) rfl (by kernel_rfl) fun b D l fn tm hT hn => ?_
 refine ⟨.tup [], [701, 9901, 504, 602], [(0, .box ⟨.c 9, some (b 701)⟩ [.d (.s (S []))]), (1, .box ⟨.raw (.loop (recOf (bodyOf Tryz.f82) [0, 1, 0, 1, 1, 1, 1, 1] fn tm D)), some l⟩ []), (2, .box ⟨.c 153, some (b 504)⟩ [.d (.i ((civ n).1)), .d (.i ((civ n).2.1)), .d (.i ((civ n).2.2)), .bx 2 3, .ar 100 0]), (3, .box ⟨.c 154, some (b 602)⟩ [.fn 124 [(2, 0)] []]), (100, .arr 0 5 1 (dE (civ n).1 (civ n).2.1 (civ n).2.2 5))], none, ⟨[(4, [], .c (.d (.s (S [])))), (5, [], .c (.d (.b false))), (10, [], .c (.bx 504 0))], [(504, .box ⟨.c 153, some (b 504)⟩ [.d (.i ((civ n).1)), .d (.i ((civ n).2.1)), .d (.i ((civ n).2.2)), .bx 504 3, .ar 9910 0]), (9900, .box ⟨.raw (.deferred (some [])), some D⟩ []), (9910, .arr 0 5 1 (dE (civ n).1 (civ n).2.1 (civ n).2.2 5))]⟩, _, .normal, by kernel_rfl, conj1 (format_it (b 701) (b 504) (b 602) D l (civ n).1 (civ n).2.1 (civ n).2.2 (civ_ymd h0 h1) fn tm (hT.bx 11 602 0 rfl) hn : SpG g _ _ _ _ _), rfl, ?_⟩
 have hG0 := hG
 replace hG := marked_is (D := D) hG
 refine stepRM hG0 hmix [(9, 3, .callG (.c (.d (.s (S (dateText n))))) [504, 9910] [(0, .box ⟨.c 153, some (b 504)⟩ [.d (.i ((civ n).1)), .d (.i ((civ n).2.1)), .d (.i ((civ n).2.2)), .bx 0 3, .any]), (1, .arr 0 5 1 (([] : List (List V.D))))])] [] 9900 (.tup [(false, [.d (.s (S (dateText n)))]), (false, [.d (.b true)])]) [] (by kernel_rfl) (conj1 ((builderStringO (b 504) (civ n).1 (civ n).2.1 (civ n).2.2 (dE (civ n).1 (civ n).2.1 (civ n).2.2 5) (S (dateText n)) (by rw [dE_text, dT_date h0 h1]) : SpG g _ _ _ _ _))) ?_ ?_
 ·rfl
 ·rfl
theorem dateText_ok (n : Int) (h0 : 0 ≤ n) (h1 : n ≤ 3652058) :
  SpG g 47 [.c (.d (.i n))] [] (.c (.d (.s (S (dateText n))))) [] := by
 refine enterB 11 Tryz.func47 (by kernel_rfl) fun fr hG => ?_
 exact zr hG [(1, 1, .call (.tup [(false, [.d (.s (S (dateText n)))]), (false, [.d (.b true)])]) [] [])] [] (by kernel_rfl) (conj1 ((format_ok n h0 h1 : SpG g _ _ _ _ _)))
end Go.Proofs.YtmpgfchkkemngaaGreatDoor
namespace Go.Proofs.YtmpgfchkkemngaaGreatDoor
open Go.RowKit Go.V
open Go.Eng (inR byteAt u8 bytesV)
variable {g : Gv}
theorem natT_low {a : Nat} (h : a < 10) : natT a = [u8 (48 + (a : Int))] := by
 unfold natT
 by_cases h0 : a = 0
 ·subst h0; rfl
 ·rw [if_neg h0, natD_pos h0, show a / 10 = 0 by omega, natD_zero, show a % 10 = a by omega]; rfl
theorem natT_high {a : Nat} (h : 10 ≤ a) : natT a = natT (a / 10) ++ [u8 (48 + ((a % 10 : Nat) : Int))] := by
 unfold natT
 rw [if_neg (by omega), if_neg (by omega), natD_pos (by omega)]
def lowD : Nat → Nat → List UInt8
 | 0, _ => []
 | s + 1, a => lowD s (a / 10) ++ [u8 (48 + ((a % 10 : Nat) : Int))]
theorem lowD_len : ∀ s a, (lowD s a).length = s
 | 0, _ => rfl
 | s + 1, a => by simp [lowD, lowD_len s]
theorem natT_one : ∀ s a, natT (10 ^ s + a % 10 ^ s) = 49 :: lowD s a
 | 0, a => by rw [Nat.pow_zero, Nat.mod_one, natT_low (by decide)]; rfl
 | s + 1, a => by
  have hp : 10 ^ (s + 1) = 10 * 10 ^ s := by rw [Nat.pow_succ, Nat.mul_comm]
  have h1 : 1 ≤ 10 ^ s := Nat.one_le_pow _ _ (by decide)
  rw [natT_high (by omega)]
  have e1 : (10 ^ (s + 1) + a % 10 ^ (s + 1)) / 10 = 10 ^ s + (a / 10) % 10 ^ s := by
   rw [hp, Nat.mod_mul, Nat.add_comm (a % 10), ← Nat.add_assoc, ← Nat.mul_add, Nat.add_comm, Nat.add_mul_div_left _ _ (by decide)]
   omega
  have e2 : (10 ^ (s + 1) + a % 10 ^ (s + 1)) % 10 = a % 10 := by
   rw [hp, Nat.mul_add_mod, Nat.mod_mul_right_mod]
  rw [e1, e2, natT_one s (a / 10)]
  rfl
def padN (a s : Nat) : List UInt8 := List.replicate (s + 1 - (natT a).length) 48 ++ natT a
def zq17 := And.intro @List.length_cons.{0} (@List.length_nil.{0})
theorem padN_eq : ∀ s a, padN a s = natT (a / 10 ^ s) ++ lowD s a
 | 0, a => by
  have := natT_pos a
  rw [padN, show 0 + 1 - (natT a).length = 0 by omega]
  simp [lowD]
 | s + 1, a => by
  have ih := padN_eq s (a / 10)
  rw [Nat.pow_succ, Nat.mul_comm (10 ^ s), ← Nat.div_div_eq_div_mul, lowD, ← List.append_assoc, ← ih, padN, padN]
  by_cases h : a < 10
  ·rw [show a / 10 = 0 by omega, natT_low h, natT_low (a := 0) (by decide), show a % 10 = a by omega]
   simp only [zq17, Nat.add_sub_cancel]
   rw [List.replicate_succ']
   rfl
  ·rw [natT_high (a := a) (by omega)]
   simp only [zq12]
   rw [show s + 1 + 1 - ((natT (a / 10)).length + (0 + 1)) = s + 1 - (natT (a / 10)).length by omega]
   simp
theorem padN_take (a s : Nat) : (padN a s).take ((padN a s).length - s) = natT (a / 10 ^ s) := by
 rw [padN_eq, List.length_append, lowD_len, Nat.add_sub_cancel, List.take_left']
 rfl
theorem padN_drop (a s : Nat) : (padN a s).drop ((padN a s).length - s) = (natT (10 ^ s + a % 10 ^ s)).drop 1 := by
 rw [padN_eq, List.length_append, lowD_len, Nat.add_sub_cancel, List.drop_left', natT_one]
 ·rfl
 ·rfl
theorem padN_len (a s : Nat) : s + 1 ≤ (padN a s).length ∧ (padN a s).length ≤ s + 1 + (natT a).length := by
 simp only [padN, List.length_append, List.length_replicate]; omega
theorem decT_pad (n s : Int) : decT n s = (if n < 0 then [45] else []) ++ (if s > 0 then (padN n.natAbs s.toNat).take ((padN n.natAbs s.toNat).length - s.toNat) ++ [46] ++ (padN n.natAbs s.toNat).drop ((padN n.natAbs s.toNat).length - s.toNat) else padN n.natAbs s.toNat) := by
 unfold decT
 rw [padN_take, padN_drop]
 by_cases h : s > 0
 ·rw [if_pos h, if_pos h]; simp
 ·rw [if_neg h, if_neg h, show s.toNat = 0 by omega, padN_eq]; simp [lowD]
theorem S_sub (l : List UInt8) (i j : Nat) : (S l).extract i j = S ((l.take j).drop i) := by
 have : ((S l).extract i j).data = (S ((l.take j).drop i)).data := by simp [S, ByteArray.data_extract, List.drop_take]
 cases h1 : (S l).extract i j; cases h2 : S ((l.take j).drop i); rw [h1, h2] at this; simpa using this
theorem formatUint_ok (u : Nat) (h : u < 18446744073709551616) : SpG g 80 [.c (.d (.v (.int .u64 (u : Int)))), .c (.d (.i 10))] [] (.c (.d (.s (S (natT u))))) [] := by
 refine spec_of (args := [.int .u64 u, .int .i64 10]) rfl rfl rfl fun w hG => ?_
 refine (formatUint_any u h w (tab_of hG)).mono ?_
 rintro e w' ⟨rfl, k, os, rfl⟩
 exact ⟨by rw [natT_dec]; rfl, below_grow _ _ _⟩
theorem dec_mid {n s : Int} {t : ByteArray} (hP : t = S (padN n.natAbs s.toNat)) (hs : s > 0) : ((t.extract 0 ((t.size : Int) - s : Int).toNat ++ S [46]) ++ t.extract ((t.size : Int) - s : Int).toNat t.size) = S ((padN n.natAbs s.toNat).take ((padN n.natAbs s.toNat).length - s.toNat) ++ [46] ++ (padN n.natAbs s.toNat).drop ((padN n.natAbs s.toNat).length - s.toNat)) := by
 subst hP
 have e : (((S (padN n.natAbs s.toNat)).size : Int) - s : Int).toNat = (padN n.natAbs s.toNat).length - s.toNat := by rw [S_size]; omega
 rw [e, S_size, S_sub, S_sub, S_app, S_app, List.drop_zero, List.take_of_length_le (Nat.le_refl _)]
theorem dec_leaf1 {n s : Int} {t : ByteArray} (hP : t = S (padN n.natAbs s.toNat)) (hs : s > 0) (hn : n < 0) : S [45] ++ ((t.extract 0 ((t.size : Int) - s : Int).toNat ++ S [46]) ++ t.extract ((t.size : Int) - s : Int).toNat t.size) = S (decT n s) := by
 rw [dec_mid hP hs, S_app, decT_pad, if_pos hn, if_pos hs]
theorem dec_leaf2 {n s : Int} {t : ByteArray} (hP : t = S (padN n.natAbs s.toNat)) (hs : s > 0) (hn : ¬ n < 0) : ((t.extract 0 ((t.size : Int) - s : Int).toNat ++ S [46]) ++ t.extract ((t.size : Int) - s : Int).toNat t.size) = S (decT n s) := by
 rw [dec_mid hP hs, decT_pad, if_neg hn, if_pos hs]; rfl
theorem dec_leaf3 {n s : Int} {t : ByteArray} (hP : t = S (padN n.natAbs s.toNat)) (hs : ¬ s > 0) (hn : n < 0) : S [45] ++ t = S (decT n s) := by
 rw [hP, S_app, decT_pad, if_pos hn, if_neg hs]
theorem dec_leaf4 {n s : Int} {t : ByteArray} (hP : t = S (padN n.natAbs s.toNat)) (hs : ¬ s > 0) (hn : ¬ n < 0) : t = S (decT n s) := by
 rw [hP, decT_pad, if_neg hn, if_neg hs]; rfl
theorem decValue_ok (n s : Int) (h : decB n s = true) :
  SpG g 79 [.agg [.d (.i n), .d (.i s)]] [] (.agg [.d (.i n), .d (.i s)]) [] := by
 refine enterB 7 Tryz.func79 (by kernel_rfl) fun fr hG => ?_
 refine zC hG [(1, 1, .call (.c (.d (.b (decB n s)))) [] [])] [1, 0, 1] (decB n s) (⟨[(1, [], .c (.bx 100 0)), (2, [], .c (.bx 101 0))], [(100, .box 26 [.d (.i n), .d (.i s)]), (101, .box 26 [.d (.i 0), .d (.i 0)])]⟩) (by kernel_rfl) (conj1 ((decRight_ok n s : SpG g _ _ _ _ _))) (fun hc1 => ?_) (fun hc1 => ?_)
 ·(try simp only [blS] at hc1)
  exact zr hG [] [] (by kernel_rfl) conj0
 ·(try simp only [blS] at hc1)
  exact absurd (h.symm.trans hc1) (by decide)
theorem size_neg {n : Int} (h0 : -1000000000000000 ≤ n) (h1 : n < 0) : IntKind.wrap .u64 (IntKind.wrap .i64 (0 - n)) = (n.natAbs : Int) := by
 rw [IntKind.wrap_i64, IntKind.wrap_u64]; omega
theorem size_pos {n : Int} (h0 : n ≤ 1000000000000000) (h1 : ¬ n < 0) : IntKind.wrap .u64 n = (n.natAbs : Int) := by
 rw [IntKind.wrap_u64]; omega
theorem decSize_ok (n : Int) (h0 : -1000000000000000 ≤ n) (h1 : n ≤ 1000000000000000) :
  SpG g 81 [.c (.d (.i n))] [] (.c (.d (.v (.int .u64 (n.natAbs : Int))))) [] := by
 refine enterB 10 Tryz.func81 (by kernel_rfl) fun fr hG => ?_
 refine zC hG [] [1, 0, 1] (decide ((n : Int) < 0)) (⟨[(0, [], .c (.d (.i n))), (2, [], .c (.d (.v (.int .u64 0))))], []⟩) (by kernel_rfl) conj0 (fun hc1 => ?_) (fun hc1 => ?_)
 ·(try simp only [blS] at hc1)
  refine zR hG [] [] (.c (.d (.v (.int .u64 (IntKind.wrap .u64 (IntKind.wrap .i64 (0 - n))))))) [] (by kernel_rfl) conj0 ?_ ?_
  ·rw [size_neg h0 (by omega)]
  ·rfl
 ·(try simp only [blS] at hc1)
  refine zR hG [] [] (.c (.d (.v (.int .u64 (IntKind.wrap .u64 n))))) [] (by kernel_rfl) conj0 ?_ ?_
  ·rw [size_pos h1 (by omega)]
  ·rfl
def zq18 := And.intro @List.length_append.{0} (And.intro @List.length_cons.{0} (And.intro @List.length_nil.{0} (And.intro @S_size (And.intro @inR.eq_1 (@maxLen.eq_1)))))
theorem decText_ok (n s : Int) (h : decB n s = true) :
  SpG g 46 [.agg [.d (.i n), .d (.i s)]] [] (.c (.d (.s (S (decT n s))))) [] := by
 obtain ⟨b0, b1, b2, b3, b4⟩ := decB_bd h
 have hl16 := natT_len (n := n.natAbs) (k := 16) (by omega) (by decide)
 have hl1 := natT_pos n.natAbs
 have hpl := padN_len n.natAbs s.toNat
 refine enterB 44 Tryz.func46 (by kernel_rfl) fun fr hG => ?_
 refine zL hG [(1, 1, .call (.agg [.d (.i n), .d (.i s)]) [] []), (2, 2, .call (.c (.d (.v (.int .u64 (n.natAbs : Int))))) [] []), (2, 3, .call (.c (.d (.s (S (natT n.natAbs))))) [] [])] [0, 1, 0, 1, 1, 1] (fun (zz : Nat × ByteArray) => match zz with | (k, t) => (s.toNat + 1 - k, ⟨[(1, [], .c (.bx 100 0)), (2, [], .c (.d (.s (S [])))), (3, [], .c (.d (.s t))), (16, [], .c (.d (.i ((s + 1) - ((S (natT n.natAbs)).size : Int))))), (17, [], .c (.d (.i (k : Int))))], [(100, .box 26 [.d (.i n), .d (.i s)])]⟩, k ≤ s.toNat + 1 - (natT n.natAbs).length ∧ t = S (List.replicate k 48 ++ natT n.natAbs))) (0, S (natT n.natAbs)) (by kernel_rfl) (conjC ((decValue_ok n s h : SpG g _ _ _ _ _)) (conjC ((decSize_ok n (by omega) (by omega) : SpG g _ _ _ _ _)) (conjC ((formatUint_ok n.natAbs (by omega) : SpG g _ _ _ _ _)) (conjC (show inR (s + 1) from (by intros; (try simp only [zq18, ByteArray.size_append, ByteArray.size_extract] at *); omega)) (conj1 (show inR ((s + 1) - ((S (natT n.natAbs)).size : Int)) from (by intros; (try simp only [zq18, ByteArray.size_append, ByteArray.size_extract] at *); omega))))))) (by kernel_rfl) ?_ ?_
 ·exact ⟨Nat.zero_le _, rfl⟩
 rintro ⟨k, t⟩ ⟨hk, ht⟩
 have hlt : t.size = k + (natT n.natAbs).length := by rw [ht, S_size]; simp
 refine zc hG [] [0, 1] (decide (((k : Int) : Int) < ((s + 1) - ((S (natT n.natAbs)).size : Int)))) (by kernel_rfl) conj0 (fun hc2 => ?_) (fun hc2 => ?_)
 ·(try simp only [zq3] at hc2)
  refine zD hG [] (k + 1, S [48] ++ t) (by kernel_rfl) (conjC (show (S [48]).size + (t).size ≤ maxLen from (by intros; (try simp only [zq18, ByteArray.size_append, ByteArray.size_extract] at *); omega)) (conj1 (show inR ((k : Int) + 1) from (by intros; (try simp only [zq18, ByteArray.size_append, ByteArray.size_extract] at *); omega)))) ?_ ?_
  ·(try dsimp only); omega
  ·refine ⟨by omega, ?_⟩
   rw [ht, S_app, List.replicate_succ]; rfl
 ·(try simp only [zq3] at hc2)
  have hP : t = S (padN n.natAbs s.toNat) := by
   rw [ht, padN, show s.toNat + 1 - (natT n.natAbs).length = k by omega]
  have hps : t.size = (padN n.natAbs s.toNat).length := by rw [hP, S_size]
  clear hlt ht
  refine zE hG [] (.exit 0) (⟨[(1, [], .c (.bx 100 0)), (2, [], .c (.d (.s (S [])))), (3, [], .c (.d (.s t)))], [(100, .box 26 [.d (.i n), .d (.i s)])]⟩) (by kernel_rfl) conj0 rfl ?_
  refine zc hG [] [1, 0, 1, 1, 1, 1] (decide ((s : Int) > 0)) (by kernel_rfl) conj0 (fun hc3 => ?_) (fun hc3 => ?_)
  ·(try simp only [zq3] at hc3)
   refine zC hG [] [1, 0, 1, 1, 1, 1, 1] (decide ((n : Int) < 0)) (⟨[(2, [], .c (.d (.s (S [])))), (3, [], .c (.d (.s ((((t).extract 0 (((t).size : Int) - s : Int).toNat) ++ (S [46])) ++ ((t).extract (((t).size : Int) - s : Int).toNat (t).size)))))], []⟩) (by kernel_rfl) (conjC (show inR (((t).size : Int) - s) from (by intros; (try simp only [zq18, ByteArray.size_append, ByteArray.size_extract] at *); omega)) (conjC (show (0 : Int) ≤ 0 ∧ (0 : Int) ≤ (((t).size : Int) - s) ∧ (((t).size : Int) - s) ≤ ((t).size : Int) from (by intros; (try simp only [zq18, ByteArray.size_append, ByteArray.size_extract] at *); omega)) (conjC (show ((t).extract 0 (((t).size : Int) - s : Int).toNat).size + (S [46]).size ≤ maxLen from (by intros; (try simp only [zq18, ByteArray.size_append, ByteArray.size_extract] at *); omega)) (conjC (show (0 : Int) ≤ (((t).size : Int) - s) ∧ (((t).size : Int) - s : Int) ≤ ((t).size : Int) ∧ ((t).size : Int) ≤ ((t).size : Int) from (by intros; (try simp only [zq18, ByteArray.size_append, ByteArray.size_extract] at *); omega)) (conj1 (show (((t).extract 0 (((t).size : Int) - s : Int).toNat) ++ (S [46])).size + ((t).extract (((t).size : Int) - s : Int).toNat (t).size).size ≤ maxLen from (by intros; (try simp only [zq18, ByteArray.size_append, ByteArray.size_extract] at *); omega))))))) (fun hc4 => ?_) (fun hc4 => ?_)
   ·(try simp only [zq3] at hc4)
    refine zR hG [] [] (.c (.d (.s ((S [45]) ++ ((((t).extract 0 (((t).size : Int) - s : Int).toNat) ++ (S [46])) ++ ((t).extract (((t).size : Int) - s : Int).toNat (t).size)))))) [] (by kernel_rfl) (conj1 (show (S [45]).size + ((((t).extract 0 (((t).size : Int) - s : Int).toNat) ++ (S [46])) ++ ((t).extract (((t).size : Int) - s : Int).toNat (t).size)).size ≤ maxLen from (by intros; (try simp only [zq18, ByteArray.size_append, ByteArray.size_extract] at *); omega))) ?_ ?_
    ·rw [dec_leaf1 hP (by omega) (by omega)]
    ·rfl
   ·(try simp only [zq3] at hc4)
    refine zR hG [] [] (.c (.d (.s ((((t).extract 0 (((t).size : Int) - s : Int).toNat) ++ (S [46])) ++ ((t).extract (((t).size : Int) - s : Int).toNat (t).size))))) [] (by kernel_rfl) conj0 ?_ ?_
    ·rw [dec_leaf2 hP (by omega) (by omega)]
    ·rfl
  ·(try simp only [zq3] at hc3)
   refine zC hG [] [1, 0, 1, 1, 1, 1, 1] (decide ((n : Int) < 0)) (⟨[(2, [], .c (.d (.s (S [])))), (3, [], .c (.d (.s t)))], []⟩) (by kernel_rfl) conj0 (fun hc5 => ?_) (fun hc5 => ?_)
   ·(try simp only [zq3] at hc5)
    refine zR hG [] [] (.c (.d (.s ((S [45]) ++ t)))) [] (by kernel_rfl) (conj1 (show (S [45]).size + (t).size ≤ maxLen from (by intros; (try simp only [zq18, ByteArray.size_append, ByteArray.size_extract] at *); omega))) ?_ ?_
    ·rw [dec_leaf3 hP (by omega) (by omega)]
    ·rfl
   ·(try simp only [zq3] at hc5)
    refine zR hG [] [] (.c (.d (.s t))) [] (by kernel_rfl) conj0 ?_ ?_
    ·rw [dec_leaf4 hP (by omega) (by omega)]
    ·rfl
end Go.Proofs.YtmpgfchkkemngaaGreatDoor
namespace Go.Proofs.YtmpgfchkkemngaaGreatDoor
open Go.RowKit Go.V
open Go.Eng (inR byteAt u8 bytesV)
theorem isTextL_of {l : List UInt8} (h : l.all okByte = true) (hl : l.length ≤ 200) : isTextL l = true := by
 have e : bs (S l) = l := by simp [bs, S]
 simp only [isTextL, isTextB, Bool.and_eq_true, decide_eq_true_eq, S_size, e]
 exact ⟨h, by omega⟩
theorem okByte_ch (l : List Int) (k : Int) : okByte (u8 (32 + nxV l k 95)) = true := by
 have := nxV_bd l k (n := 95) (by decide)
 simp only [okByte, u8, Bool.and_eq_true, decide_eq_true_eq, UInt8.toNat_ofNat']
 omega
theorem ch_all (l : List Int) : ∀ (n : Nat) (k : Int), (chM l n k).1.all okByte = true
 | 0, k => rfl
 | n + 1, k => by simp only [chM, List.all_cons, okByte_ch, ch_all l n, Bool.and_true]
theorem words_all : ∀ i, i < 15 → (wordsL.getD i []).all okByte = true ∧ (wordsL.getD i []).length ≤ 200 := by decide
theorem tx_right (l : List Int) (k : Int) : isTextL (txM l k).1 = true := by
 unfold txM; split
 ·have := nxV_bd l k (n := 18) (by decide)
  have h := words_all (nxV l k 18).toNat (by omega)
  exact isTextL_of h.1 h.2
 ·exact isTextL_of (ch_all l _ _) (by rw [ch_len]; have := txN_bd l k; omega)
theorem fit_right (neg : Bool) (m : Nat) (s : Int) : decB (fitN neg m s) (fitS m s) = true := by
 unfold fitN fitS
 cases hb : fitB m s with
 | false => simp [decB]
 | true =>
  have h := hb
  simp only [fitB, decide_eq_true_eq] at h
  have ho := fitL_odd s.toNat m
  generalize (fitL m s.toNat).1 = a at *
  generalize (fitL m s.toNat).2 = b at *
  have ht : ((a : Int).tmod 10 = ((a % 10 : Nat) : Int)) := by rw [Int.tmod_eq_emod_of_nonneg (by omega)]; omega
  have hn : ((-(a : Int)).tmod 10 = -((a % 10 : Nat) : Int)) := by rw [Int.neg_tmod, ht]
  cases neg
  ·simp only [if_true, if_false, Bool.false_eq_true, decB, ht, Bool.and_eq_true, Bool.or_eq_true, decide_eq_true_eq]; omega
  ·simp only [if_true, decB, hn, Bool.and_eq_true, Bool.or_eq_true, decide_eq_true_eq]; omega
theorem dc_right (l : List Int) (k : Int) : decB (dcM l k).1 (dcM l k).2.1 = true := fit_right _ _ _
structure Cl.good (c : Cl) : Prop where
 kind : ¬ c.kind = 5
 right : rightK false c.toV = true
 len : c.s.length ≤ 200
theorem Cl.z_good : Cl.z.good := ⟨by decide, by decide, by decide⟩
theorem right3 (n : Int) (h0 : 0 ≤ n) (h1 : n ≤ 3652058) : rightK false ⟨3, [], 0, 0, n, [], []⟩ = true := by simp [rightK, bareB, h0, h1]
theorem right4 (n : Int) (h0 : 0 ≤ n) (h1 : n < 2) : rightK false ⟨4, [], 0, 0, n, [], []⟩ = true := by
 have : n = 0 ∨ n = 1 := by omega
 rcases this with rfl | rfl <;> decide
theorem right0 (n : Int) (h0 : 0 ≤ n) (h1 : n ≤ 99) : rightK false ⟨0, [], 0, 0, n, [], []⟩ = true := by simp [rightK, bareB, h0, h1]
theorem cv_good (l : List Int) (k kind : Int) : (cvM l k kind).1.good := by
 unfold cvM
 split
 ·exact ⟨by simp, by simp [rightK, Cl.toV, bareB, tx_right], isTextL_len (tx_right l k)⟩
 ·split
  ·exact ⟨by simp, by simp [rightK, Cl.toV, bareB, dc_right], by simp⟩
  ·split
   ·have h1 := nxV_bd l k (n := 1000) (by decide)
    have h2 := nxV_bd l (nxK l (nxK l k 1000) 8) (n := 3652059) (by decide)
    split
    ·exact ⟨by simp, right3 _ (by dsimp only; omega) (by dsimp only; omega), by simp⟩
    ·exact ⟨by simp, right3 _ (by dsimp only; omega) (by dsimp only; omega), by simp⟩
   ·split
    ·have h1 := nxV_bd l k (n := 2) (by decide)
     exact ⟨by simp, right4 _ (by dsimp only; omega) (by dsimp only; omega), by simp⟩
    ·have h1 := nxV_bd l k (n := 100) (by decide)
     exact ⟨by simp, right0 _ (by dsimp only; omega) (by dsimp only; omega), by simp⟩
theorem ce_good (l : List Int) (kind k : Int) : (ceM l kind k).1.good := by
 unfold ceM; split
 ·exact Cl.z_good
 ·exact cv_good _ _ _
theorem kd_len (l : List Int) : ∀ (n : Nat) (k : Int), (kdM l n k).1.length = n
 | 0, k => rfl
 | n + 1, k => by simp [kdM, kd_len l n]
theorem rw_len (l : List Int) : ∀ (r : List Int) (k : Int), (rwM l r k).1.length = r.length
 | [], k => rfl
 | x :: r, k => by simp [rwM, rw_len l r]
theorem rw_good (l : List Int) : ∀ (r : List Int) (k : Int), ∀ c, c ∈ (rwM l r k).1 → c.good
 | [], k, c, h => by cases h
 | x :: r, k, c, h => by
  simp only [rwM, List.mem_cons] at h
  rcases h with rfl | h
  ·exact ce_good _ _ _
  ·exact rw_good l r _ c h
theorem rs_len (l kds : List Int) : ∀ (n : Nat) (k : Int), (rsM l kds n k).1.length = n
 | 0, k => rfl
 | n + 1, k => by simp [rsM, rs_len l kds n]
theorem rs_good (l kds : List Int) : ∀ (n : Nat) (k : Int), ∀ r, r ∈ (rsM l kds n k).1 → r.length = kds.length ∧ ∀ c, c ∈ r → c.good
 | 0, k, r, h => by cases h
 | n + 1, k, r, h => by
  simp only [rsM, List.mem_cons] at h
  rcases h with rfl | h
  ·exact ⟨rw_len l kds k, rw_good l kds k⟩
  ·exact rs_good l kds n _ r h
theorem names_abc : ∀ n, n < 4 → allR (abcL.take n).length (nameAt (abcL.take n)) = true := by decide
theorem tableB_good {cols : List (List UInt8)} {rows : List (List Cl)} (h1 : cols.length ≤ 8) (h2 : rows.length ≤ 100) (hn : allR cols.length (nameAt cols) = true) (hr : ∀ r, r ∈ rows → r.length = cols.length ∧ ∀ c, c ∈ r → ¬ c.kind = 5 ∧ rightK false c.toV = true) : tableB cols rows = true := by
 refine tableB_ok ⟨by omega, by omega⟩ (fun j hj => allR_get hn hj) fun j hj => ?_
 obtain ⟨a, b⟩ := hr _ (getD_mem (z := []) hj)
 simp only [rowAt, a, decide_true, Bool.true_and]
 refine allR_true fun i hi => ?_
 have := b _ (getD_mem (z := Cl.z) (a ▸ hi))
 simp only [cellAt, this.1, this.2, decide_false, Bool.not_false, Bool.and_true]
theorem tb_good (l : List Int) (k : Int) : rightB (tbM l k).1 = true ∧ ∀ r, r ∈ (tbM l k).1.rows → ∀ c, c ∈ r → c.good := by
 have h1 := nxV_bd l k (n := 4) (by decide)
 have h2 := nxV_bd l (tbK l k).2 (n := 5) (by decide)
 have hl : (tbR l k).1.length = (nxV l (tbK l k).2 5).toNat := rs_len _ _ _ _
 have hg : ∀ r, r ∈ (tbR l k).1 → r.length = (abcL.take (nxV l k 4).toNat).length ∧ ∀ c, c ∈ r → c.good := fun r hr => by
  obtain ⟨a, b⟩ := rs_good _ _ _ _ r hr
  refine ⟨?_, b⟩
  rw [a, tbK, kd_len, List.length_take]
  have : abcL.length = 3 := rfl
  omega
 refine ⟨?_, fun r hr c hc => (hg r hr).2 c hc⟩
 have ht : tableB (abcL.take (nxV l k 4).toNat) (tbR l k).1 = true := by
  refine tableB_good ?_ ?_ (names_abc _ (by omega)) fun r hr => ⟨(hg r hr).1, fun c hc => ⟨((hg r hr).2 c hc).kind, ((hg r hr).2 c hc).right⟩⟩
  ·rw [List.length_take]; have : abcL.length = 3 := rfl; omega
  ·rw [hl]; omega
 simp [rightB, rightK, tbM, ht, bareB]
theorem vl_good (l : List Int) (k kind : Int) : rightB (vlM l k kind).1 = true ∧ (vlM l k kind).1.fit := by
 unfold vlM; split
 ·obtain ⟨a, b⟩ := tb_good l k
  refine ⟨a, ⟨?_, ?_, ?_⟩⟩
  ·simp [tbM]
  ·intro t ht
   have : ∀ t, t ∈ abcL → t.length ≤ 1 := by decide
   have := this t (List.mem_of_mem_take ht)
   unfold maxLen; omega
  ·intro r hr c hc
   have := (b r hr c hc).len
   unfold maxLen; omega
 ·have h := cv_good l k kind
  refine ⟨?_, ?_, ?_, ?_⟩
  ·have : (cvM l k kind).1.toV.kind = (cvM l k kind).1.kind := rfl
   have e : rightB (cvM l k kind).1.toV = rightK false (cvM l k kind).1.toV := by
    simp only [rightB, rightK, this, if_neg h.kind]
   rw [e]; exact h.right
  ·have : (cvM l k kind).1.toV.s = (cvM l k kind).1.s := rfl
   rw [this]; have := h.len; unfold maxLen; omega
  ·intro t ht; cases ht
  ·intro t ht; cases ht
theorem made_right (l : List Int) : rightB (madeV l) = true := (vl_good _ _ _).1
theorem made_fit (l : List Int) : (madeV l).fit := (vl_good _ _ _).2
end Go.Proofs.YtmpgfchkkemngaaGreatDoor
namespace Go.Proofs.YtmpgfchkkemngaaGreatDoor
open Go.RowKit Go.V
open Go.Eng (inR byteAt u8 bytesV)
variable {g : Gv}
theorem valText_all (v : Vl) (hf : v.fit) : SpG g 15 [vArg v] [] (.c (.d (.s (S (textB v))))) [] := valText_ok decText_ok dateText_ok v hf
theorem indexAny_lit (s : List UInt8) (r : Int) (hs : s.length ≤ 1000) (ha : s.all (fun b => decide (b.toNat < 128)) = true) (h : Lib.indexAny s [44, 59, 93, 124] = r) : SpG g 175 [.c (.d (.s (S s))), .c (.d (.s (S [44, 59, 93, 124])))] [] (.c (.d (.i r))) [] := by
 refine spec_of (args := [.string (S s), .string (S [44, 59, 93, 124])]) rfl rfl rfl fun w _ => ?_
 have := Tryz.strings_IndexAny_laid (S s) (S [44, 59, 93, 124]) w (by rw [S_size]; omega) (by decide) (fun j b hb => by
   rw [S_data] at hb
   have := List.all_eq_true.1 ha b (List.mem_of_getElem? hb)
   simpa using this) (fun j b hb => by
   rw [S_data] at hb
   have h4 : ([44, 59, 93, 124] : List UInt8).all (fun b => decide (b.toNat < 128)) = true := by decide
   have := List.all_eq_true.1 h4 b (List.mem_of_getElem? hb)
   simpa using this)
 rw [S_data, S_data, h] at this
 exact this
theorem cutPrefix_lit (s p t : List UInt8) (r : Bool) (h1 : Lib.trimPrefix s p = t) (h2 : Lib.hasPrefix s p = r) : SpG g 205 [.c (.d (.s (S s))), .c (.d (.s (S p)))] [] (.tup [(false, [.d (.s (S t))]), (false, [.d (.b r)])]) [] := by
 refine of_same (args := [.string (S s), .string (S p)]) rfl rfl rfl fun w => ?_
 have := Tryz.strings_CutPrefix (S s) (S p) w
 rw [S_data, S_data, h1, h2] at this
 exact this
theorem drewN_below (w : World) (n : Nat) : Below w.heap.size w (w.drewN n) := ⟨rfl, rfl, rfl, Nat.le_refl _, fun _ _ => rfl⟩
theorem cut_lit (s p a b : List UInt8) (r : Bool) (hs : s.length ≤ 1000) (h : Lib.cut s p = (a, b, r)) : SpG g 206 [.c (.d (.s (S s))), .c (.d (.s (S p)))] [] (.tup [(false, [.d (.s (S a))]), (false, [.d (.s (S b))]), (false, [.d (.b r)])]) [] := by
 refine spec_of (args := [.string (S s), .string (S p)]) rfl rfl rfl fun w hG => ?_
 obtain ⟨ty, fz, h0⟩ := hG 0 [.int .i64 g.maxLen] (by simp [Gl])
 have := Tryz.strings_Cut (S s) (S p) g.maxLen w (by rw [S_size]; omega) (by rw [Lib.cell_of_heap h0]; rfl)
 rw [S_data, S_data, h] at this
 exact this.mono fun _ _ ⟨x, n, y⟩ => ⟨x, by rw [y]; exact drewN_below _ _⟩
theorem index_lit (s : List UInt8) (c : UInt8) (r : Int) (h : Lib.indexByte s c = r) : SpG g 119 [.c (.d (.s (S s))), .c (.d (.s (S [c])))] [] (.c (.d (.i r))) [] := by
 refine of_same (args := [.string (S s), .string (S [c])]) rfl rfl rfl fun w => ?_
 have := Tryz.strings_Index_one (S s) c w
 rw [S_data, h] at this
 exact this
theorem indexByte_lit (s : List UInt8) (c : Int) (r : Int) (h : Lib.indexByte s c.toNat.toUInt8 = r) : SpG g 177 [.c (.d (.s (S s))), .c (.d (.y c))] [] (.c (.d (.i r))) [] := by
 refine of_same (args := [.string (S s), .int .u8 c]) rfl rfl rfl fun w => ?_
 have := Tryz.strings_IndexByte (S s) c w
 rw [S_data, h] at this
 exact this
theorem decText_lit (n s : Int) (r : List UInt8) (h : decB n s = true) (e : decT n s = r) : SpG g 46 [.agg [.d (.i n), .d (.i s)]] [] (.c (.d (.s (S r)))) [] := by
 rw [← e]; exact decText_ok n s h
theorem decT_10 : decT 1 0 = [49] := by
 unfold decT
 rw [show (1 : Int).natAbs / 10 ^ (0 : Int).toNat = 1 from rfl, natT_low (by decide)]
 rfl
theorem within_lit (n : Int) (r : Bool) (h : (decide (-1000000000000000 ≤ n) && decide (n ≤ 1000000000000000)) = r) : SpG g 73 [.c (.d (.i n))] [] (.c (.d (.b r))) [] := by
 rw [← h]
 exact of_exact (args := [.int .i64 n]) rfl rfl rfl fun w => (within_any n w).mono fun _ _ ⟨a, b⟩ => ⟨a, b⟩
theorem right_lit (v : Vl) (hf : v.fit) (r : Bool) (h : rightB v = r) : SpG g 13 [vArg v] [] (.c (.d (.b r))) [] := by
 rw [← h]; exact right_ok v hf
theorem skip_x231x2e0_91  :
  SpG g 63 [.c (.bx 0 0), .c (.d (.y 91))] [(0, .box 90 [.d (.s (S [35, 49, 46, 48]))])] (.c (.d (.b false))) [(0, .box 90 [.d (.s (S [35, 49, 46, 48]))])] := by
 refine enterB 27 Tryz.func63 (by kernel_rfl) fun fr hG => ?_
 refine zC hG [] [1, 0, 1] (true) (⟨[(0, [], .c (.bx 0 0)), (4, [], .c (.d (.b false)))], [(0, .box 90 [.d (.s (S [35, 49, 46, 48]))])]⟩) (by kernel_rfl) (conj1 (show false = false → (0 : Int) ≤ 0 ∧ 0 < ((S [35, 49, 46, 48]).size : Int) from (by decide))) (fun _ => ?_) (fun hc1 => absurd hc1 (by decide))
 exact zr hG [] [] (by kernel_rfl) conj0
theorem skip_x3f2_91  :
  SpG g 63 [.c (.bx 0 0), .c (.d (.y 91))] [(0, .box 90 [.d (.s (S [63, 50]))])] (.c (.d (.b false))) [(0, .box 90 [.d (.s (S [63, 50]))])] := by
 refine enterB 27 Tryz.func63 (by kernel_rfl) fun fr hG => ?_
 refine zC hG [] [1, 0, 1] (true) (⟨[(0, [], .c (.bx 0 0)), (4, [], .c (.d (.b false)))], [(0, .box 90 [.d (.s (S [63, 50]))])]⟩) (by kernel_rfl) (conj1 (show false = false → (0 : Int) ≤ 0 ∧ 0 < ((S [63, 50]).size : Int) from (by decide))) (fun _ => ?_) (fun hc1 => absurd hc1 (by decide))
 exact zr hG [] [] (by kernel_rfl) conj0
theorem skip_x27ax7cbx27x7cx231_91  :
  SpG g 63 [.c (.bx 0 0), .c (.d (.y 91))] [(0, .box 90 [.d (.s (S [39, 97, 124, 98, 39, 124, 35, 49]))])] (.c (.d (.b false))) [(0, .box 90 [.d (.s (S [39, 97, 124, 98, 39, 124, 35, 49]))])] := by
 refine enterB 27 Tryz.func63 (by kernel_rfl) fun fr hG => ?_
 refine zC hG [] [1, 0, 1] (true) (⟨[(0, [], .c (.bx 0 0)), (4, [], .c (.d (.b false)))], [(0, .box 90 [.d (.s (S [39, 97, 124, 98, 39, 124, 35, 49]))])]⟩) (by kernel_rfl) (conj1 (show false = false → (0 : Int) ≤ 0 ∧ 0 < ((S [39, 97, 124, 98, 39, 124, 35, 49]).size : Int) from (by decide))) (fun _ => ?_) (fun hc1 => absurd hc1 (by decide))
 exact zr hG [] [] (by kernel_rfl) conj0
theorem skip_x7cx231_39  :
  SpG g 63 [.c (.bx 0 0), .c (.d (.y 39))] [(0, .box 90 [.d (.s (S [124, 35, 49]))])] (.c (.d (.b false))) [(0, .box 90 [.d (.s (S [124, 35, 49]))])] := by
 refine enterB 27 Tryz.func63 (by kernel_rfl) fun fr hG => ?_
 refine zC hG [] [1, 0, 1] (true) (⟨[(0, [], .c (.bx 0 0)), (4, [], .c (.d (.b false)))], [(0, .box 90 [.d (.s (S [124, 35, 49]))])]⟩) (by kernel_rfl) (conj1 (show false = false → (0 : Int) ≤ 0 ∧ 0 < ((S [124, 35, 49]).size : Int) from (by decide))) (fun _ => ?_) (fun hc1 => absurd hc1 (by decide))
 exact zr hG [] [] (by kernel_rfl) conj0
theorem skip_x7cx231_124  :
  SpG g 63 [.c (.bx 0 0), .c (.d (.y 124))] [(0, .box 90 [.d (.s (S [124, 35, 49]))])] (.c (.d (.b true))) [(0, .box 90 [.d (.s (S [35, 49]))])] := by
 refine enterB 27 Tryz.func63 (by kernel_rfl) fun fr hG => ?_
 refine zC hG [] [1, 0, 1] (false) (⟨[(0, [], .c (.bx 0 0)), (4, [], .c (.d (.b false)))], [(0, .box 90 [.d (.s (S [124, 35, 49]))])]⟩) (by kernel_rfl) (conj1 (show false = false → (0 : Int) ≤ 0 ∧ 0 < ((S [124, 35, 49]).size : Int) from (by decide))) (fun hc1 => absurd hc1 (by decide)) (fun _ => ?_)
 exact zr hG [] [] (by kernel_rfl) (conj1 (show (0 : Int) ≤ 1 ∧ (1 : Int) ≤ ((S [124, 35, 49]).size : Int) ∧ ((S [124, 35, 49]).size : Int) ≤ ((S [124, 35, 49]).size : Int) from (by decide)))
theorem skip_x231_91  :
  SpG g 63 [.c (.bx 0 0), .c (.d (.y 91))] [(0, .box 90 [.d (.s (S [35, 49]))])] (.c (.d (.b false))) [(0, .box 90 [.d (.s (S [35, 49]))])] := by
 refine enterB 27 Tryz.func63 (by kernel_rfl) fun fr hG => ?_
 refine zC hG [] [1, 0, 1] (true) (⟨[(0, [], .c (.bx 0 0)), (4, [], .c (.d (.b false)))], [(0, .box 90 [.d (.s (S [35, 49]))])]⟩) (by kernel_rfl) (conj1 (show false = false → (0 : Int) ≤ 0 ∧ 0 < ((S [35, 49]).size : Int) from (by decide))) (fun _ => ?_) (fun hc1 => absurd hc1 (by decide))
 exact zr hG [] [] (by kernel_rfl) conj0
theorem skip__124  :
  SpG g 63 [.c (.bx 0 0), .c (.d (.y 124))] [(0, .box 90 [.d (.s (S []))])] (.c (.d (.b false))) [(0, .box 90 [.d (.s (S []))])] := by
 refine enterB 27 Tryz.func63 (by kernel_rfl) fun fr hG => ?_
 refine zC hG [] [1, 0, 1] (true) (⟨[(0, [], .c (.bx 0 0)), (4, [], .c (.d (.b false)))], [(0, .box 90 [.d (.s (S []))])]⟩) (by kernel_rfl) (conj1 (show true = false → (0 : Int) ≤ 0 ∧ 0 < ((S []).size : Int) from fun hg1 => absurd hg1 (by decide))) (fun _ => ?_) (fun hc1 => absurd hc1 (by decide))
 exact zr hG [] [] (by kernel_rfl) conj0
theorem word_1x2e0  :
  SpG g 128 [.c (.bx 0 0)] [(0, .box 90 [.d (.s (S [49, 46, 48]))])] (.c (.d (.s (S [49, 46, 48])))) [(0, .box 90 [.d (.s (S []))])] := by
 refine enterB 33 Tryz.func128 (by kernel_rfl) fun fr hG => ?_
 refine zC hG [(1, 4, .call (.c (.d (.i (-1)))) [] [])] [1, 0, 1, 1] (true) (⟨[(0, [], .c (.bx 0 0)), (2, [], .c (.d (.s (S [])))), (3, [], .c (.d (.i (-1))))], [(0, .box 90 [.d (.s (S [49, 46, 48]))])]⟩) (by kernel_rfl) (conj1 ((indexAny_lit [49, 46, 48] (-1) (by decide) (by decide) (by decide) : SpG g _ _ _ _ _))) (fun _ => ?_) (fun hc1 => absurd hc1 (by decide))
 exact zr hG [] [] (by kernel_rfl) (conjC (show (0 : Int) ≤ 0 ∧ (0 : Int) ≤ 3 ∧ 3 ≤ ((S [49, 46, 48]).size : Int) from (by decide)) (conj1 (show (0 : Int) ≤ 3 ∧ (3 : Int) ≤ ((S [49, 46, 48]).size : Int) ∧ ((S [49, 46, 48]).size : Int) ≤ ((S [49, 46, 48]).size : Int) from (by decide))))
theorem word_2  :
  SpG g 128 [.c (.bx 0 0)] [(0, .box 90 [.d (.s (S [50]))])] (.c (.d (.s (S [50])))) [(0, .box 90 [.d (.s (S []))])] := by
 refine enterB 33 Tryz.func128 (by kernel_rfl) fun fr hG => ?_
 refine zC hG [(1, 4, .call (.c (.d (.i (-1)))) [] [])] [1, 0, 1, 1] (true) (⟨[(0, [], .c (.bx 0 0)), (2, [], .c (.d (.s (S [])))), (3, [], .c (.d (.i (-1))))], [(0, .box 90 [.d (.s (S [50]))])]⟩) (by kernel_rfl) (conj1 ((indexAny_lit [50] (-1) (by decide) (by decide) (by decide) : SpG g _ _ _ _ _))) (fun _ => ?_) (fun hc1 => absurd hc1 (by decide))
 exact zr hG [] [] (by kernel_rfl) (conjC (show (0 : Int) ≤ 0 ∧ (0 : Int) ≤ 1 ∧ 1 ≤ ((S [50]).size : Int) from (by decide)) (conj1 (show (0 : Int) ≤ 1 ∧ (1 : Int) ≤ ((S [50]).size : Int) ∧ ((S [50]).size : Int) ≤ ((S [50]).size : Int) from (by decide))))
theorem word_1  :
  SpG g 128 [.c (.bx 0 0)] [(0, .box 90 [.d (.s (S [49]))])] (.c (.d (.s (S [49])))) [(0, .box 90 [.d (.s (S []))])] := by
 refine enterB 33 Tryz.func128 (by kernel_rfl) fun fr hG => ?_
 refine zC hG [(1, 4, .call (.c (.d (.i (-1)))) [] [])] [1, 0, 1, 1] (true) (⟨[(0, [], .c (.bx 0 0)), (2, [], .c (.d (.s (S [])))), (3, [], .c (.d (.i (-1))))], [(0, .box 90 [.d (.s (S [49]))])]⟩) (by kernel_rfl) (conj1 ((indexAny_lit [49] (-1) (by decide) (by decide) (by decide) : SpG g _ _ _ _ _))) (fun _ => ?_) (fun hc1 => absurd hc1 (by decide))
 exact zr hG [] [] (by kernel_rfl) (conjC (show (0 : Int) ≤ 0 ∧ (0 : Int) ≤ 1 ∧ 1 ≤ ((S [49]).size : Int) from (by decide)) (conj1 (show (0 : Int) ≤ 1 ∧ (1 : Int) ≤ ((S [49]).size : Int) ∧ ((S [49]).size : Int) ≤ ((S [49]).size : Int) from (by decide))))
theorem make_10_1  :
  SpG g 207 [.c (.d (.i 10)), .c (.d (.i 1))] [] (.tup [(true, [.d (.i 1), .d (.i 0)]), (false, [.d (.b true)])]) [] := by
 refine enterB 35 Tryz.func207 (by kernel_rfl) fun fr hG => ?_
 refine zC hG [] [1, 0, 1] (false) (⟨[(0, [], .c (.d (.i 10))), (1, [], .c (.d (.i 1))), (4, [], .c (.bx 100 0)), (5, [], .c (.d (.b false)))], [(100, .box 26 [.d (.i 0), .d (.i 0)])]⟩) (by kernel_rfl) conj0 (fun hc1 => absurd hc1 (by decide)) (fun _ => ?_)
 refine stepL hG hmix [] [0, 0, 1, 1] ((fun (zz : Nat) => match zz with | 0 => ⟨[(0, [], .c (.d (.i 10))), (1, [], .c (.d (.i 1))), (4, [], .c (.bx 100 0)), (5, [], .c (.d (.b false)))], [(100, .box 26 [.d (.i 0), .d (.i 0)])]⟩ | _ => ⟨[(0, [], .c (.d (.i 1))), (1, [], .c (.d (.i 0))), (4, [], .c (.bx 100 0)), (5, [], .c (.d (.b false)))], [(100, .box 26 [.d (.i 0), .d (.i 0)])]⟩) 0) _ (by kernel_rfl) conj0 ?_
 refine loopR (σ := Nat) (fun (zz : Nat) => match zz with | k => 2 - k) (fun (zz : Nat) => match zz with | 0 => ⟨[(0, [], .c (.d (.i 10))), (1, [], .c (.d (.i 1))), (4, [], .c (.bx 100 0)), (5, [], .c (.d (.b false)))], [(100, .box 26 [.d (.i 0), .d (.i 0)])]⟩ | _ => ⟨[(0, [], .c (.d (.i 1))), (1, [], .c (.d (.i 0))), (4, [], .c (.bx 100 0)), (5, [], .c (.d (.b false)))], [(100, .box 26 [.d (.i 0), .d (.i 0)])]⟩) (fun (zz : Nat) => match zz with | k => k ≤ 1) 0 (by kernel_rfl) ?_ ?_
 ·exact Nat.zero_le _
 rintro k hI
 rcases (by omega : k = 0 ∨ k = 1) with rfl | rfl
 ·skip
  refine zc hG [] [1, 0] (true) (by kernel_rfl) (conj1 (show true = true → 10 ≠ (0 : Int) from (by decide))) (fun _ => ?_) (fun hc3 => absurd hc3 (by decide))
  refine zD hG [] 1 (by kernel_rfl) (conjC (show 10 ≠ (0 : Int) ∧ inR (Int.tdiv 10 10) from (by unfold inR; decide)) (conj1 (show inR (1 - 1) from (by unfold inR; decide)))) ?_ ?_
  ·(try dsimp only); decide
  ·(try dsimp only); decide
 ·skip
  refine zc hG [] [1, 0] (false) (by kernel_rfl) (conj1 (show false = true → 10 ≠ (0 : Int) from fun hg1 => absurd hg1 (by decide))) (fun hc4 => absurd hc4 (by decide)) (fun _ => ?_)
  refine zE hG [] (.exit 0) (⟨[(0, [], .c (.d (.i 1))), (1, [], .c (.d (.i 0))), (4, [], .c (.bx 100 0)), (5, [], .c (.d (.b false)))], [(100, .box 26 [.d (.i 0), .d (.i 0)])]⟩) (by kernel_rfl) conj0 rfl ?_
  refine zc hG [(6, 4, .call (.c (.d (.b true))) [] [])] [1, 0, 1, 1, 1] (false) (by kernel_rfl) (conj1 (fun (hg1 : false = false) => ((within_lit 1 true (by decide) : SpG g _ _ _ _ _)))) (fun hc5 => absurd hc5 (by decide)) (fun _ => ?_)
  exact zr hG [] [] (by kernel_rfl) conj0
theorem make_1_0  :
  SpG g 207 [.c (.d (.i 1)), .c (.d (.i 0))] [] (.tup [(true, [.d (.i 1), .d (.i 0)]), (false, [.d (.b true)])]) [] := by
 refine enterB 35 Tryz.func207 (by kernel_rfl) fun fr hG => ?_
 refine zC hG [] [1, 0, 1] (false) (⟨[(0, [], .c (.d (.i 1))), (1, [], .c (.d (.i 0))), (4, [], .c (.bx 100 0)), (5, [], .c (.d (.b false)))], [(100, .box 26 [.d (.i 0), .d (.i 0)])]⟩) (by kernel_rfl) conj0 (fun hc1 => absurd hc1 (by decide)) (fun _ => ?_)
 refine stepL hG hmix [] [0, 0, 1, 1] ((fun (zz : Nat) => match zz with | _ => ⟨[(0, [], .c (.d (.i 1))), (1, [], .c (.d (.i 0))), (4, [], .c (.bx 100 0)), (5, [], .c (.d (.b false)))], [(100, .box 26 [.d (.i 0), .d (.i 0)])]⟩) 0) _ (by kernel_rfl) conj0 ?_
 refine loopR (σ := Nat) (fun (zz : Nat) => match zz with | k => 1 - k) (fun (zz : Nat) => match zz with | _ => ⟨[(0, [], .c (.d (.i 1))), (1, [], .c (.d (.i 0))), (4, [], .c (.bx 100 0)), (5, [], .c (.d (.b false)))], [(100, .box 26 [.d (.i 0), .d (.i 0)])]⟩) (fun (zz : Nat) => match zz with | k => k ≤ 0) 0 (by kernel_rfl) ?_ ?_
 ·exact Nat.zero_le _
 rintro k hI
 rcases (by omega : k = 0) with rfl
 ·skip
  refine zc hG [] [1, 0] (false) (by kernel_rfl) (conj1 (show false = true → 10 ≠ (0 : Int) from fun hg1 => absurd hg1 (by decide))) (fun hc3 => absurd hc3 (by decide)) (fun _ => ?_)
  refine zE hG [] (.exit 0) (⟨[(0, [], .c (.d (.i 1))), (1, [], .c (.d (.i 0))), (4, [], .c (.bx 100 0)), (5, [], .c (.d (.b false)))], [(100, .box 26 [.d (.i 0), .d (.i 0)])]⟩) (by kernel_rfl) conj0 rfl ?_
  refine zc hG [(6, 4, .call (.c (.d (.b true))) [] [])] [1, 0, 1, 1, 1] (false) (by kernel_rfl) (conj1 (fun (hg1 : false = false) => ((within_lit 1 true (by decide) : SpG g _ _ _ _ _)))) (fun hc4 => absurd hc4 (by decide)) (fun _ => ?_)
  exact zr hG [] [] (by kernel_rfl) conj0
theorem parse_1  :
  SpG g 179 [.c (.d (.s (S [49])))] [] (.tup [(true, [.d (.i 1), .d (.i 0)]), (false, [.d (.b true)])]) [] := by
 refine enterB 76 Tryz.func179 (by kernel_rfl) fun fr hG => ?_
 refine zC hG [] [1, 0, 1] (false) (⟨[(0, [], .c (.d (.s (S [49])))), (2, [], .c (.bx 100 0)), (3, [], .c (.d (.b false)))], [(100, .box 26 [.d (.i 0), .d (.i 0)])]⟩) (by kernel_rfl) conj0 (fun hc1 => absurd hc1 (by decide)) (fun _ => ?_)
 refine stepL hG hmix [(3, 1, .call (.tup [(false, [.d (.s (S [49]))]), (false, [.d (.b false)])]) [] []), (4, 1, .call (.tup [(false, [.d (.s (S [49]))]), (false, [.d (.s (S []))]), (false, [.d (.b false)])]) [] [])] [0, 1, 0, 1, 1, 1, 1, 1, 1] ((fun (zz : Nat) => match zz with | 0 => ⟨[(0, [], .c (.d (.s (S [49])))), (2, [], .c (.bx 100 0)), (3, [], .c (.d (.b false))), (4, [], .c (.d (.s (S [49])))), (5, [], .c (.d (.b false))), (7, [], .c (.d (.s (S [])))), (9, [], .c (.d (.i 0))), (32, [], .c (.d (.i 1))), (33, [], .c (.d (.i 0)))], [(100, .box 26 [.d (.i 0), .d (.i 0)])]⟩ | _ => ⟨[(0, [], .c (.d (.s (S [49])))), (2, [], .c (.bx 100 0)), (3, [], .c (.d (.b false))), (4, [], .c (.d (.s (S [49])))), (5, [], .c (.d (.b false))), (7, [], .c (.d (.s (S [])))), (9, [], .c (.d (.i 1))), (32, [], .c (.d (.i 1))), (33, [], .c (.d (.i 1)))], [(100, .box 26 [.d (.i 0), .d (.i 0)])]⟩) 0) _ (by kernel_rfl) (conjC ((cutPrefix_lit [49] [45] [49] false (by decide) (by decide) : SpG g _ _ _ _ _)) (conjC ((cut_lit [49] [46] [49] [] false (by decide) (by decide) : SpG g _ _ _ _ _)) (conj1 (show (S [49]).size + (S []).size ≤ maxLen from (by decide))))) ?_
 refine loopR (σ := Nat) (fun (zz : Nat) => match zz with | k => 2 - k) (fun (zz : Nat) => match zz with | 0 => ⟨[(0, [], .c (.d (.s (S [49])))), (2, [], .c (.bx 100 0)), (3, [], .c (.d (.b false))), (4, [], .c (.d (.s (S [49])))), (5, [], .c (.d (.b false))), (7, [], .c (.d (.s (S [])))), (9, [], .c (.d (.i 0))), (32, [], .c (.d (.i 1))), (33, [], .c (.d (.i 0)))], [(100, .box 26 [.d (.i 0), .d (.i 0)])]⟩ | _ => ⟨[(0, [], .c (.d (.s (S [49])))), (2, [], .c (.bx 100 0)), (3, [], .c (.d (.b false))), (4, [], .c (.d (.s (S [49])))), (5, [], .c (.d (.b false))), (7, [], .c (.d (.s (S [])))), (9, [], .c (.d (.i 1))), (32, [], .c (.d (.i 1))), (33, [], .c (.d (.i 1)))], [(100, .box 26 [.d (.i 0), .d (.i 0)])]⟩) (fun (zz : Nat) => match zz with | k => k ≤ 1) 0 (by kernel_rfl) ?_ ?_
 ·exact Nat.zero_le _
 rintro k hI
 rcases (by omega : k = 0 ∨ k = 1) with rfl | rfl
 ·skip
  refine zc hG [] [0, 1] (true) (by kernel_rfl) conj0 (fun _ => ?_) (fun hc3 => absurd hc3 (by decide))
  refine zC hG [] [1, 0, 1, 0, 0, 1, 1] (false) (⟨[(0, [], .c (.d (.s (S [49])))), (2, [], .c (.bx 100 0)), (3, [], .c (.d (.b false))), (4, [], .c (.d (.s (S [49])))), (5, [], .c (.d (.b false))), (7, [], .c (.d (.s (S [])))), (9, [], .c (.d (.i 0))), (10, [], .c (.d (.i 0))), (32, [], .c (.d (.i 1))), (33, [], .c (.d (.i 0)))], [(100, .box 26 [.d (.i 0), .d (.i 0)])]⟩) (by kernel_rfl) (conjC (show (0 : Int) ≤ 0 ∧ 0 < ((S [49]).size : Int) from (by decide)) (conj1 (show false = false → (0 : Int) ≤ 0 ∧ 0 < ((S [49]).size : Int) from (by decide)))) (fun hc4 => absurd hc4 (by decide)) (fun _ => ?_)
  refine zD hG [] 1 (by kernel_rfl) (conjC (show inR (0 * 10) from (by unfold inR; decide)) (conjC (show (0 : Int) ≤ 0 ∧ 0 < ((S [49]).size : Int) from (by decide)) (conjC (show inR (0 + 1) from (by unfold inR; decide)) (conj1 (show inR (0 + 1) from (by unfold inR; decide)))))) ?_ ?_
  ·(try dsimp only); decide
  ·(try dsimp only); decide
 ·skip
  refine zc hG [] [0, 1] (false) (by kernel_rfl) conj0 (fun hc5 => absurd hc5 (by decide)) (fun _ => ?_)
  refine zE hG [] (.exit 0) (⟨[(0, [], .c (.d (.s (S [49])))), (2, [], .c (.bx 100 0)), (3, [], .c (.d (.b false))), (5, [], .c (.d (.b false))), (7, [], .c (.d (.s (S [])))), (9, [], .c (.d (.i 1)))], [(100, .box 26 [.d (.i 0), .d (.i 0)])]⟩) (by kernel_rfl) conj0 rfl ?_
  refine zC hG [] [1, 0, 1, 1, 1, 1, 1, 1, 1] (false) (⟨[(0, [], .c (.d (.s (S [49])))), (2, [], .c (.bx 100 0)), (3, [], .c (.d (.b false))), (7, [], .c (.d (.s (S [])))), (9, [], .c (.d (.i 1)))], [(100, .box 26 [.d (.i 0), .d (.i 0)])]⟩) (by kernel_rfl) conj0 (fun hc6 => absurd hc6 (by decide)) (fun _ => ?_)
  refine zC hG [(16, 3, .call (.tup [(true, [.d (.i 1), .d (.i 0)]), (false, [.d (.b true)])]) [] []), (17, 4, .call (.c (.d (.s (S [49])))) [] [])] [1, 0, 1, 1, 1, 1, 1, 1, 1, 1, 1] (false) (⟨[(2, [], .c (.bx 100 0)), (3, [], .c (.d (.b false))), (11, [], .c (.bx 1707 0))], [(100, .box 26 [.d (.i 0), .d (.i 0)]), (1707, .box 26 [.d (.i 1), .d (.i 0)])]⟩) (by kernel_rfl) (conjC ((make_1_0 : SpG g _ _ _ _ _)) (conj1 (fun (hg1 : false = false) => ((decText_lit 1 0 [49] (by decide) decT_10 : SpG g _ _ _ _ _))))) (fun hc7 => absurd hc7 (by decide)) (fun _ => ?_)
  exact zr hG [] [] (by kernel_rfl) conj0
theorem parse_1x2e0  :
  SpG g 179 [.c (.d (.s (S [49, 46, 48])))] [] (.tup [(true, [.d (.i 0), .d (.i 0)]), (false, [.d (.b false)])]) [] := by
 refine enterB 76 Tryz.func179 (by kernel_rfl) fun fr hG => ?_
 refine zC hG [] [1, 0, 1] (false) (⟨[(0, [], .c (.d (.s (S [49, 46, 48])))), (2, [], .c (.bx 100 0)), (3, [], .c (.d (.b false)))], [(100, .box 26 [.d (.i 0), .d (.i 0)])]⟩) (by kernel_rfl) conj0 (fun hc1 => absurd hc1 (by decide)) (fun _ => ?_)
 refine stepL hG hmix [(3, 1, .call (.tup [(false, [.d (.s (S [49, 46, 48]))]), (false, [.d (.b false)])]) [] []), (4, 1, .call (.tup [(false, [.d (.s (S [49]))]), (false, [.d (.s (S [48]))]), (false, [.d (.b true)])]) [] [])] [0, 1, 0, 1, 1, 1, 1, 1, 1] ((fun (zz : Nat) => match zz with | 0 => ⟨[(0, [], .c (.d (.s (S [49, 46, 48])))), (2, [], .c (.bx 100 0)), (3, [], .c (.d (.b false))), (4, [], .c (.d (.s (S [49, 48])))), (5, [], .c (.d (.b false))), (7, [], .c (.d (.s (S [48])))), (9, [], .c (.d (.i 0))), (32, [], .c (.d (.i 2))), (33, [], .c (.d (.i 0)))], [(100, .box 26 [.d (.i 0), .d (.i 0)])]⟩ | 1 => ⟨[(0, [], .c (.d (.s (S [49, 46, 48])))), (2, [], .c (.bx 100 0)), (3, [], .c (.d (.b false))), (4, [], .c (.d (.s (S [49, 48])))), (5, [], .c (.d (.b false))), (7, [], .c (.d (.s (S [48])))), (9, [], .c (.d (.i 1))), (32, [], .c (.d (.i 2))), (33, [], .c (.d (.i 1)))], [(100, .box 26 [.d (.i 0), .d (.i 0)])]⟩ | _ => ⟨[(0, [], .c (.d (.s (S [49, 46, 48])))), (2, [], .c (.bx 100 0)), (3, [], .c (.d (.b false))), (4, [], .c (.d (.s (S [49, 48])))), (5, [], .c (.d (.b false))), (7, [], .c (.d (.s (S [48])))), (9, [], .c (.d (.i 10))), (32, [], .c (.d (.i 2))), (33, [], .c (.d (.i 2)))], [(100, .box 26 [.d (.i 0), .d (.i 0)])]⟩) 0) _ (by kernel_rfl) (conjC ((cutPrefix_lit [49, 46, 48] [45] [49, 46, 48] false (by decide) (by decide) : SpG g _ _ _ _ _)) (conjC ((cut_lit [49, 46, 48] [46] [49] [48] true (by decide) (by decide) : SpG g _ _ _ _ _)) (conj1 (show (S [49]).size + (S [48]).size ≤ maxLen from (by decide))))) ?_
 refine loopR (σ := Nat) (fun (zz : Nat) => match zz with | k => 3 - k) (fun (zz : Nat) => match zz with | 0 => ⟨[(0, [], .c (.d (.s (S [49, 46, 48])))), (2, [], .c (.bx 100 0)), (3, [], .c (.d (.b false))), (4, [], .c (.d (.s (S [49, 48])))), (5, [], .c (.d (.b false))), (7, [], .c (.d (.s (S [48])))), (9, [], .c (.d (.i 0))), (32, [], .c (.d (.i 2))), (33, [], .c (.d (.i 0)))], [(100, .box 26 [.d (.i 0), .d (.i 0)])]⟩ | 1 => ⟨[(0, [], .c (.d (.s (S [49, 46, 48])))), (2, [], .c (.bx 100 0)), (3, [], .c (.d (.b false))), (4, [], .c (.d (.s (S [49, 48])))), (5, [], .c (.d (.b false))), (7, [], .c (.d (.s (S [48])))), (9, [], .c (.d (.i 1))), (32, [], .c (.d (.i 2))), (33, [], .c (.d (.i 1)))], [(100, .box 26 [.d (.i 0), .d (.i 0)])]⟩ | _ => ⟨[(0, [], .c (.d (.s (S [49, 46, 48])))), (2, [], .c (.bx 100 0)), (3, [], .c (.d (.b false))), (4, [], .c (.d (.s (S [49, 48])))), (5, [], .c (.d (.b false))), (7, [], .c (.d (.s (S [48])))), (9, [], .c (.d (.i 10))), (32, [], .c (.d (.i 2))), (33, [], .c (.d (.i 2)))], [(100, .box 26 [.d (.i 0), .d (.i 0)])]⟩) (fun (zz : Nat) => match zz with | k => k ≤ 2) 0 (by kernel_rfl) ?_ ?_
 ·exact Nat.zero_le _
 rintro k hI
 rcases (by omega : k = 0 ∨ k = 1 ∨ k = 2) with rfl | rfl | rfl
 ·skip
  refine zc hG [] [0, 1] (true) (by kernel_rfl) conj0 (fun _ => ?_) (fun hc3 => absurd hc3 (by decide))
  refine zC hG [] [1, 0, 1, 0, 0, 1, 1] (false) (⟨[(0, [], .c (.d (.s (S [49, 46, 48])))), (2, [], .c (.bx 100 0)), (3, [], .c (.d (.b false))), (4, [], .c (.d (.s (S [49, 48])))), (5, [], .c (.d (.b false))), (7, [], .c (.d (.s (S [48])))), (9, [], .c (.d (.i 0))), (10, [], .c (.d (.i 0))), (32, [], .c (.d (.i 2))), (33, [], .c (.d (.i 0)))], [(100, .box 26 [.d (.i 0), .d (.i 0)])]⟩) (by kernel_rfl) (conjC (show (0 : Int) ≤ 0 ∧ 0 < ((S [49, 48]).size : Int) from (by decide)) (conj1 (show false = false → (0 : Int) ≤ 0 ∧ 0 < ((S [49, 48]).size : Int) from (by decide)))) (fun hc4 => absurd hc4 (by decide)) (fun _ => ?_)
  refine zD hG [] 1 (by kernel_rfl) (conjC (show inR (0 * 10) from (by unfold inR; decide)) (conjC (show (0 : Int) ≤ 0 ∧ 0 < ((S [49, 48]).size : Int) from (by decide)) (conjC (show inR (0 + 1) from (by unfold inR; decide)) (conj1 (show inR (0 + 1) from (by unfold inR; decide)))))) ?_ ?_
  ·(try dsimp only); decide
  ·(try dsimp only); decide
 ·skip
  refine zc hG [] [0, 1] (true) (by kernel_rfl) conj0 (fun _ => ?_) (fun hc5 => absurd hc5 (by decide))
  refine zC hG [] [1, 0, 1, 0, 0, 1, 1] (false) (⟨[(0, [], .c (.d (.s (S [49, 46, 48])))), (2, [], .c (.bx 100 0)), (3, [], .c (.d (.b false))), (4, [], .c (.d (.s (S [49, 48])))), (5, [], .c (.d (.b false))), (7, [], .c (.d (.s (S [48])))), (9, [], .c (.d (.i 1))), (10, [], .c (.d (.i 1))), (32, [], .c (.d (.i 2))), (33, [], .c (.d (.i 1)))], [(100, .box 26 [.d (.i 0), .d (.i 0)])]⟩) (by kernel_rfl) (conjC (show (0 : Int) ≤ 1 ∧ 1 < ((S [49, 48]).size : Int) from (by decide)) (conj1 (show false = false → (0 : Int) ≤ 1 ∧ 1 < ((S [49, 48]).size : Int) from (by decide)))) (fun hc6 => absurd hc6 (by decide)) (fun _ => ?_)
  refine zD hG [] 2 (by kernel_rfl) (conjC (show inR (1 * 10) from (by unfold inR; decide)) (conjC (show (0 : Int) ≤ 1 ∧ 1 < ((S [49, 48]).size : Int) from (by decide)) (conjC (show inR (10 + 0) from (by unfold inR; decide)) (conj1 (show inR (1 + 1) from (by unfold inR; decide)))))) ?_ ?_
  ·(try dsimp only); decide
  ·(try dsimp only); decide
 ·skip
  refine zc hG [] [0, 1] (false) (by kernel_rfl) conj0 (fun hc7 => absurd hc7 (by decide)) (fun _ => ?_)
  refine zE hG [] (.exit 0) (⟨[(0, [], .c (.d (.s (S [49, 46, 48])))), (2, [], .c (.bx 100 0)), (3, [], .c (.d (.b false))), (5, [], .c (.d (.b false))), (7, [], .c (.d (.s (S [48])))), (9, [], .c (.d (.i 10)))], [(100, .box 26 [.d (.i 0), .d (.i 0)])]⟩) (by kernel_rfl) conj0 rfl ?_
  refine zC hG [] [1, 0, 1, 1, 1, 1, 1, 1, 1] (false) (⟨[(0, [], .c (.d (.s (S [49, 46, 48])))), (2, [], .c (.bx 100 0)), (3, [], .c (.d (.b false))), (7, [], .c (.d (.s (S [48])))), (9, [], .c (.d (.i 10)))], [(100, .box 26 [.d (.i 0), .d (.i 0)])]⟩) (by kernel_rfl) conj0 (fun hc8 => absurd hc8 (by decide)) (fun _ => ?_)
  refine zC hG [(16, 3, .call (.tup [(true, [.d (.i 1), .d (.i 0)]), (false, [.d (.b true)])]) [] []), (17, 4, .call (.c (.d (.s (S [49])))) [] [])] [1, 0, 1, 1, 1, 1, 1, 1, 1, 1, 1] (true) (⟨[(2, [], .c (.bx 100 0)), (3, [], .c (.d (.b false))), (11, [], .c (.bx 1707 0))], [(100, .box 26 [.d (.i 0), .d (.i 0)]), (1707, .box 26 [.d (.i 1), .d (.i 0)])]⟩) (by kernel_rfl) (conjC ((make_10_1 : SpG g _ _ _ _ _)) (conj1 (fun (hg1 : false = false) => ((decText_lit 1 0 [49] (by decide) decT_10 : SpG g _ _ _ _ _))))) (fun _ => ?_) (fun hc9 => absurd hc9 (by decide))
  exact zr hG [] [] (by kernel_rfl) conj0
theorem rd_number_1x2e0  :
  SpG g 132 [.c (.bx 0 0)] [(0, .box 90 [.d (.s (S [49, 46, 48]))])] (.tup [(true, [.d (.i 2), .d (.s (S [])), .d (.i 0), .d (.i 0), .d (.i 0), .d (.nil), .d (.nil)]), (false, [.d (.b false)])]) [(0, .box 90 [.d (.s (S []))])] := by
 refine enterB 15 Tryz.func132 (by kernel_rfl) fun fr hG => ?_
 exact zr hG [(1, 1, .call (.c (.d (.s (S [49, 46, 48])))) [] [[.s (S [])]]), (1, 2, .call (.tup [(true, [.d (.i 0), .d (.i 0)]), (false, [.d (.b false)])]) [] [])] [] (by kernel_rfl) (conjC ((word_1x2e0 : SpG g _ _ _ _ _)) (conj1 ((parse_1x2e0 : SpG g _ _ _ _ _))))
theorem rd_number_1  :
  SpG g 132 [.c (.bx 0 0)] [(0, .box 90 [.d (.s (S [49]))])] (.tup [(true, [.d (.i 2), .d (.s (S [])), .d (.i 1), .d (.i 0), .d (.i 0), .d (.nil), .d (.nil)]), (false, [.d (.b true)])]) [(0, .box 90 [.d (.s (S []))])] := by
 refine enterB 15 Tryz.func132 (by kernel_rfl) fun fr hG => ?_
 exact zr hG [(1, 1, .call (.c (.d (.s (S [49])))) [] [[.s (S [])]]), (1, 2, .call (.tup [(true, [.d (.i 1), .d (.i 0)]), (false, [.d (.b true)])]) [] [])] [] (by kernel_rfl) (conjC ((word_1 : SpG g _ _ _ _ _)) (conj1 ((parse_1 : SpG g _ _ _ _ _))))
theorem rd_bool_2  :
  SpG g 134 [.c (.bx 0 0)] [(0, .box 90 [.d (.s (S [50]))])] (.tup [(true, [.d (.i 4), .d (.s (S [])), .d (.i 0), .d (.i 0), .d (.i (-1)), .d (.nil), .d (.nil)]), (false, [.d (.b true)])]) [(0, .box 90 [.d (.s (S []))])] := by
 refine enterB 13 Tryz.func134 (by kernel_rfl) fun fr hG => ?_
 exact zr hG [(1, 1, .call (.c (.d (.s (S [50])))) [] [[.s (S [])]]), (2, 1, .call (.c (.d (.i (-1)))) [] [])] [] (by kernel_rfl) (conjC ((word_2 : SpG g _ _ _ _ _)) (conj1 ((index_lit [48, 49] 50 (-1) (by decide) : SpG g _ _ _ _ _))))
theorem rd_text_ax7cbx27x7cx231  :
  SpG g 131 [.c (.bx 0 0)] [(0, .box 90 [.d (.s (S [97, 124, 98, 39, 124, 35, 49]))])] (.tup [(true, [.d (.i 1), .d (.s (S [97, 124, 98])), .d (.i 0), .d (.i 0), .d (.i 0), .d (.nil), .d (.nil)]), (false, [.d (.b true)])]) [(0, .box 90 [.d (.s (S [124, 35, 49]))])] := by
 refine enterB 37 Tryz.func131 (by kernel_rfl) fun fr hG => ?_
 refine stepL hG hmix [] [0, 1, 1] ((fun (zz : Nat) => match zz with | _ => ⟨[(0, [], .c (.bx 0 0)), (2, [], .c (.bx 100 0)), (3, [], .c (.d (.b false))), (4, [], .c (.bx 200 0))], [(0, .box 90 [.d (.s (S [97, 124, 98, 39, 124, 35, 49]))]), (100, .box 30 [.d (.i 0), .d (.s (S [])), .d (.i 0), .d (.i 0), .d (.i 0), .d (.nil), .d (.nil)]), (200, .box 80 [.d (.v (.pointer none)), .d (.nil)])]⟩) 0) _ (by kernel_rfl) conj0 ?_
 refine loopR (σ := Nat) (fun (zz : Nat) => match zz with | k => 1 - k) (fun (zz : Nat) => match zz with | _ => ⟨[(0, [], .c (.bx 0 0)), (2, [], .c (.bx 100 0)), (3, [], .c (.d (.b false))), (4, [], .c (.bx 200 0))], [(0, .box 90 [.d (.s (S [97, 124, 98, 39, 124, 35, 49]))]), (100, .box 30 [.d (.i 0), .d (.s (S [])), .d (.i 0), .d (.i 0), .d (.i 0), .d (.nil), .d (.nil)]), (200, .box 80 [.d (.v (.pointer none)), .d (.nil)])]⟩) (fun (zz : Nat) => match zz with | k => k ≤ 0) 0 (by kernel_rfl) ?_ ?_
 ·exact Nat.zero_le _
 rintro k hI
 rcases (by omega : k = 0) with rfl
 ·skip
  refine zC hG [(2, 4, .call (.c (.d (.i 3))) [] [])] [1, 0, 1, 0] (false) (⟨[(0, [], .c (.bx 0 0)), (2, [], .c (.bx 100 0)), (3, [], .c (.d (.b false))), (4, [], .c (.bx 200 0)), (5, [], .c (.d (.i 3)))], [(0, .box 90 [.d (.s (S [97, 124, 98, 39, 124, 35, 49]))]), (100, .box 30 [.d (.i 0), .d (.s (S [])), .d (.i 0), .d (.i 0), .d (.i 0), .d (.nil), .d (.nil)]), (200, .box 80 [.d (.v (.pointer none)), .d (.nil)])]⟩) (by kernel_rfl) (conj1 ((indexByte_lit [97, 124, 98, 39, 124, 35, 49] 39 3 (by decide) : SpG g _ _ _ _ _))) (fun hc2 => absurd hc2 (by decide)) (fun _ => ?_)
  refine zC hG [(5, 6, .callG (.tup [(false, [.d (.i ((S [97, 124, 98]).size : Int))]), (false, [.d (.v (.nilIface))])]) [200] [(0, .box 80 [.bx 0 0, .ar 100 0]), (100, .arr 0 5 1 (bytesD (S [97, 124, 98]).data.toList))]), (7, 1, .call (.c (.d (.b false))) [] [[.s (S [124, 35, 49])]])] [1, 0, 1, 1, 1, 1, 0] (true) (⟨[(0, [], .c (.bx 0 0)), (2, [], .c (.bx 100 0)), (3, [], .c (.d (.b false))), (4, [], .c (.bx 200 0))], [(0, .box 90 [.d (.s (S [124, 35, 49]))]), (100, .box 30 [.d (.i 0), .d (.s (S [])), .d (.i 0), .d (.i 0), .d (.i 0), .d (.nil), .d (.nil)]), (200, .box 80 [.bx 200 0, .ar 606 0]), (606, .arr 0 5 1 (bytesD (S [97, 124, 98]).data.toList))]⟩) (by kernel_rfl) (conjC (show (0 : Int) ≤ 0 ∧ (0 : Int) ≤ 3 ∧ 3 ≤ ((S [97, 124, 98, 39, 124, 35, 49]).size : Int) from (by decide)) (conjC ((writeStringN (S [97, 124, 98]) (by decide) : SpG g _ _ _ _ _)) (conjC (show inR (3 + 1) from (by unfold inR; decide)) (conjC (show (0 : Int) ≤ 4 ∧ (4 : Int) ≤ ((S [97, 124, 98, 39, 124, 35, 49]).size : Int) ∧ ((S [97, 124, 98, 39, 124, 35, 49]).size : Int) ≤ ((S [97, 124, 98, 39, 124, 35, 49]).size : Int) from (by decide)) (conj1 ((skip_x7cx231_39 : SpG g _ _ _ _ _))))))) (fun _ => ?_) (fun hc3 => absurd hc3 (by decide))
  refine zE hG [(8, 0, .callG (.c (.d (.s (S [97, 124, 98])))) [200, 606] [(0, .box 80 [.bx 0 0, .any]), (1, .arr 0 5 1 (([] : List (List D))))])] .ret (⟨[(2, [], .c (.bx 100 0)), (3, [], .c (.d (.b true)))], [(0, .box 90 [.d (.s (S [124, 35, 49]))]), (100, .box 30 [.d (.i 1), .d (.s (S [97, 124, 98])), .d (.i 0), .d (.i 0), .d (.i 0), .d (.nil), .d (.nil)])]⟩) (by kernel_rfl) (conj1 ((builderString (bytesD (S [97, 124, 98]).data.toList) (S [97, 124, 98]) rfl : SpG g _ _ _ _ _))) rfl ?_
  exact zr hG [] [] (by kernel_rfl) conj0
theorem cell_x231x2e0  :
  SpG g 86 [.c (.bx 0 0)] [(0, .box 90 [.d (.s (S [35, 49, 46, 48]))])] (.tup [(true, [.d (.i 2), .d (.s (S [])), .d (.i 0), .d (.i 0), .d (.i 0), .d (.nil), .d (.nil)]), (false, [.d (.b false)])]) [(0, .box 90 [.d (.s (S []))])] := by
 refine enterB 50 Tryz.func86 (by kernel_rfl) fun fr hG => ?_
 refine zC hG [] [1, 0, 1] (false) (⟨[(0, [], .c (.bx 0 0)), (2, [], .c (.bx 100 0)), (3, [], .c (.d (.b false)))], [(0, .box 90 [.d (.s (S [35, 49, 46, 48]))]), (100, .box 30 [.d (.i 0), .d (.s (S [])), .d (.i 0), .d (.i 0), .d (.i 0), .d (.nil), .d (.nil)])]⟩) (by kernel_rfl) conj0 (fun hc1 => absurd hc1 (by decide)) (fun _ => ?_)
 refine zC hG [(4, 6, .elem [.i 2])] [1, 0, 1, 1, 1, 1] (false) (⟨[(0, [], .c (.bx 0 0)), (2, [], .c (.bx 100 0)), (3, [], .c (.d (.b false))), (5, [], .c (.fn 132 [(0, 0)] []))], [(0, .box 90 [.d (.s (S [35, 49, 46, 48]))]), (100, .box 30 [.d (.i 0), .d (.s (S [])), .d (.i 0), .d (.i 0), .d (.i 0), .d (.nil), .d (.nil)])]⟩) (by kernel_rfl) (conjC (show (0 : Int) ≤ 0 ∧ 0 < ((S [35, 49, 46, 48]).size : Int) from (by decide)) (conj1 (show (35 : Int) = 35 from (by decide)))) (fun hc2 => absurd hc2 (by decide)) (fun _ => ?_)
 exact zr hG [(8, 1, .call (.tup [(true, [.d (.i 2), .d (.s (S [])), .d (.i 0), .d (.i 0), .d (.i 0), .d (.nil), .d (.nil)]), (false, [.d (.b false)])]) [] [[.s (S [])]])] [] (by kernel_rfl) (conjC (show (0 : Int) ≤ 1 ∧ (1 : Int) ≤ ((S [35, 49, 46, 48]).size : Int) ∧ ((S [35, 49, 46, 48]).size : Int) ≤ ((S [35, 49, 46, 48]).size : Int) from (by decide)) (conj1 ((rd_number_1x2e0 : SpG g _ _ _ _ _))))
theorem cell_x231  :
  SpG g 86 [.c (.bx 0 0)] [(0, .box 90 [.d (.s (S [35, 49]))])] (.tup [(true, [.d (.i 2), .d (.s (S [])), .d (.i 1), .d (.i 0), .d (.i 0), .d (.nil), .d (.nil)]), (false, [.d (.b true)])]) [(0, .box 90 [.d (.s (S []))])] := by
 refine enterB 50 Tryz.func86 (by kernel_rfl) fun fr hG => ?_
 refine zC hG [] [1, 0, 1] (false) (⟨[(0, [], .c (.bx 0 0)), (2, [], .c (.bx 100 0)), (3, [], .c (.d (.b false)))], [(0, .box 90 [.d (.s (S [35, 49]))]), (100, .box 30 [.d (.i 0), .d (.s (S [])), .d (.i 0), .d (.i 0), .d (.i 0), .d (.nil), .d (.nil)])]⟩) (by kernel_rfl) conj0 (fun hc1 => absurd hc1 (by decide)) (fun _ => ?_)
 refine zC hG [(4, 6, .elem [.i 2])] [1, 0, 1, 1, 1, 1] (false) (⟨[(0, [], .c (.bx 0 0)), (2, [], .c (.bx 100 0)), (3, [], .c (.d (.b false))), (5, [], .c (.fn 132 [(0, 0)] []))], [(0, .box 90 [.d (.s (S [35, 49]))]), (100, .box 30 [.d (.i 0), .d (.s (S [])), .d (.i 0), .d (.i 0), .d (.i 0), .d (.nil), .d (.nil)])]⟩) (by kernel_rfl) (conjC (show (0 : Int) ≤ 0 ∧ 0 < ((S [35, 49]).size : Int) from (by decide)) (conj1 (show (35 : Int) = 35 from (by decide)))) (fun hc2 => absurd hc2 (by decide)) (fun _ => ?_)
 exact zr hG [(8, 1, .call (.tup [(true, [.d (.i 2), .d (.s (S [])), .d (.i 1), .d (.i 0), .d (.i 0), .d (.nil), .d (.nil)]), (false, [.d (.b true)])]) [] [[.s (S [])]])] [] (by kernel_rfl) (conjC (show (0 : Int) ≤ 1 ∧ (1 : Int) ≤ ((S [35, 49]).size : Int) ∧ ((S [35, 49]).size : Int) ≤ ((S [35, 49]).size : Int) from (by decide)) (conj1 ((rd_number_1 : SpG g _ _ _ _ _))))
theorem cell_x3f2  :
  SpG g 86 [.c (.bx 0 0)] [(0, .box 90 [.d (.s (S [63, 50]))])] (.tup [(true, [.d (.i 4), .d (.s (S [])), .d (.i 0), .d (.i 0), .d (.i (-1)), .d (.nil), .d (.nil)]), (false, [.d (.b true)])]) [(0, .box 90 [.d (.s (S []))])] := by
 refine enterB 50 Tryz.func86 (by kernel_rfl) fun fr hG => ?_
 refine zC hG [] [1, 0, 1] (false) (⟨[(0, [], .c (.bx 0 0)), (2, [], .c (.bx 100 0)), (3, [], .c (.d (.b false)))], [(0, .box 90 [.d (.s (S [63, 50]))]), (100, .box 30 [.d (.i 0), .d (.s (S [])), .d (.i 0), .d (.i 0), .d (.i 0), .d (.nil), .d (.nil)])]⟩) (by kernel_rfl) conj0 (fun hc1 => absurd hc1 (by decide)) (fun _ => ?_)
 refine zC hG [(4, 6, .elem [.i 4])] [1, 0, 1, 1, 1, 1] (false) (⟨[(0, [], .c (.bx 0 0)), (2, [], .c (.bx 100 0)), (3, [], .c (.d (.b false))), (5, [], .c (.fn 134 [(0, 0)] []))], [(0, .box 90 [.d (.s (S [63, 50]))]), (100, .box 30 [.d (.i 0), .d (.s (S [])), .d (.i 0), .d (.i 0), .d (.i 0), .d (.nil), .d (.nil)])]⟩) (by kernel_rfl) (conjC (show (0 : Int) ≤ 0 ∧ 0 < ((S [63, 50]).size : Int) from (by decide)) (conj1 (show (63 : Int) = 63 from (by decide)))) (fun hc2 => absurd hc2 (by decide)) (fun _ => ?_)
 exact zr hG [(8, 1, .call (.tup [(true, [.d (.i 4), .d (.s (S [])), .d (.i 0), .d (.i 0), .d (.i (-1)), .d (.nil), .d (.nil)]), (false, [.d (.b true)])]) [] [[.s (S [])]])] [] (by kernel_rfl) (conjC (show (0 : Int) ≤ 1 ∧ (1 : Int) ≤ ((S [63, 50]).size : Int) ∧ ((S [63, 50]).size : Int) ≤ ((S [63, 50]).size : Int) from (by decide)) (conj1 ((rd_bool_2 : SpG g _ _ _ _ _))))
theorem cell_x27ax7cbx27x7cx231  :
  SpG g 86 [.c (.bx 0 0)] [(0, .box 90 [.d (.s (S [39, 97, 124, 98, 39, 124, 35, 49]))])] (.tup [(true, [.d (.i 1), .d (.s (S [97, 124, 98])), .d (.i 0), .d (.i 0), .d (.i 0), .d (.nil), .d (.nil)]), (false, [.d (.b true)])]) [(0, .box 90 [.d (.s (S [124, 35, 49]))])] := by
 refine enterB 50 Tryz.func86 (by kernel_rfl) fun fr hG => ?_
 refine zC hG [] [1, 0, 1] (false) (⟨[(0, [], .c (.bx 0 0)), (2, [], .c (.bx 100 0)), (3, [], .c (.d (.b false)))], [(0, .box 90 [.d (.s (S [39, 97, 124, 98, 39, 124, 35, 49]))]), (100, .box 30 [.d (.i 0), .d (.s (S [])), .d (.i 0), .d (.i 0), .d (.i 0), .d (.nil), .d (.nil)])]⟩) (by kernel_rfl) conj0 (fun hc1 => absurd hc1 (by decide)) (fun _ => ?_)
 refine zC hG [(4, 6, .elem [.i 1])] [1, 0, 1, 1, 1, 1] (false) (⟨[(0, [], .c (.bx 0 0)), (2, [], .c (.bx 100 0)), (3, [], .c (.d (.b false))), (5, [], .c (.fn 131 [(0, 0)] []))], [(0, .box 90 [.d (.s (S [39, 97, 124, 98, 39, 124, 35, 49]))]), (100, .box 30 [.d (.i 0), .d (.s (S [])), .d (.i 0), .d (.i 0), .d (.i 0), .d (.nil), .d (.nil)])]⟩) (by kernel_rfl) (conjC (show (0 : Int) ≤ 0 ∧ 0 < ((S [39, 97, 124, 98, 39, 124, 35, 49]).size : Int) from (by decide)) (conj1 (show (39 : Int) = 39 from (by decide)))) (fun hc2 => absurd hc2 (by decide)) (fun _ => ?_)
 exact zr hG [(8, 1, .call (.tup [(true, [.d (.i 1), .d (.s (S [97, 124, 98])), .d (.i 0), .d (.i 0), .d (.i 0), .d (.nil), .d (.nil)]), (false, [.d (.b true)])]) [] [[.s (S [124, 35, 49])]])] [] (by kernel_rfl) (conjC (show (0 : Int) ≤ 1 ∧ (1 : Int) ≤ ((S [39, 97, 124, 98, 39, 124, 35, 49]).size : Int) ∧ ((S [39, 97, 124, 98, 39, 124, 35, 49]).size : Int) ≤ ((S [39, 97, 124, 98, 39, 124, 35, 49]).size : Int) from (by decide)) (conj1 ((rd_text_ax7cbx27x7cx231 : SpG g _ _ _ _ _))))
theorem value_x231x2e0  :
  SpG g 52 [.c (.bx 0 0)] [(0, .box 90 [.d (.s (S [35, 49, 46, 48]))])] (.tup [(true, [.d (.i 2), .d (.s (S [])), .d (.i 0), .d (.i 0), .d (.i 0), .d (.nil), .d (.nil)]), (false, [.d (.b false)])]) [(0, .box 90 [.d (.s (S []))])] := by
 refine enterB 14 Tryz.func52 (by kernel_rfl) fun fr hG => ?_
 refine zC hG [(1, 1, .call (.c (.d (.b false))) [] [[.s (S [35, 49, 46, 48])]])] [1, 0, 1] (false) (⟨[(0, [], .c (.bx 0 0)), (2, [], .c (.bx 100 0)), (3, [], .c (.d (.b false)))], [(0, .box 90 [.d (.s (S [35, 49, 46, 48]))]), (100, .box 30 [.d (.i 0), .d (.s (S [])), .d (.i 0), .d (.i 0), .d (.i 0), .d (.nil), .d (.nil)])]⟩) (by kernel_rfl) (conj1 ((skip_x231x2e0_91 : SpG g _ _ _ _ _))) (fun hc1 => absurd hc1 (by decide)) (fun _ => ?_)
 exact zr hG [(3, 1, .call (.tup [(true, [.d (.i 2), .d (.s (S [])), .d (.i 0), .d (.i 0), .d (.i 0), .d (.nil), .d (.nil)]), (false, [.d (.b false)])]) [] [[.s (S [])]])] [] (by kernel_rfl) (conj1 ((cell_x231x2e0 : SpG g _ _ _ _ _)))
theorem value_x231  :
  SpG g 52 [.c (.bx 0 0)] [(0, .box 90 [.d (.s (S [35, 49]))])] (.tup [(true, [.d (.i 2), .d (.s (S [])), .d (.i 1), .d (.i 0), .d (.i 0), .d (.nil), .d (.nil)]), (false, [.d (.b true)])]) [(0, .box 90 [.d (.s (S []))])] := by
 refine enterB 14 Tryz.func52 (by kernel_rfl) fun fr hG => ?_
 refine zC hG [(1, 1, .call (.c (.d (.b false))) [] [[.s (S [35, 49])]])] [1, 0, 1] (false) (⟨[(0, [], .c (.bx 0 0)), (2, [], .c (.bx 100 0)), (3, [], .c (.d (.b false)))], [(0, .box 90 [.d (.s (S [35, 49]))]), (100, .box 30 [.d (.i 0), .d (.s (S [])), .d (.i 0), .d (.i 0), .d (.i 0), .d (.nil), .d (.nil)])]⟩) (by kernel_rfl) (conj1 ((skip_x231_91 : SpG g _ _ _ _ _))) (fun hc1 => absurd hc1 (by decide)) (fun _ => ?_)
 exact zr hG [(3, 1, .call (.tup [(true, [.d (.i 2), .d (.s (S [])), .d (.i 1), .d (.i 0), .d (.i 0), .d (.nil), .d (.nil)]), (false, [.d (.b true)])]) [] [[.s (S [])]])] [] (by kernel_rfl) (conj1 ((cell_x231 : SpG g _ _ _ _ _)))
theorem value_x3f2  :
  SpG g 52 [.c (.bx 0 0)] [(0, .box 90 [.d (.s (S [63, 50]))])] (.tup [(true, [.d (.i 4), .d (.s (S [])), .d (.i 0), .d (.i 0), .d (.i (-1)), .d (.nil), .d (.nil)]), (false, [.d (.b true)])]) [(0, .box 90 [.d (.s (S []))])] := by
 refine enterB 14 Tryz.func52 (by kernel_rfl) fun fr hG => ?_
 refine zC hG [(1, 1, .call (.c (.d (.b false))) [] [[.s (S [63, 50])]])] [1, 0, 1] (false) (⟨[(0, [], .c (.bx 0 0)), (2, [], .c (.bx 100 0)), (3, [], .c (.d (.b false)))], [(0, .box 90 [.d (.s (S [63, 50]))]), (100, .box 30 [.d (.i 0), .d (.s (S [])), .d (.i 0), .d (.i 0), .d (.i 0), .d (.nil), .d (.nil)])]⟩) (by kernel_rfl) (conj1 ((skip_x3f2_91 : SpG g _ _ _ _ _))) (fun hc1 => absurd hc1 (by decide)) (fun _ => ?_)
 exact zr hG [(3, 1, .call (.tup [(true, [.d (.i 4), .d (.s (S [])), .d (.i 0), .d (.i 0), .d (.i (-1)), .d (.nil), .d (.nil)]), (false, [.d (.b true)])]) [] [[.s (S [])]])] [] (by kernel_rfl) (conj1 ((cell_x3f2 : SpG g _ _ _ _ _)))
theorem value_x27ax7cbx27x7cx231  :
  SpG g 52 [.c (.bx 0 0)] [(0, .box 90 [.d (.s (S [39, 97, 124, 98, 39, 124, 35, 49]))])] (.tup [(true, [.d (.i 1), .d (.s (S [97, 124, 98])), .d (.i 0), .d (.i 0), .d (.i 0), .d (.nil), .d (.nil)]), (false, [.d (.b true)])]) [(0, .box 90 [.d (.s (S [124, 35, 49]))])] := by
 refine enterB 14 Tryz.func52 (by kernel_rfl) fun fr hG => ?_
 refine zC hG [(1, 1, .call (.c (.d (.b false))) [] [[.s (S [39, 97, 124, 98, 39, 124, 35, 49])]])] [1, 0, 1] (false) (⟨[(0, [], .c (.bx 0 0)), (2, [], .c (.bx 100 0)), (3, [], .c (.d (.b false)))], [(0, .box 90 [.d (.s (S [39, 97, 124, 98, 39, 124, 35, 49]))]), (100, .box 30 [.d (.i 0), .d (.s (S [])), .d (.i 0), .d (.i 0), .d (.i 0), .d (.nil), .d (.nil)])]⟩) (by kernel_rfl) (conj1 ((skip_x27ax7cbx27x7cx231_91 : SpG g _ _ _ _ _))) (fun hc1 => absurd hc1 (by decide)) (fun _ => ?_)
 exact zr hG [(3, 1, .call (.tup [(true, [.d (.i 1), .d (.s (S [97, 124, 98])), .d (.i 0), .d (.i 0), .d (.i 0), .d (.nil), .d (.nil)]), (false, [.d (.b true)])]) [] [[.s (S [124, 35, 49])]])] [] (by kernel_rfl) (conj1 ((cell_x27ax7cbx27x7cx231 : SpG g _ _ _ _ _)))
theorem valRowText_ok (l : List Vl) (hf : ∀ v, v ∈ l → v.fit) :
  SpG g 20 [.c (.d (.sl 7 (valsD l)))] [] (.c (.d (.s (S (rowTextB l))))) [] := by
 refine enterB 20 Tryz.func20 (by kernel_rfl) fun fr hG => ?_
 refine stepLen 0 rfl fun hl0 => ?_
 refine zC hG [] [1, 0, 1] (decide ((((valsD l).length : Int) : Int) > 8)) (⟨[(0, [], .c (.d (.sl 7 (valsD l)))), (2, [], .c (.d (.s (S []))))], []⟩) (by kernel_rfl) conj0 (fun hc1 => ?_) (fun hc1 => ?_)
 ·(try simp only [zq4] at hc1)
  refine zR hG [] [] (.c (.d (.s (S [])))) [] (by kernel_rfl) conj0 ?_ ?_
  ·rw [rowTextB_long (by omega)]
  ·rfl
 ·(try simp only [zq4] at hc1)
  refine zL hG [] [0, 1, 0, 1, 1] (fun (zz : Nat) => match zz with | k => (l.length - k, ⟨[(0, [], .c (.d (.sl 7 (valsD l)))), (2, [], .c (.d (.s (S [])))), (8, [], .c (.d (.sl 7 (valsD l)))), (9, [], .c (.d (.i ((valsD l).length : Int)))), (10, [], .c (.d (.i (k : Int))))], []⟩, k ≤ l.length ∧ ∀ j, j < k → rightB (l.getD j Vl.z) = true)) 0 (by kernel_rfl) conj0 (by kernel_rfl) ?_ ?_
  ·exact ⟨Nat.zero_le _, fun j hj => by omega⟩
  rintro k ⟨hk, hn⟩
  refine zc hG [] [0, 1] (decide (((k : Int) : Int) < ((valsD l).length : Int))) (by kernel_rfl) conj0 (fun hc3 => ?_) (fun hc3 => ?_)
  ·(try simp only [zq4] at hc3)
   refine zc hG [(5, 0, .elem (VlD ((l).getD k Vl.z))), (6, 1, .call (.c (.d (.b (rightB ((l).getD k Vl.z))))) [] [])] [1, 1, 0, 0, 1, 1] (!(rightB ((l).getD k Vl.z))) (by kernel_rfl) (conjC (show (0 : Int) ≤ (k : Int) ∧ (valsD l)[k]? = some (VlD ((l).getD k Vl.z)) from (by intros; exact map_at _ (by omega) (by (try simp only [zq7] at *); omega))) (conj1 ((right_ok ((l).getD k Vl.z) (hf _ (getD_mem (by omega))) : SpG g _ _ _ _ _)))) (fun hc4 => ?_) (fun hc4 => ?_)
   ·(try simp only [zq4] at hc4)
    refine zE hG [] .ret (⟨[(0, [], .c (.d (.sl 7 (valsD l)))), (2, [], .c (.d (.s (S []))))], []⟩) (by kernel_rfl) conj0 rfl ?_
    refine zR hG [] [] (.c (.d (.s (S [])))) [] (by kernel_rfl) conj0 ?_ ?_
    ·rw [rowTextB_bad (k := k) (by omega) (by simpa using hc4)]
    ·rfl
   ·(try simp only [zq4] at hc4)
    refine zD hG [] (k + 1) (by kernel_rfl) (conj1 (show inR ((k : Int) + 1) from (by intros; (try simp only [inR, maxLen, valsD, List.length_map] at *); omega))) ?_ ?_
    ·(try dsimp only); omega
    ·exact ⟨by omega, below_succ hn (by simpa using hc4)⟩
  ·(try simp only [zq4] at hc3)
   refine zE hG [] (.exit 0) (⟨[(0, [], .c (.d (.sl 7 (valsD l)))), (2, [], .c (.d (.s (S []))))], []⟩) (by kernel_rfl) conj0 rfl ?_
   refine zR hG [(9, 1, .call (.c (.d (.s (S (joinL [124] (l.map textB)))))) [] [])] [] (.c (.d (.s (S (joinL [124] (l.map textB)))))) [] (by kernel_rfl) (conj1 ((valJoin_of l [124] (by omega) (Nat.le_trans (texts_len (by omega)) (by decide)) hf decText_ok dateText_ok : SpG g _ _ _ _ _))) ?_ ?_
   ·rw [rowTextB_ok (by omega) (fun j hj => hn j (by omega))]
   ·rfl
theorem fit_lit {v : Vl} (h : decide (v.s.length ≤ 1000) = true) (hc : v.cols = []) (hr : v.rows = []) : v.fit := by
 refine ⟨?_, ?_, ?_⟩
 ·simp only [decide_eq_true_eq] at h; unfold maxLen; omega
 ·rw [hc]; intro t ht; cases ht
 ·rw [hr]; intro t ht; cases ht
def exA : Vl := ⟨1, [97, 124, 98], 0, 0, 0, [], []⟩
def exB : Vl := ⟨2, [], 1, 0, 0, [], []⟩
theorem exA_text : textB exA = [39, 97, 124, 98, 39] := by rw [textB, if_pos (by decide)]; rfl
theorem exB_text : textB exB = [35, 49] := by
 have : textB exB = 35 :: decT 1 0 := by rw [textB, if_pos (by decide)]; rfl
 rw [this, decT_10]
theorem exAB_fit : ∀ v, v ∈ [exA, exB] → v.fit := by
 intro v hv
 simp only [List.mem_cons, List.not_mem_nil, or_false] at hv
 rcases hv with rfl | rfl
 ·exact fit_lit (by decide) rfl rfl
 ·exact fit_lit (by decide) rfl rfl
theorem exAB_text : rowTextB [exA, exB] = [39, 97, 124, 98, 39, 124, 35, 49] := by
 rw [rowTextB, if_pos (by decide), List.map_cons, List.map_cons, exA_text, exB_text]; rfl
theorem rowText_lit : SpG g 20 [.c (.d (.sl 7 (valsD [exA, exB])))] [] (.c (.d (.s (S [39, 97, 124, 98, 39, 124, 35, 49])))) [] := by
 rw [← exAB_text]; exact valRowText_ok _ exAB_fit
theorem read_x231x2e0  :
  SpG g 16 [.c (.d (.s (S [35, 49, 46, 48])))] [] (.tup [(true, [.d (.i 0), .d (.s (S [])), .d (.i 0), .d (.i 0), .d (.i 0), .d (.nil), .d (.nil)]), (false, [.d (.b false)])]) [] := by
 refine enterB 37 Tryz.func16 (by kernel_rfl) fun fr hG => ?_
 refine zC hG [(2, 1, .call (.tup [(true, [.d (.i 2), .d (.s (S [])), .d (.i 0), .d (.i 0), .d (.i 0), .d (.nil), .d (.nil)]), (false, [.d (.b false)])]) [] [[.s (S [])]]), (3, 11, .call (.c (.d (.b false))) [] []), (3, 16, .call (.c (.d (.s (S [])))) [] [])] [1, 0, 1, 1, 1] (true) (⟨[(2, [], .c (.bx 100 0)), (3, [], .c (.d (.b false))), (5, [], .c (.bx 305 0))], [(100, .box 30 [.d (.i 0), .d (.s (S [])), .d (.i 0), .d (.i 0), .d (.i 0), .d (.nil), .d (.nil)]), (305, .box 30 [.d (.i 2), .d (.s (S [])), .d (.i 0), .d (.i 0), .d (.i 0), .d (.nil), .d (.nil)])]⟩) (by kernel_rfl) (conjC ((value_x231x2e0 : SpG g _ _ _ _ _)) (conjC (show true = false → SpG g 13 [.agg [.d (.i 2), .d (.s (S [])), .d (.i 0), .d (.i 0), .d (.i 0), .d (.nil), .d (.nil)]] [] (.c (.d (.b false))) [] from fun hg1 => absurd hg1 (by decide)) (conj1 (show true = false → SpG g 15 [.agg [.d (.i 2), .d (.s (S [])), .d (.i 0), .d (.i 0), .d (.i 0), .d (.nil), .d (.nil)]] [] (.c (.d (.s (S [])))) [] from fun hg1 => absurd hg1 (by decide))))) (fun _ => ?_) (fun hc1 => absurd hc1 (by decide))
 exact zr hG [] [] (by kernel_rfl) conj0
theorem read_x3f2  :
  SpG g 16 [.c (.d (.s (S [63, 50])))] [] (.tup [(true, [.d (.i 0), .d (.s (S [])), .d (.i 0), .d (.i 0), .d (.i 0), .d (.nil), .d (.nil)]), (false, [.d (.b false)])]) [] := by
 refine enterB 37 Tryz.func16 (by kernel_rfl) fun fr hG => ?_
 refine zC hG [(2, 1, .call (.tup [(true, [.d (.i 4), .d (.s (S [])), .d (.i 0), .d (.i 0), .d (.i (-1)), .d (.nil), .d (.nil)]), (false, [.d (.b true)])]) [] [[.s (S [])]]), (3, 11, .call (.c (.d (.b false))) [] []), (3, 16, .call (.c (.d (.s (S [])))) [] [])] [1, 0, 1, 1, 1] (true) (⟨[(2, [], .c (.bx 100 0)), (3, [], .c (.d (.b false))), (5, [], .c (.bx 305 0))], [(100, .box 30 [.d (.i 0), .d (.s (S [])), .d (.i 0), .d (.i 0), .d (.i 0), .d (.nil), .d (.nil)]), (305, .box 30 [.d (.i 4), .d (.s (S [])), .d (.i 0), .d (.i 0), .d (.i (-1)), .d (.nil), .d (.nil)])]⟩) (by kernel_rfl) (conjC ((value_x3f2 : SpG g _ _ _ _ _)) (conjC (fun (hg1 : false = false) => ((spec_mask (ins := [.agg [.d (.i 4), .d (.s (S [])), .d (.i 0), .d (.i 0), .d (.i (-1)), .d (.nil), .d (.nil)]]) [[none, none, none, none, none, some 1, some 1]] (right_lit ⟨4, [], 0, 0, -1, [], []⟩ (fit_lit (by decide) rfl rfl) false (by decide)) : SpG g _ _ _ _ _))) (conj1 (show true = false → SpG g 15 [.agg [.d (.i 4), .d (.s (S [])), .d (.i 0), .d (.i 0), .d (.i (-1)), .d (.nil), .d (.nil)]] [] (.c (.d (.s (S [])))) [] from fun hg1 => absurd hg1 (by decide))))) (fun _ => ?_) (fun hc1 => absurd hc1 (by decide))
 exact zr hG [] [] (by kernel_rfl) conj0
theorem readRow_lit  :
  SpG g 22 [.c (.d (.s (S [39, 97, 124, 98, 39, 124, 35, 49])))] [] (.tup [(false, [.d (.sl 7 (valsD ([exA, exB])))]), (false, [.d (.b true)])]) [] := by
 refine enterB 35 Tryz.func22 (by kernel_rfl) fun fr hG => ?_
 refine zC hG [] [1, 0, 1] (false) (⟨[(0, [], .c (.d (.s (S [39, 97, 124, 98, 39, 124, 35, 49])))), (2, [], .c (.d (.nil))), (3, [], .c (.d (.b false)))], []⟩) (by kernel_rfl) conj0 (fun hc1 => absurd hc1 (by decide)) (fun _ => ?_)
 refine stepL hG hmix [] [0, 0, 1, 1, 1, 1] ((fun (zz : Nat) => match zz with | 0 => ⟨[(0, [], .c (.d (.s (S [39, 97, 124, 98, 39, 124, 35, 49])))), (2, [], .c (.d (.nil))), (3, [], .c (.d (.b false))), (4, [], .c (.bx 402 0)), (5, [], .c (.d (.nil)))], [(402, .box 90 [.d (.s (S [39, 97, 124, 98, 39, 124, 35, 49]))])]⟩ | _ => ⟨[(0, [], .c (.d (.s (S [39, 97, 124, 98, 39, 124, 35, 49])))), (2, [], .c (.d (.nil))), (3, [], .c (.d (.b false))), (4, [], .c (.bx 402 0)), (5, [], .c (.ar 1003 0))], [(402, .box 90 [.d (.s (S [35, 49]))]), (1003, .arr 0 30 7 (([[.i 1, .s (S [97, 124, 98]), .i 0, .i 0, .i 0, .sl 1 ([]), .sl 1 ([])]] : List (List D))))]⟩) 0) _ (by kernel_rfl) conj0 ?_
 refine loopR (σ := Nat) (fun (zz : Nat) => match zz with | k => 2 - k) (fun (zz : Nat) => match zz with | 0 => ⟨[(0, [], .c (.d (.s (S [39, 97, 124, 98, 39, 124, 35, 49])))), (2, [], .c (.d (.nil))), (3, [], .c (.d (.b false))), (4, [], .c (.bx 402 0)), (5, [], .c (.d (.nil)))], [(402, .box 90 [.d (.s (S [39, 97, 124, 98, 39, 124, 35, 49]))])]⟩ | _ => ⟨[(0, [], .c (.d (.s (S [39, 97, 124, 98, 39, 124, 35, 49])))), (2, [], .c (.d (.nil))), (3, [], .c (.d (.b false))), (4, [], .c (.bx 402 0)), (5, [], .c (.ar 1003 0))], [(402, .box 90 [.d (.s (S [35, 49]))]), (1003, .arr 0 30 7 (([[.i 1, .s (S [97, 124, 98]), .i 0, .i 0, .i 0, .sl 1 ([]), .sl 1 ([])]] : List (List D))))]⟩) (fun (zz : Nat) => match zz with | k => k ≤ 1) 0 (by kernel_rfl) ?_ ?_
 ·exact Nat.zero_le _
 rintro k hI
 rcases (by omega : k = 0 ∨ k = 1) with rfl | rfl
 ·skip
  refine zc hG [] [1, 0] (true) (by kernel_rfl) conj0 (fun _ => ?_) (fun hc3 => absurd hc3 (by decide))
  refine zC hG [(6, 1, .call (.tup [(true, [.d (.i 1), .d (.s (S [97, 124, 98])), .d (.i 0), .d (.i 0), .d (.i 0), .d (.nil), .d (.nil)]), (false, [.d (.b true)])]) [] [[.s (S [124, 35, 49])]])] [1, 0, 1, 0, 1] (false) (⟨[(0, [], .c (.d (.s (S [39, 97, 124, 98, 39, 124, 35, 49])))), (2, [], .c (.d (.nil))), (3, [], .c (.d (.b false))), (4, [], .c (.bx 402 0)), (5, [], .c (.d (.nil))), (6, [], .c (.bx 705 0))], [(402, .box 90 [.d (.s (S [124, 35, 49]))]), (705, .box 30 [.d (.i 1), .d (.s (S [97, 124, 98])), .d (.i 0), .d (.i 0), .d (.i 0), .d (.nil), .d (.nil)])]⟩) (by kernel_rfl) (conj1 ((value_x27ax7cbx27x7cx231 : SpG g _ _ _ _ _))) (fun hc4 => absurd hc4 (by decide)) (fun _ => ?_)
  refine zC hG [(9, 2, .mask [none, none, none, none, none, some 1, some 1]), (10, 1, .call (.c (.d (.b true))) [] [[.s (S [35, 49])]])] [1, 1, 1, 1, 0, 1] (false) (⟨[(0, [], .c (.d (.s (S [39, 97, 124, 98, 39, 124, 35, 49])))), (2, [], .c (.d (.nil))), (3, [], .c (.d (.b false))), (4, [], .c (.bx 402 0)), (5, [], .c (.ar 1003 0))], [(402, .box 90 [.d (.s (S [35, 49]))]), (1003, .arr 0 30 7 (([[.i 1, .s (S [97, 124, 98]), .i 0, .i 0, .i 0, .sl 1 ([]), .sl 1 ([])]] : List (List D))))]⟩) (by kernel_rfl) (conjC (show (([[.i 1, .s (S [97, 124, 98]), .i 0, .i 0, .i 0, .sl 1 ([]), .sl 1 ([])]] : List (List D))).length * (96 + 1) ≤ 140737488355328 from (by intros; first | decide | (unfold inR; decide))) (conj1 ((skip_x7cx231_124 : SpG g _ _ _ _ _)))) (fun hc5 => absurd hc5 (by decide)) (fun _ => ?_)
  refine zD hG [] 1 (by kernel_rfl) conj0 ?_ ?_
  ·(try dsimp only); decide
  ·(try dsimp only); decide
 ·skip
  refine zc hG [] [1, 0] (decide ((((([[.i 1, .s (S [97, 124, 98]), .i 0, .i 0, .i 0, .sl 1 ([]), .sl 1 ([])]] : List (List D))).length : Int) : Int) < 8)) (by kernel_rfl) conj0 (fun hc6 => ?_) (fun hc6 => ?_)
  ·(try simp only [blS] at hc6)
   refine zC hG [(6, 1, .call (.tup [(true, [.d (.i 2), .d (.s (S [])), .d (.i 1), .d (.i 0), .d (.i 0), .d (.nil), .d (.nil)]), (false, [.d (.b true)])]) [] [[.s (S [])]])] [1, 0, 1, 0, 1] (false) (⟨[(0, [], .c (.d (.s (S [39, 97, 124, 98, 39, 124, 35, 49])))), (2, [], .c (.d (.nil))), (3, [], .c (.d (.b false))), (4, [], .c (.bx 402 0)), (5, [], .c (.ar 1003 0)), (6, [], .c (.bx 705 0))], [(402, .box 90 [.d (.s (S []))]), (705, .box 30 [.d (.i 2), .d (.s (S [])), .d (.i 1), .d (.i 0), .d (.i 0), .d (.nil), .d (.nil)]), (1003, .arr 0 30 7 (([[.i 1, .s (S [97, 124, 98]), .i 0, .i 0, .i 0, .sl 1 ([]), .sl 1 ([])]] : List (List D))))]⟩) (by kernel_rfl) (conj1 ((value_x231 : SpG g _ _ _ _ _))) (fun hc7 => absurd hc7 (by decide)) (fun _ => ?_)
   refine zC hG [(9, 2, .mask [none, none, none, none, none, some 1, some 1]), (10, 1, .call (.c (.d (.b false))) [] [[.s (S [])]])] [1, 1, 1, 1, 0, 1] (true) (⟨[(0, [], .c (.d (.s (S [39, 97, 124, 98, 39, 124, 35, 49])))), (2, [], .c (.d (.nil))), (3, [], .c (.d (.b false))), (4, [], .c (.bx 402 0)), (5, [], .c (.ar 1003 0))], [(402, .box 90 [.d (.s (S []))]), (1003, .arr 0 30 7 (([[.i 1, .s (S [97, 124, 98]), .i 0, .i 0, .i 0, .sl 1 ([]), .sl 1 ([])]] : List (List D)) ++ ([[.i 2, .s (S []), .i 1, .i 0, .i 0, .sl 1 ([]), .sl 1 ([])]] : List (List D))))]⟩) (by kernel_rfl) (conjC (show ((([[.i 1, .s (S [97, 124, 98]), .i 0, .i 0, .i 0, .sl 1 ([]), .sl 1 ([])]] : List (List D))).length + (([[.i 2, .s (S []), .i 1, .i 0, .i 0, .sl 1 ([]), .sl 1 ([])]] : List (List D))).length) * (96 + 1) ≤ 140737488355328 from (by intros; first | decide | (unfold inR; decide))) (conj1 ((skip__124 : SpG g _ _ _ _ _)))) (fun _ => ?_) (fun hc8 => absurd hc8 (by decide))
   refine zE hG [] (.exit 0) (⟨[(0, [], .c (.d (.s (S [39, 97, 124, 98, 39, 124, 35, 49])))), (2, [], .c (.d (.nil))), (3, [], .c (.d (.b false))), (5, [], .c (.ar 1003 0))], [(1003, .arr 0 30 7 (([[.i 1, .s (S [97, 124, 98]), .i 0, .i 0, .i 0, .sl 1 ([]), .sl 1 ([])]] : List (List D)) ++ ([[.i 2, .s (S []), .i 1, .i 0, .i 0, .sl 1 ([]), .sl 1 ([])]] : List (List D))))]⟩) (by kernel_rfl) conj0 rfl ?_
   refine zC hG [(11, 1, .call (.c (.d (.s (S [39, 97, 124, 98, 39, 124, 35, 49])))) [] [])] [1, 0, 1, 1, 1, 1, 1] (false) (⟨[(2, [], .c (.d (.nil))), (3, [], .c (.d (.b false))), (5, [], .c (.ar 1003 0))], [(1003, .arr 0 30 7 (([[.i 1, .s (S [97, 124, 98]), .i 0, .i 0, .i 0, .sl 1 ([]), .sl 1 ([])]] : List (List D)) ++ ([[.i 2, .s (S []), .i 1, .i 0, .i 0, .sl 1 ([]), .sl 1 ([])]] : List (List D))))]⟩) (by kernel_rfl) (conj1 ((rowText_lit : SpG g _ _ _ _ _))) (fun hc9 => absurd hc9 (by decide)) (fun _ => ?_)
   exact zr hG [] [] (by kernel_rfl) conj0
  ·(try simp only [blS] at hc6)
   exact absurd (by decide) hc6
end Go.Proofs.YtmpgfchkkemngaaGreatDoor
namespace Go.Proofs.YtmpgfchkkemngaaGreatDoor
open Go.RowKit Go.V
open Go.Eng (inR byteAt u8 bytesV)
variable {g : Gv}
theorem text_lit (v : Vl) (r : List UInt8) (hf : v.fit) (h : textB v = r) : SpG g 15 [vArg v] [] (.c (.d (.s (S r)))) [] := by
 rw [← h]; exact valText_all v hf
def ex1 : Vl := ⟨0, [], 0, 0, 18, [], []⟩
def ex2 : Vl := ⟨0, [], 0, 0, 0, [], []⟩
def ex3 : Vl := ⟨1, [105, 116, 39, 115], 0, 0, 0, [], []⟩
def ex4 : Vl := ⟨2, [], 35, 1, 0, [], []⟩
def ex5 : Vl := ⟨3, [], 0, 0, 0, [], []⟩
def ex6 : Vl := ⟨4, [], 0, 0, 1, [], []⟩
def exX : Cl := ⟨1, [120], 0, 0, 0⟩
def exY : Cl := ⟨2, [], 2, 0, 0⟩
def ex7 : Vl := ⟨5, [], 0, 0, 0, [[97], [98]], [[exX, exY]]⟩
theorem ex1_text : textB ex1 = [33, 49, 56] := by rw [textB, if_pos (by decide)]; rfl
theorem ex2_text : textB ex2 = [33, 48] := by rw [textB, if_pos (by decide)]; rfl
theorem ex3_text : textB ex3 = [39, 105, 116, 39, 39, 115, 39] := by rw [textB, if_pos (by decide)]; rfl
theorem ex4_text : textB ex4 = [35, 51, 46, 53] := by
 have e : textB ex4 = 35 :: decT 35 1 := by rw [textB, if_pos (by decide)]; rfl
 have h1 : natT (10 ^ (1 : Int).toNat + (35 : Int).natAbs % 10 ^ (1 : Int).toNat) = [49, 53] := by
  rw [show 10 ^ (1 : Int).toNat + (35 : Int).natAbs % 10 ^ (1 : Int).toNat = 15 from rfl, natT_high (by decide), show 15 / 10 = 1 from rfl, natT_low (by decide)]; rfl
 rw [e, decT, h1, show (35 : Int).natAbs / 10 ^ (1 : Int).toNat = 3 from rfl, natT_low (by decide)]
 rfl
theorem ex5_text : textB ex5 = [64, 48, 48, 48, 49, 45, 48, 49, 45, 48, 49] := by
 have e : textB ex5 = 64 :: dateText 0 := by rw [textB, if_pos (by decide)]; rfl
 have hc : civ 0 = (1, 1, 1) := civ_eq ⟨by decide, by decide, by decide, by decide, by decide, by decide⟩ (by decide)
 rw [e, dateText, hc]
 rfl
theorem ex6_text : textB ex6 = [63, 49] := by rw [textB, if_pos (by decide)]; rfl
theorem exY_text : cellT exY = [35, 50] := by
 have e : cellT exY = 35 :: decT 2 0 := rfl
 rw [e, decT, show (2 : Int).natAbs / 10 ^ (0 : Int).toNat = 2 from rfl, natT_low (by decide)]
 rfl
theorem ex7_text : textB ex7 = [91, 97, 44, 98, 59, 39, 120, 39, 44, 35, 50, 93] := by
 have e : textB ex7 = [91] ++ joinL [44] [[97], [98]] ++ ([59 :: joinL [44] [cellT exX, cellT exY]]).flatten ++ [93] := by rw [textB, if_pos (by decide)]; rfl
 rw [e, exY_text]
 rfl
theorem ex7_fit : ex7.fit := by
 refine ⟨by simp [ex7], ?_, ?_⟩
 ·have : ∀ t, t ∈ ex7.cols → t.length ≤ 1 := by decide
  intro t ht; have := this t ht; unfold maxLen; omega
 ·have : ∀ r, r ∈ ex7.rows → ∀ c, c ∈ r → c.s.length ≤ 1 := by decide
  intro r hr c hc; have := this r hr c hc; unfold maxLen; omega
theorem same_lit : SpG g 23 [.c (.d (.sl 7 (valsD [exA, exB]))), .c (.d (.sl 7 (valsD [exA, exB])))] [] (.c (.d (.b true))) [] := by
 have := refSame_ok (g := g) [exA, exB] [exA, exB]
 rw [decide_eq_true rfl] at this
 exact this
theorem sanity_ok  :
  SpG g 10 [] [] (.c (.d (.b true))) [] := by
 refine enterB 91 Tryz.func10 (by kernel_rfl) fun fr hG => ?_
 exact zr hG [(1, 4, .elem [.nil, .nil, .nil, .nil, .nil, .sl 1 [], .sl 1 [], .nil, .nil, .nil, .nil, .nil, .sl 1 [], .sl 1 []]), (2, 0, .call (.agg [.d (.i 0), .d (.s (S [])), .d (.i 0), .d (.i 0), .d (.i 18), .d (.nil), .d (.nil)]) [] []), (2, 1, .call (.c (.d (.s (S [33, 49, 56])))) [] []), (2, 5, .call (.c (.d (.s (S [33, 48])))) [] []), (2, 10, .call (.c (.d (.s (S [39, 105, 116, 39, 39, 115, 39])))) [] []), (2, 16, .call (.c (.d (.s (S [35, 51, 46, 53])))) [] []), (3, 1, .call (.c (.d (.s (S [64, 48, 48, 48, 49, 45, 48, 49, 45, 48, 49])))) [] []), (3, 5, .call (.c (.d (.s (S [63, 49])))) [] []), (3, 10, .call (.c (.d (.s (S [91, 97, 44, 98, 59, 39, 120, 39, 44, 35, 50, 93])))) [] []), (4, 3, .mask [none, none, none, none, none, some 1, some 1, none, none, none, none, none, some 1, some 1]), (5, 0, .call (.tup [(false, [.d (.sl 7 (valsD ([exA, exB])))]), (false, [.d (.b true)])]) [] []), (6, 0, .call (.tup [(true, [.d (.i 0), .d (.s (S [])), .d (.i 0), .d (.i 0), .d (.i 0), .d (.nil), .d (.nil)]), (false, [.d (.b false)])]) [] []), (7, 0, .call (.tup [(true, [.d (.i 0), .d (.s (S [])), .d (.i 0), .d (.i 0), .d (.i 0), .d (.nil), .d (.nil)]), (false, [.d (.b false)])]) [] []), (8, 6, .call (.c (.d (.s (S [39, 97, 124, 98, 39, 124, 35, 49])))) [] []), (8, 15, .call (.c (.d (.b true))) [] [])] [] (by kernel_rfl) (conjC ((fail_ok 18 : SpG g _ _ _ _ _)) (conjC ((spec_mask (ins := [.agg [.d (.i 0), .d (.s (S [])), .d (.i 0), .d (.i 0), .d (.i 18), .d (.nil), .d (.nil)]]) [[none, none, none, none, none, some 1, some 1]] (text_lit ex1 [33, 49, 56] (fit_lit (by decide) rfl rfl) ex1_text) : SpG g _ _ _ _ _)) (conjC (fun (hg1 : true = true) => ((spec_mask (ins := [.agg [.d (.i 0), .d (.s (S [])), .d (.i 0), .d (.i 0), .d (.i 0), .d (.nil), .d (.nil)]]) [[none, none, none, none, none, some 1, some 1]] (text_lit ex2 [33, 48] (fit_lit (by decide) rfl rfl) ex2_text) : SpG g _ _ _ _ _))) (conjC (fun (hg1 : true = true) => ((spec_mask (ins := [.agg [.d (.i 1), .d (.s (S [105, 116, 39, 115])), .d (.i 0), .d (.i 0), .d (.i 0), .d (.nil), .d (.nil)]]) [[none, none, none, none, none, some 1, some 1]] (text_lit ex3 [39, 105, 116, 39, 39, 115, 39] (fit_lit (by decide) rfl rfl) ex3_text) : SpG g _ _ _ _ _))) (conjC (fun (hg1 : true = true) => ((spec_mask (ins := [.agg [.d (.i 2), .d (.s (S [])), .d (.i 35), .d (.i 1), .d (.i 0), .d (.nil), .d (.nil)]]) [[none, none, none, none, none, some 1, some 1]] (text_lit ex4 [35, 51, 46, 53] (fit_lit (by decide) rfl rfl) ex4_text) : SpG g _ _ _ _ _))) (conjC ((spec_mask (ins := [.agg [.d (.i 3), .d (.s (S [])), .d (.i 0), .d (.i 0), .d (.i 0), .d (.nil), .d (.nil)]]) [[none, none, none, none, none, some 1, some 1]] (text_lit ex5 [64, 48, 48, 48, 49, 45, 48, 49, 45, 48, 49] (fit_lit (by decide) rfl rfl) ex5_text) : SpG g _ _ _ _ _)) (conjC (fun (hg1 : true = true) => ((spec_mask (ins := [.agg [.d (.i 4), .d (.s (S [])), .d (.i 0), .d (.i 0), .d (.i 1), .d (.nil), .d (.nil)]]) [[none, none, none, none, none, some 1, some 1]] (text_lit ex6 [63, 49] (fit_lit (by decide) rfl rfl) ex6_text) : SpG g _ _ _ _ _))) (conjC (fun (hg1 : true = true) => ((text_lit ex7 [91, 97, 44, 98, 59, 39, 120, 39, 44, 35, 50, 93] ex7_fit ex7_text : SpG g _ _ _ _ _))) (conjC ((readRow_lit : SpG g _ _ _ _ _)) (conjC ((read_x231x2e0 : SpG g _ _ _ _ _)) (conjC ((read_x3f2 : SpG g _ _ _ _ _)) (conjC (fun (hg1 : true = true) => ((rowText_lit : SpG g _ _ _ _ _))) (conj1 (fun (hg1 : true = true) => ((same_lit : SpG g _ _ _ _ _))))))))))))))))
end Go.Proofs.YtmpgfchkkemngaaGreatDoor
namespace Go.Proofs.YtmpgfchkkemngaaGreatDoor
open Go.RowKit Go.V
open Go.Eng (inR byteAt u8 bytesV)
variable {g : Gv}
structure Vl.small (v : Vl) : Prop where
 s : v.s.length ≤ 1000000
 cols : v.cols.length ≤ 1000000
 rows : v.rows.length ≤ 1000000
 each : ∀ r, r ∈ v.rows → r.length ≤ 1000000
theorem take_succ_getD {α : Type} {l : List α} {k : Nat} (z : α) (h : k < l.length) : l.take (k + 1) = l.take k ++ [l.getD k z] := by
 rw [List.take_add_one]; simp [h]
theorem rowStep {l : List Cl} {k : Nat} (h : k < l.length) : rowD (l.take k) ++ [ClD (l.getD k Cl.z)] = rowD (l.take (k + 1)) := by
 rw [take_succ_getD Cl.z h]; simp [rowD]
theorem rowsStep {l : List (List Cl)} {k : Nat} (h : k < l.length) : rowsD (l.take k) ++ [[D.sl 7 (rowD (l.getD k []))]] = rowsD (l.take (k + 1)) := by
 rw [take_succ_getD [] h]; simp [rowsD, rows1]
theorem strs_app (a b : List (List UInt8)) : strs a ++ strs b = strs (a ++ b) := by simp [strs]
def qm (x n : Int) : Int := ((x.tmod n) + n).tmod n
theorem qm_bd (x n : Int) (h : 1 ≤ n) : 0 ≤ qm x n ∧ qm x n < n := by
 have h1 := Int.tmod_lt_of_pos x (show 0 < n by omega)
 have h2 : -n < x.tmod n := by
  have := Int.lt_tmod_of_pos x (show 0 < n by omega)
  omega
 unfold qm
 rw [Int.tmod_eq_emod_of_nonneg (by omega)]
 exact ⟨Int.emod_nonneg _ (by omega), Int.emod_lt_of_pos _ (by omega)⟩
def oddL : List (List UInt8) := [[97], [], [120, 49], [49, 120], [97, 98, 99, 100, 101, 102, 103, 104, 105, 106, 107, 108, 109, 110, 111, 112, 113, 114, 115, 116, 117]]
def oddV (v : Vl) (a b c : Int) : Vl :=
 if qm a 10 = 0 then { v with kind := b.tmod 8 - 1 }
 else if qm a 10 = 1 then { v with s := v.s ++ [u8 b] }
 else if qm a 10 = 2 then { v with dn := b, ds := c.tmod 8 }
 else if qm a 10 = 3 then { v with n := b }
 else if qm a 10 = 4 then { v with cols := v.cols ++ [oddL.getD (qm b 5).toNat []] }
 else if qm a 10 = 5 then { v with rows := v.rows ++ [[]] }
 else if qm a 10 = 6 then (match v.rows with
  | (_ :: r) :: rs => { v with rows := (⟨5, [], 0, 0, 0⟩ :: r) :: rs }
  | _ => v)
 else if qm a 10 = 7 then (match v.rows with
  | (_ :: r) :: rs => { v with rows := (⟨4, [], 0, 0, b.tmod 3⟩ :: r) :: rs }
  | _ => v)
 else if qm a 10 = 8 then { v with s := v.s ++ [39] }
 else { v with rows := v.rows ++ List.replicate (98 + qm b 4).toNat (List.replicate v.cols.length Cl.z) }
theorem odd_at {i : Nat} (h : i < 5) : ([[.s (S [97])], [.s (S [])], [.s (S [120, 49])], [.s (S [49, 120])], [.s (S [97, 98, 99, 100, 101, 102, 103, 104, 105, 106, 107, 108, 109, 110, 111, 112, 113, 114, 115, 116, 117])]] : List (List D))[i]? = some (strD (oddL.getD i [])) := by
 match i, h with
 | 0, _ => rfl
 | 1, _ => rfl
 | 2, _ => rfl
 | 3, _ => rfl
 | 4, _ => rfl
theorem bytes1 (b : Int) : ([[D.y (IntKind.wrap .u8 b)]] : List (List D)) = bytesD (S [u8 b]).data.toList := by
 simp [bytesD, D.y, Eng.wrap_u8, S]
theorem rep_rows (k : Nat) (cols : List (List UInt8)) : rowsD (List.replicate k (List.replicate cols.length Cl.z)) ++ [[D.sl 7 (List.replicate (strs cols).length [D.i 0, D.s (S []), D.i 0, D.i 0, D.i 0, D.sl 1 [], D.sl 1 []])]] = rowsD (List.replicate (k + 1) (List.replicate cols.length Cl.z)) := by
 rw [List.replicate_succ']; simp [rowsD, rows1, rowD, strs, ClD, Cl.z]
theorem rep_rows2 (rs : List (List Cl)) (k : Nat) (cols : List (List UInt8)) : rowsD (rs ++ List.replicate k (List.replicate cols.length Cl.z)) ++ [[D.sl 7 (List.replicate (strs cols).length [D.i 0, D.s (S []), D.i 0, D.i 0, D.i 0, D.sl 1 [], D.sl 1 []])]] = rowsD (rs ++ List.replicate (k + 1) (List.replicate cols.length Cl.z)) := by
 rw [List.replicate_succ']; simp [rowsD, rows1, rowD, strs, ClD, Cl.z]
def zq19 := And.intro @List.length_append.{0} (And.intro @List.length_cons.{0} (And.intro @List.length_drop.{0} (And.intro @List.length_map.{0, 0} (And.intro @List.length_nil.{0} (And.intro @List.length_replicate.{0} (And.intro @List.length_take.{0} (And.intro @S_app (And.intro @S_size (And.intro @and_true (And.intro @inR.eq_1 (And.intro @maxLen.eq_1 (And.intro @rowD.eq_1 (And.intro @rowsD.eq_1 (And.intro @strs.eq_1 (And.intro @true_and (@valsD.eq_1))))))))))))))))
def zq20 := And.intro @List.length_cons.{0} (And.intro @List.length_map.{0, 0} (And.intro @List.length_nil.{0} (And.intro @S_eqf (And.intro @S_eqv (And.intro @blS (And.intro @rowD.eq_1 (And.intro @rowsD.eq_1 (And.intro @strs.eq_1 (@valsD.eq_1)))))))))
theorem copyCell_ok (c : Cl) :
  SpG g 36 [.agg [.d (.i ((c).kind)), .d (.s (S (c).s)), .d (.i ((c).dn)), .d (.i ((c).ds)), .d (.i ((c).n)), .d (.sl 1 (([] : List (List D)))), .d (.sl 1 (([] : List (List D))))]] [] (.agg [.d (.i ((c).kind)), .d (.s (S (c).s)), .d (.i ((c).dn)), .d (.i ((c).ds)), .d (.i ((c).n)), .d (.sl 1 ([])), .d (.nil)]) [] := by
 refine enterB 31 Tryz.func36 (by kernel_rfl) fun fr hG => ?_
 refine zL hG [] [0, 1, 0, 1, 1, 1, 1] (fun (zz : Nat) => match zz with | k => (0, ⟨[(1, [], .c (.bx 100 0)), (2, [], .c (.bx 101 0)), (3, [], .c (.bx 201 0)), (4, [], .c (.d (.i (k : Int))))], [(100, .box 30 [.d (.i ((c).kind)), .d (.s (S (c).s)), .d (.i ((c).dn)), .d (.i ((c).ds)), .d (.i ((c).n)), .d (.sl 1 (([] : List (List D)))), .d (.sl 1 (([] : List (List D))))]), (101, .box 30 [.d (.i 0), .d (.s (S [])), .d (.i 0), .d (.i 0), .d (.i 0), .d (.nil), .d (.nil)]), (201, .box 30 [.d (.i ((c).kind)), .d (.s (S (c).s)), .d (.i ((c).dn)), .d (.i ((c).ds)), .d (.i ((c).n)), .ar 300 0, .d (.nil)]), (300, .arr 0 9 1 (([] : List (List D)) ++ ([] : List (List D))))]⟩, k = 0)) 0 (by kernel_rfl) (conj1 (show ((([] : List (List D))).length + (([] : List (List D))).length) * (16 + 1) ≤ 140737488355328 from (by intros; (try simp only [zq19] at *) <;> omega))) (by kernel_rfl) ?_ ?_
 ·rfl
 rintro k hk
 refine zc hG [] [1, 0] (decide (((k : Int) : Int) < ((([] : List (List D))).length : Int))) (by kernel_rfl) conj0 (fun hc2 => ?_) (fun hc2 => ?_)
 ·(try simp only [zq20] at hc2)
  exfalso; simp at hc2; try omega
 ·(try simp only [zq20] at hc2)
  refine zE hG [] (.exit 0) (⟨[(2, [], .c (.bx 101 0)), (3, [], .c (.bx 201 0))], [(101, .box 30 [.d (.i 0), .d (.s (S [])), .d (.i 0), .d (.i 0), .d (.i 0), .d (.nil), .d (.nil)]), (201, .box 30 [.d (.i ((c).kind)), .d (.s (S (c).s)), .d (.i ((c).dn)), .d (.i ((c).ds)), .d (.i ((c).n)), .ar 300 0, .d (.nil)]), (300, .arr 0 9 1 (([] : List (List D)) ++ ([] : List (List D))))]⟩) (by kernel_rfl) conj0 rfl ?_
  exact zr hG [] [] (by kernel_rfl) conj0
theorem copyRow_own (l : List Cl) (hl : l.length ≤ 1000000) :
  SpG g 29 [.c (.d (.sl 7 (rowD l)))] [] (.c (.ar 100 0)) [(100, .arr 0 30 7 (rowD l))] := by
 refine enterB 20 Tryz.func29 (by kernel_rfl) fun fr hG => ?_
 refine zA hG [] [0, 1, 0, 1, 1] (⟨[(0, [], .c (.d (.sl 7 (rowD l)))), (2, [], .c (.d (.nil))), (3, [], .c (.d (.nil))), (4, [], .c (.d (.i 0)))], []⟩) [(3, 9001, 30, 7)] [] (fun (zz : Nat × List (List D)) => match zz with | (k, es) => (l.length - k, ⟨[(0, [], .c (.d (.sl 7 (rowD l)))), (2, [], .c (.d (.nil))), (3, [], .c (.ar 9001 0)), (4, [], .c (.d (.i (k : Int))))], [(9001, .arr 0 30 7 (es))]⟩, k ≤ l.length ∧ es = rowD (l.take k))) (0, []) (by kernel_rfl) conj0 (by kernel_rfl) (by kernel_rfl) ?_ ?_
 ·exact ⟨Nat.zero_le _, rfl⟩
 rintro ⟨k, es⟩ ⟨hk, hes⟩
 have hlen : es.length = k := by rw [hes, rowD, List.length_map, List.length_take]; omega
 refine zc hG [] [1, 0] (decide (((k : Int) : Int) < ((rowD l).length : Int))) (by kernel_rfl) conj0 (fun hc2 => ?_) (fun hc2 => ?_)
 ·(try simp only [zq20] at hc2)
  refine zD hG [(5, 3, .elem (ClD ((l).getD k Cl.z))), (5, 5, .call (.agg [.d (.i (((l).getD k Cl.z).kind)), .d (.s (S ((l).getD k Cl.z).s)), .d (.i (((l).getD k Cl.z).dn)), .d (.i (((l).getD k Cl.z).ds)), .d (.i (((l).getD k Cl.z).n)), .d (.sl 1 ([])), .d (.nil)]) [] []), (5, 6, .mask [none, none, none, none, none, none, some 1])] (k + 1, es ++ [ClD (l.getD k Cl.z)]) (by kernel_rfl) (conjC (show (0 : Int) ≤ (k : Int) ∧ (rowD l)[k]? = some (ClD ((l).getD k Cl.z)) from (by intros; exact map_at _ (by omega) (by (try simp only [zq7] at *); omega))) (conjC ((copyCell_ok ((l).getD k Cl.z) : SpG g _ _ _ _ _)) (conjC (show ((es).length + (([[.i (((l).getD k Cl.z).kind), .s (S ((l).getD k Cl.z).s), .i (((l).getD k Cl.z).dn), .i (((l).getD k Cl.z).ds), .i (((l).getD k Cl.z).n), .sl 1 ([]), .sl 1 ([])]] : List (List D))).length) * (96 + 1) ≤ 140737488355328 from (by intros; (try simp only [zq19] at *) <;> omega)) (conj1 (show inR ((k : Int) + 1) from (by intros; (try simp only [zq19] at *) <;> omega)))))) ?_ ?_
  ·(try dsimp only); omega
  ·refine ⟨by omega, ?_⟩
   rw [hes, rowStep (by omega)]
 ·(try simp only [zq20] at hc2)
  refine zE hG [] (.exit 0) (⟨[(2, [], .c (.d (.nil))), (3, [], .c (.ar 9001 0))], [(9001, .arr 0 30 7 (es))]⟩) (by kernel_rfl) conj0 rfl ?_
  refine zR hG [] [9001] (.c (.ar 100 0)) [(100, .arr 0 30 7 (es))] (by kernel_rfl) conj0 ?_ ?_
  ·rfl
  ·have e : l.take k = l := List.take_of_length_le (by omega)
   rw [hes, e]
theorem copyRow_ok (l : List Cl) (hl : l.length ≤ 1000000) :
  SpG g 29 [.c (.d (.sl 7 (rowD l)))] [] (.c (.d (.sl 7 (rowD l)))) [] := by
 refine enterB 20 Tryz.func29 (by kernel_rfl) fun fr hG => ?_
 refine zA hG [] [0, 1, 0, 1, 1] (⟨[(0, [], .c (.d (.sl 7 (rowD l)))), (2, [], .c (.d (.nil))), (3, [], .c (.d (.nil))), (4, [], .c (.d (.i 0)))], []⟩) [(3, 9001, 30, 7)] [] (fun (zz : Nat × List (List D)) => match zz with | (k, es) => (l.length - k, ⟨[(0, [], .c (.d (.sl 7 (rowD l)))), (2, [], .c (.d (.nil))), (3, [], .c (.ar 9001 0)), (4, [], .c (.d (.i (k : Int))))], [(9001, .arr 0 30 7 (es))]⟩, k ≤ l.length ∧ es = rowD (l.take k))) (0, []) (by kernel_rfl) conj0 (by kernel_rfl) (by kernel_rfl) ?_ ?_
 ·exact ⟨Nat.zero_le _, rfl⟩
 rintro ⟨k, es⟩ ⟨hk, hes⟩
 have hlen : es.length = k := by rw [hes, rowD, List.length_map, List.length_take]; omega
 refine zc hG [] [1, 0] (decide (((k : Int) : Int) < ((rowD l).length : Int))) (by kernel_rfl) conj0 (fun hc2 => ?_) (fun hc2 => ?_)
 ·(try simp only [zq20] at hc2)
  refine zD hG [(5, 3, .elem (ClD ((l).getD k Cl.z))), (5, 5, .call (.agg [.d (.i (((l).getD k Cl.z).kind)), .d (.s (S ((l).getD k Cl.z).s)), .d (.i (((l).getD k Cl.z).dn)), .d (.i (((l).getD k Cl.z).ds)), .d (.i (((l).getD k Cl.z).n)), .d (.sl 1 ([])), .d (.nil)]) [] []), (5, 6, .mask [none, none, none, none, none, none, some 1])] (k + 1, es ++ [ClD (l.getD k Cl.z)]) (by kernel_rfl) (conjC (show (0 : Int) ≤ (k : Int) ∧ (rowD l)[k]? = some (ClD ((l).getD k Cl.z)) from (by intros; exact map_at _ (by omega) (by (try simp only [zq7] at *); omega))) (conjC ((copyCell_ok ((l).getD k Cl.z) : SpG g _ _ _ _ _)) (conjC (show ((es).length + (([[.i (((l).getD k Cl.z).kind), .s (S ((l).getD k Cl.z).s), .i (((l).getD k Cl.z).dn), .i (((l).getD k Cl.z).ds), .i (((l).getD k Cl.z).n), .sl 1 ([]), .sl 1 ([])]] : List (List D))).length) * (96 + 1) ≤ 140737488355328 from (by intros; (try simp only [zq19] at *) <;> omega)) (conj1 (show inR ((k : Int) + 1) from (by intros; (try simp only [zq19] at *) <;> omega)))))) ?_ ?_
  ·(try dsimp only); omega
  ·refine ⟨by omega, ?_⟩
   rw [hes, rowStep (by omega)]
 ·(try simp only [zq20] at hc2)
  refine zE hG [] (.exit 0) (⟨[(2, [], .c (.d (.nil))), (3, [], .c (.ar 9001 0))], [(9001, .arr 0 30 7 (es))]⟩) (by kernel_rfl) conj0 rfl ?_
  refine zR hG [] [] (.c (.d (.sl 7 (es)))) [] (by kernel_rfl) conj0 ?_ ?_
  ·have e : l.take k = l := List.take_of_length_le (by omega)
   rw [hes, e]
  ·rfl
theorem copyN (v : Vl) (hs : v.small) :
  SpG g 36 [.agg [.d (.i v.kind), .d (.s (S v.s)), .d (.i v.dn), .d (.i v.ds), .d (.i v.n), .d (.sl 1 (strs v.cols)), .d (.sl 1 (rowsD ([])))]] [] (.agg [.d (.i v.kind), .d (.s (S v.s)), .d (.i v.dn), .d (.i v.ds), .d (.i v.n), .ar 100 0, .ar 101 0]) [(100, .arr 0 9 1 (strs v.cols)), (101, .arr 0 33 1 [])] := by
 have hc := hs.cols
 refine enterB 31 Tryz.func36 (by kernel_rfl) fun fr hG => ?_
 refine zA hG [] [0, 1, 0, 1, 1, 1, 1] (⟨[(1, [], .c (.bx 100 0)), (2, [], .c (.bx 101 0)), (3, [], .c (.bx 201 0)), (4, [], .c (.d (.i 0)))], [(100, .box 30 [.d (.i v.kind), .d (.s (S v.s)), .d (.i v.dn), .d (.i v.ds), .d (.i v.n), .d (.sl 1 (strs v.cols)), .d (.sl 1 (rowsD ([])))]), (101, .box 30 [.d (.i 0), .d (.s (S [])), .d (.i 0), .d (.i 0), .d (.i 0), .d (.nil), .d (.nil)]), (201, .box 30 [.d (.i v.kind), .d (.s (S v.s)), .d (.i v.dn), .d (.i v.ds), .d (.i v.n), .ar 300 0, .d (.nil)]), (300, .arr 0 9 1 (([] : List (List D)) ++ (strs v.cols)))]⟩) [] [(201, 6, 9003, 33, 1)] (fun (zz : Nat) => match zz with | k => (0, ⟨[(1, [], .c (.bx 100 0)), (2, [], .c (.bx 101 0)), (3, [], .c (.bx 201 0)), (4, [], .c (.d (.i (k : Int))))], [(100, .box 30 [.d (.i v.kind), .d (.s (S v.s)), .d (.i v.dn), .d (.i v.ds), .d (.i v.n), .d (.sl 1 (strs v.cols)), .d (.sl 1 (rowsD ([])))]), (101, .box 30 [.d (.i 0), .d (.s (S [])), .d (.i 0), .d (.i 0), .d (.i 0), .d (.nil), .d (.nil)]), (201, .box 30 [.d (.i v.kind), .d (.s (S v.s)), .d (.i v.dn), .d (.i v.ds), .d (.i v.n), .ar 300 0, .ar 9003 0]), (300, .arr 0 9 1 (([] : List (List D)) ++ (strs v.cols))), (9003, .arr 0 33 1 (([] : List (List D))))]⟩, k = 0)) 0 (by kernel_rfl) (conj1 (show ((([] : List (List D))).length + (strs v.cols).length) * (16 + 1) ≤ 140737488355328 from (by intros; (try simp only [zq19] at *) <;> omega))) (by kernel_rfl) (by kernel_rfl) ?_ ?_
 ·rfl
 rintro k hk
 refine zc hG [] [1, 0] (decide (((k : Int) : Int) < ((rowsD ([])).length : Int))) (by kernel_rfl) conj0 (fun hc2 => ?_) (fun hc2 => ?_)
 ·(try simp only [zq20] at hc2)
  exfalso; simp at hc2; try omega
 ·(try simp only [zq20] at hc2)
  refine zE hG [] (.exit 0) (⟨[(2, [], .c (.bx 101 0)), (3, [], .c (.bx 201 0))], [(101, .box 30 [.d (.i 0), .d (.s (S [])), .d (.i 0), .d (.i 0), .d (.i 0), .d (.nil), .d (.nil)]), (201, .box 30 [.d (.i v.kind), .d (.s (S v.s)), .d (.i v.dn), .d (.i v.ds), .d (.i v.n), .ar 300 0, .ar 9003 0]), (300, .arr 0 9 1 (([] : List (List D)) ++ (strs v.cols))), (9003, .arr 0 33 1 (([] : List (List D))))]⟩) (by kernel_rfl) conj0 rfl ?_
  refine zR hG [] [300, 9003] (.agg [.d (.i v.kind), .d (.s (S v.s)), .d (.i v.dn), .d (.i v.ds), .d (.i v.n), .ar 100 0, .ar 101 0]) [(100, .arr 0 9 1 (([] : List (List D)) ++ (strs v.cols))), (101, .arr 0 33 1 (([] : List (List D))))] (by kernel_rfl) conj0 ?_ ?_
  ·rfl
  ·simp
theorem copyR (v : Vl) (r : List Cl) (rs : List (List Cl)) (hc : v.cols.length ≤ 1000000) (hr0 : r.length ≤ 1000000) (hl : rs.length ≤ 1000000) (hrk : ∀ x, x ∈ rs → x.length ≤ 1000000) :
  SpG g 36 [.agg [.d (.i v.kind), .d (.s (S v.s)), .d (.i v.dn), .d (.i v.ds), .d (.i v.n), .d (.sl 1 (strs v.cols)), .d (.sl 1 (rowsD (r :: rs)))]] [] (.agg [.d (.i v.kind), .d (.s (S v.s)), .d (.i v.dn), .d (.i v.ds), .d (.i v.n), .ar 100 0, .ar 101 0]) [(100, .arr 0 9 1 (strs v.cols)), (102, .arr 0 30 7 (rowD r)), (101, .arr 0 ⟨33, [(0, .ar 102 0)]⟩ 1 ([.v undef] :: rowsD rs))] := by
 have hrj : ∀ j, ((r :: rs).getD j []).length ≤ 1000000 := fun j => by
  by_cases hj : j < (r :: rs).length
  ·have := getD_mem (z := []) hj
   rcases List.mem_cons.1 this with h | h
   ·rw [h]; exact hr0
   ·exact hrk _ h
  ·rw [List.getD_eq_getElem?_getD, List.getElem?_eq_none (by omega)]; simp
 refine enterB 31 Tryz.func36 (by kernel_rfl) fun fr hG => ?_
 refine stepL hG hmix [] [0, 1, 0, 1, 1, 1, 1] ((fun (zz : Nat × List (List D)) => match zz with | (0, es) => ⟨[(1, [], .c (.bx 100 0)), (2, [], .c (.bx 101 0)), (3, [], .c (.bx 201 0)), (4, [], .c (.d (.i 0)))], [(100, .box 30 [.d (.i v.kind), .d (.s (S v.s)), .d (.i v.dn), .d (.i v.ds), .d (.i v.n), .d (.sl 1 (strs v.cols)), .d (.sl 1 (rowsD (r :: rs)))]), (101, .box 30 [.d (.i 0), .d (.s (S [])), .d (.i 0), .d (.i 0), .d (.i 0), .d (.nil), .d (.nil)]), (201, .box 30 [.d (.i v.kind), .d (.s (S v.s)), .d (.i v.dn), .d (.i v.ds), .d (.i v.n), .ar 300 0, .d (.nil)]), (300, .arr 0 9 1 (([] : List (List D)) ++ (strs v.cols)))]⟩ | (k + 1, es) => ⟨[(1, [], .c (.bx 100 0)), (2, [], .c (.bx 101 0)), (3, [], .c (.bx 201 0)), (4, [], .c (.d (.i ((k : Int) + 1))))], [(100, .box 30 [.d (.i v.kind), .d (.s (S v.s)), .d (.i v.dn), .d (.i v.ds), .d (.i v.n), .d (.sl 1 (strs v.cols)), .d (.sl 1 (rowsD (r :: rs)))]), (101, .box 30 [.d (.i 0), .d (.s (S [])), .d (.i 0), .d (.i 0), .d (.i 0), .d (.nil), .d (.nil)]), (201, .box 30 [.d (.i v.kind), .d (.s (S v.s)), .d (.i v.dn), .d (.i v.ds), .d (.i v.n), .ar 300 0, .ar 809 0]), (300, .arr 0 9 1 (([] : List (List D)) ++ (strs v.cols))), (807, .arr 0 30 7 (rowD r)), (809, .arr 0 ⟨33, [(0, .ar 807 0)]⟩ 1 ([.v undef] :: (es)))]⟩) (0, [])) _ (by kernel_rfl) (conj1 (show ((([] : List (List D))).length + (strs v.cols).length) * (16 + 1) ≤ 140737488355328 from (by intros; (try simp only [zq19] at *) <;> omega))) ?_
 refine loopR (σ := Nat × List (List D)) (fun (zz : Nat × List (List D)) => match zz with | (k, es) => rs.length + 1 - k) (fun (zz : Nat × List (List D)) => match zz with | (0, es) => ⟨[(1, [], .c (.bx 100 0)), (2, [], .c (.bx 101 0)), (3, [], .c (.bx 201 0)), (4, [], .c (.d (.i 0)))], [(100, .box 30 [.d (.i v.kind), .d (.s (S v.s)), .d (.i v.dn), .d (.i v.ds), .d (.i v.n), .d (.sl 1 (strs v.cols)), .d (.sl 1 (rowsD (r :: rs)))]), (101, .box 30 [.d (.i 0), .d (.s (S [])), .d (.i 0), .d (.i 0), .d (.i 0), .d (.nil), .d (.nil)]), (201, .box 30 [.d (.i v.kind), .d (.s (S v.s)), .d (.i v.dn), .d (.i v.ds), .d (.i v.n), .ar 300 0, .d (.nil)]), (300, .arr 0 9 1 (([] : List (List D)) ++ (strs v.cols)))]⟩ | (k + 1, es) => ⟨[(1, [], .c (.bx 100 0)), (2, [], .c (.bx 101 0)), (3, [], .c (.bx 201 0)), (4, [], .c (.d (.i ((k : Int) + 1))))], [(100, .box 30 [.d (.i v.kind), .d (.s (S v.s)), .d (.i v.dn), .d (.i v.ds), .d (.i v.n), .d (.sl 1 (strs v.cols)), .d (.sl 1 (rowsD (r :: rs)))]), (101, .box 30 [.d (.i 0), .d (.s (S [])), .d (.i 0), .d (.i 0), .d (.i 0), .d (.nil), .d (.nil)]), (201, .box 30 [.d (.i v.kind), .d (.s (S v.s)), .d (.i v.dn), .d (.i v.ds), .d (.i v.n), .ar 300 0, .ar 809 0]), (300, .arr 0 9 1 (([] : List (List D)) ++ (strs v.cols))), (807, .arr 0 30 7 (rowD r)), (809, .arr 0 ⟨33, [(0, .ar 807 0)]⟩ 1 ([.v undef] :: (es)))]⟩) (fun (zz : Nat × List (List D)) => match zz with | (k, es) => k ≤ rs.length + 1 ∧ es = rowsD (rs.take (k - 1))) (0, []) (by kernel_rfl) ?_ ?_
 ·exact ⟨Nat.zero_le _, rfl⟩
 rintro ⟨k, es⟩ ⟨hk, hes⟩
 rcases k with _ | k <;> (try dsimp only at hk hes)
 ·skip
  refine zc hG [] [1, 0] (decide ((0 : Int) < ((rowsD (r :: rs)).length : Int))) (by kernel_rfl) conj0 (fun hc2 => ?_) (fun hc2 => ?_)
  ·(try simp only [zq20] at hc2)
   refine zD hG [(7, 5, .elem (rows1 (((r :: rs)).getD 0 []))), (7, 7, .call (.c (.ar 100 0)) [(100, .arr 0 30 7 (rowD r))] [])] (0 + 1, []) (by kernel_rfl) (conjC (show (0 : Int) ≤ 0 ∧ (rowsD (r :: rs))[0]? = some (rows1 (((r :: rs)).getD 0 [])) from (by intros; exact map_at _ (by omega) (by (try simp only [zq7] at *); omega))) (conjC ((copyRow_own r hr0 : SpG g _ _ _ _ _)) (conjC (show 24 + 1 ≤ 140737488355328 from (by intros; (try simp only [zq19] at *) <;> omega)) (conj1 (show inR (0 + 1) from (by unfold inR; decide)))))) ?_ ?_
   ·(try dsimp only); omega
   ·exact ⟨by omega, rfl⟩
  ·(try simp only [zq20] at hc2)
   exfalso; omega
 ·skip
  refine zc hG [] [1, 0] (decide ((((k : Int) + 1) : Int) < ((rowsD (r :: rs)).length : Int))) (by kernel_rfl) conj0 (fun hc3 => ?_) (fun hc3 => ?_)
  ·(try simp only [zq20] at hc3)
   have hlen : es.length = k := by rw [hes, rowsD, List.length_map, List.length_take]; omega
   refine zD hG [(7, 5, .elem (rows1 (((r :: rs)).getD ((k : Int) + 1 : Int).toNat []))), (7, 7, .call (.c (.d (.sl 7 (rowD (((r :: rs)).getD ((k : Int) + 1 : Int).toNat []))))) [] [])] (k + 1 + 1, es ++ ([[.sl 7 (rowD (((r :: rs)).getD ((k : Int) + 1 : Int).toNat []))]] : List (List D))) (by kernel_rfl) (conjC (show (0 : Int) ≤ ((k : Int) + 1) ∧ (rowsD (r :: rs))[((k : Int) + 1 : Int).toNat]? = some (rows1 (((r :: rs)).getD ((k : Int) + 1 : Int).toNat [])) from (by intros; exact map_at _ (by omega) (by (try simp only [zq7] at *); omega))) (conjC ((copyRow_ok (((r :: rs)).getD ((k : Int) + 1 : Int).toNat []) (hrj _) : SpG g _ _ _ _ _)) (conjC (show (([.v undef] :: (es)).length + (([[.sl 7 (rowD (((r :: rs)).getD ((k : Int) + 1 : Int).toNat []))]] : List (List D))).length) * (24 + 1) ≤ 140737488355328 from (by intros; (try simp only [zq19] at *) <;> omega)) (conj1 (show inR (((k : Int) + 1) + 1) from (by intros; (try simp only [zq19] at *) <;> omega)))))) ?_ ?_
   ·(try dsimp only); omega
   ·refine ⟨by omega, ?_⟩
    have e : rowsD (rs.take k) ++ [[D.sl 7 (rowD (rs.getD k []))]] = rowsD (rs.take (k + 1)) := rowsStep (by omega)
    rw [hes]; exact e
  ·(try simp only [zq20] at hc3)
   have hlen : es.length = k := by rw [hes, rowsD, List.length_map, List.length_take]; omega
   refine zE hG [] (.exit 0) (⟨[(2, [], .c (.bx 101 0)), (3, [], .c (.bx 201 0))], [(101, .box 30 [.d (.i 0), .d (.s (S [])), .d (.i 0), .d (.i 0), .d (.i 0), .d (.nil), .d (.nil)]), (201, .box 30 [.d (.i v.kind), .d (.s (S v.s)), .d (.i v.dn), .d (.i v.ds), .d (.i v.n), .ar 300 0, .ar 809 0]), (300, .arr 0 9 1 (([] : List (List D)) ++ (strs v.cols))), (807, .arr 0 30 7 (rowD r)), (809, .arr 0 ⟨33, [(0, .ar 807 0)]⟩ 1 ([.v undef] :: (es)))]⟩) (by kernel_rfl) conj0 rfl ?_
   refine zR hG [] [300, 809, 807] (.agg [.d (.i v.kind), .d (.s (S v.s)), .d (.i v.dn), .d (.i v.ds), .d (.i v.n), .ar 100 0, .ar 101 0]) [(100, .arr 0 9 1 (([] : List (List D)) ++ (strs v.cols))), (102, .arr 0 30 7 (rowD r)), (101, .arr 0 ⟨33, [(0, .ar 102 0)]⟩ 1 ([.v undef] :: (es)))] (by kernel_rfl) conj0 ?_ ?_
   ·rfl
   ·have e : rs.take k = rs := List.take_of_length_le (by omega)
    rw [hes]; simp only [Nat.add_sub_cancel, e, List.nil_append]
theorem oddN (v : Vl) (hs : v.small) (a b c : Int) :
  SpG g 12 [.agg [.d (.i v.kind), .d (.s (S v.s)), .d (.i v.dn), .d (.i v.ds), .d (.i v.n), .d (.sl 1 (strs v.cols)), .d (.sl 1 (rowsD ([])))], .agg [.d (.i a), .d (.i b), .d (.i c)]] [] (.agg [.d (.i ((oddV ⟨v.kind, v.s, v.dn, v.ds, v.n, v.cols, []⟩ a b c).kind)), .d (.s (S (oddV ⟨v.kind, v.s, v.dn, v.ds, v.n, v.cols, []⟩ a b c).s)), .d (.i ((oddV ⟨v.kind, v.s, v.dn, v.ds, v.n, v.cols, []⟩ a b c).dn)), .d (.i ((oddV ⟨v.kind, v.s, v.dn, v.ds, v.n, v.cols, []⟩ a b c).ds)), .d (.i ((oddV ⟨v.kind, v.s, v.dn, v.ds, v.n, v.cols, []⟩ a b c).n)), .d (.sl 1 (strs ((oddV ⟨v.kind, v.s, v.dn, v.ds, v.n, v.cols, []⟩ a b c).cols))), .d (.sl 1 (rowsD ((oddV ⟨v.kind, v.s, v.dn, v.ds, v.n, v.cols, []⟩ a b c).rows)))]) [] := by
 have a1 := tmod_in (x := a) (n := 10) (by decide)
 have a2 := tmod_in (x := b) (n := 8) (by decide)
 have a3 := tmod_in (x := b) (n := 5) (by decide)
 have a4 := tmod_in (x := b) (n := 4) (by decide)
 have a5 := tmod_in (x := b) (n := 3) (by decide)
 have a6 := tmod_in (x := c) (n := 8) (by decide)
 have a7 := qm_bd b 5 (by decide)
 have a8 := qm_bd b 4 (by decide)
 have a9 := qm_bd a 10 (by decide)
 simp only [qm] at a7 a8 a9
 have b1 := hs.s
 have b2 := hs.cols
 have b3 := hs.rows
 refine enterB 138 Tryz.func12 (by kernel_rfl) fun fr hG => ?_
 refine zC hG [(1, 1, .call (.agg [.d (.i v.kind), .d (.s (S v.s)), .d (.i v.dn), .d (.i v.ds), .d (.i v.n), .ar 100 0, .ar 101 0]) [(100, .arr 0 9 1 (strs v.cols)), (101, .arr 0 33 1 (([] : List (List D))))] [])] [1, 0, 1, 0, 1, 1] (decide ((Int.tmod ((Int.tmod a 10) + 10) 10 : Int) = 0)) (⟨[(2, [], .c (.bx 100 0)), (3, [], .c (.bx 101 0)), (4, [], .c (.bx 102 0)), (12, [], .c (.d (.i (Int.tmod ((Int.tmod a 10) + 10) 10))))], [(100, .box 30 [.d (.i v.kind), .d (.s (S v.s)), .d (.i v.dn), .d (.i v.ds), .d (.i v.n), .ar 201 0, .ar 202 0]), (101, .box 23 [.d (.i a), .d (.i b), .d (.i c)]), (102, .box 30 [.d (.i 0), .d (.s (S [])), .d (.i 0), .d (.i 0), .d (.i 0), .d (.nil), .d (.nil)]), (201, .arr 0 9 1 (strs v.cols)), (202, .arr 0 33 1 (([] : List (List D))))]⟩) (by kernel_rfl) (conjC ((copyN v hs : SpG g _ _ _ _ _)) (conjC (show 10 ≠ (0 : Int) from (by intros; (try simp only [zq19] at *) <;> omega)) (conjC (show inR ((Int.tmod a 10) + 10) from (by intros; (try simp only [zq19] at *) <;> omega)) (conj1 (show 10 ≠ (0 : Int) from (by intros; (try simp only [zq19] at *) <;> omega)))))) (fun hc1 => ?_) (fun hc1 => ?_)
 ·(try simp only [zq20] at hc1)
  refine zR hG [] [] (.agg [.d (.i ((Int.tmod b 8) - 1)), .d (.s (S v.s)), .d (.i v.dn), .d (.i v.ds), .d (.i v.n), .d (.sl 1 (strs v.cols)), .d (.sl 1 (([] : List (List D))))]) [] (by kernel_rfl) (conjC (show 8 ≠ (0 : Int) from (by intros; (try simp only [zq19] at *) <;> omega)) (conj1 (show inR ((Int.tmod b 8) - 1) from (by intros; (try simp only [zq19] at *) <;> omega)))) ?_ ?_
  ·first | (simp [oddV, qm, S_app, strs_app, rowsD, rows1, rowD, strs, strD, *]; done) | (exfalso; omega) | (have hkk : k = (98 + (b.tmod 4 + 4).tmod 4).toNat := (by omega); rw [hes, hkk]; simp [oddV, qm, rowsD, rows1, rowD, *])
  ·rfl
 ·(try simp only [zq20] at hc1)
  refine zc hG [] [1, 1, 1, 0, 1, 0, 1, 1] (decide ((Int.tmod ((Int.tmod a 10) + 10) 10 : Int) = 1)) (by kernel_rfl) conj0 (fun hc2 => ?_) (fun hc2 => ?_)
  ·(try simp only [zq20] at hc2)
   refine zR hG [(6, 6, .call (.c (.d (.s (S [u8 b])))) [] [])] [] (.agg [.d (.i v.kind), .d (.s ((S v.s) ++ (S [u8 b]))), .d (.i v.dn), .d (.i v.ds), .d (.i v.n), .d (.sl 1 (strs v.cols)), .d (.sl 1 (([] : List (List D))))]) [] (by kernel_rfl) (conjC (show ([[.y (IntKind.wrap .u8 b)]] : List (List D)) = bytesD (S [u8 b]).data.toList from (bytes1 b)) (conj1 (show (S v.s).size + (S [u8 b]).size ≤ maxLen from (by intros; (try simp only [zq19] at *) <;> omega)))) ?_ ?_
   ·first | (simp [oddV, qm, S_app, strs_app, rowsD, rows1, rowD, strs, strD, *]; done) | (exfalso; omega) | (have hkk : k = (98 + (b.tmod 4 + 4).tmod 4).toNat := (by omega); rw [hes, hkk]; simp [oddV, qm, rowsD, rows1, rowD, *])
   ·rfl
  ·(try simp only [zq20] at hc2)
   refine zc hG [] [1, 1, 1, 1, 1, 0, 1, 0, 1, 1] (decide ((Int.tmod ((Int.tmod a 10) + 10) 10 : Int) = 2)) (by kernel_rfl) conj0 (fun hc3 => ?_) (fun hc3 => ?_)
   ·(try simp only [zq20] at hc3)
    refine zR hG [] [] (.agg [.d (.i v.kind), .d (.s (S v.s)), .d (.i b), .d (.i (Int.tmod c 8)), .d (.i v.n), .d (.sl 1 (strs v.cols)), .d (.sl 1 (([] : List (List D))))]) [] (by kernel_rfl) (conj1 (show 8 ≠ (0 : Int) from (by intros; (try simp only [zq19] at *) <;> omega))) ?_ ?_
    ·first | (simp [oddV, qm, S_app, strs_app, rowsD, rows1, rowD, strs, strD, *]; done) | (exfalso; omega) | (have hkk : k = (98 + (b.tmod 4 + 4).tmod 4).toNat := (by omega); rw [hes, hkk]; simp [oddV, qm, rowsD, rows1, rowD, *])
    ·rfl
   ·(try simp only [zq20] at hc3)
    refine zc hG [] [1, 1, 1, 1, 1, 1, 1, 0, 1, 0, 1, 1] (decide ((Int.tmod ((Int.tmod a 10) + 10) 10 : Int) = 3)) (by kernel_rfl) conj0 (fun hc4 => ?_) (fun hc4 => ?_)
    ·(try simp only [zq20] at hc4)
     refine zR hG [] [] (.agg [.d (.i v.kind), .d (.s (S v.s)), .d (.i v.dn), .d (.i v.ds), .d (.i b), .d (.sl 1 (strs v.cols)), .d (.sl 1 (([] : List (List D))))]) [] (by kernel_rfl) conj0 ?_ ?_
     ·first | (simp [oddV, qm, S_app, strs_app, rowsD, rows1, rowD, strs, strD, *]; done) | (exfalso; omega) | (have hkk : k = (98 + (b.tmod 4 + 4).tmod 4).toNat := (by omega); rw [hes, hkk]; simp [oddV, qm, rowsD, rows1, rowD, *])
     ·rfl
    ·(try simp only [zq20] at hc4)
     refine zc hG [] [1, 1, 1, 1, 1, 1, 1, 1, 1, 0, 1, 0, 1, 1] (decide ((Int.tmod ((Int.tmod a 10) + 10) 10 : Int) = 4)) (by kernel_rfl) conj0 (fun hc5 => ?_) (fun hc5 => ?_)
     ·(try simp only [zq20] at hc5)
      refine zR hG [(12, 9, .elem (strD (oddL.getD (Int.tmod ((Int.tmod b 5) + 5) 5 : Int).toNat [])))] [] (.agg [.d (.i v.kind), .d (.s (S v.s)), .d (.i v.dn), .d (.i v.ds), .d (.i v.n), .d (.sl 1 ((strs v.cols) ++ ([[.s (S (oddL.getD (Int.tmod ((Int.tmod b 5) + 5) 5 : Int).toNat []))]] : List (List D)))), .d (.sl 1 (([] : List (List D))))]) [] (by kernel_rfl) (conjC (show 5 ≠ (0 : Int) from (by intros; (try simp only [zq19] at *) <;> omega)) (conjC (show inR ((Int.tmod b 5) + 5) from (by intros; (try simp only [zq19] at *) <;> omega)) (conjC (show 5 ≠ (0 : Int) from (by intros; (try simp only [zq19] at *) <;> omega)) (conjC (show (0 : Int) ≤ (Int.tmod ((Int.tmod b 5) + 5) 5) ∧ (Int.tmod ((Int.tmod b 5) + 5) 5) < ((([[.s (S [97])], [.s (S [])], [.s (S [120, 49])], [.s (S [49, 120])], [.s (S [97, 98, 99, 100, 101, 102, 103, 104, 105, 106, 107, 108, 109, 110, 111, 112, 113, 114, 115, 116, 117])]] : List (List D))).length : Int) from (by intros; (try simp only [zq19] at *) <;> omega)) (conjC (show (([[.s (S [97])], [.s (S [])], [.s (S [120, 49])], [.s (S [49, 120])], [.s (S [97, 98, 99, 100, 101, 102, 103, 104, 105, 106, 107, 108, 109, 110, 111, 112, 113, 114, 115, 116, 117])]] : List (List D)))[(Int.tmod ((Int.tmod b 5) + 5) 5 : Int).toNat]? = some (strD (oddL.getD (Int.tmod ((Int.tmod b 5) + 5) 5 : Int).toNat [])) from (odd_at (by omega))) (conj1 (show ((strs v.cols).length + (([[.s (S (oddL.getD (Int.tmod ((Int.tmod b 5) + 5) 5 : Int).toNat []))]] : List (List D))).length) * (16 + 1) ≤ 140737488355328 from (by intros; (try simp only [zq19] at *) <;> omega)))))))) ?_ ?_
      ·first | (simp [oddV, qm, S_app, strs_app, rowsD, rows1, rowD, strs, strD, *]; done) | (exfalso; omega) | (have hkk : k = (98 + (b.tmod 4 + 4).tmod 4).toNat := (by omega); rw [hes, hkk]; simp [oddV, qm, rowsD, rows1, rowD, *])
      ·rfl
     ·(try simp only [zq20] at hc5)
      refine zc hG [] [1, 1, 1, 1, 1, 1, 1, 1, 1, 1, 1, 0, 1, 0, 1, 1] (decide ((Int.tmod ((Int.tmod a 10) + 10) 10 : Int) = 5)) (by kernel_rfl) conj0 (fun hc6 => ?_) (fun hc6 => ?_)
      ·(try simp only [zq20] at hc6)
       refine zR hG [(14, 2, .mask [some 7])] [] (.agg [.d (.i v.kind), .d (.s (S v.s)), .d (.i v.dn), .d (.i v.ds), .d (.i v.n), .d (.sl 1 (strs v.cols)), .d (.sl 1 (([] : List (List D)) ++ ([[.sl 7 ([])]] : List (List D))))]) [] (by kernel_rfl) (conj1 (show ((([] : List (List D))).length + (([[.sl 7 ([])]] : List (List D))).length) * (24 + 1) ≤ 140737488355328 from (by intros; (try simp only [zq19] at *) <;> omega))) ?_ ?_
       ·first | (simp [oddV, qm, S_app, strs_app, rowsD, rows1, rowD, strs, strD, *]; done) | (exfalso; omega) | (have hkk : k = (98 + (b.tmod 4 + 4).tmod 4).toNat := (by omega); rw [hes, hkk]; simp [oddV, qm, rowsD, rows1, rowD, *])
       ·rfl
      ·(try simp only [zq20] at hc6)
       refine zc hG [] [1, 1, 1, 1, 1, 1, 1, 1, 1, 1, 1, 1, 1, 0, 1, 0, 1, 1] (decide ((Int.tmod ((Int.tmod a 10) + 10) 10 : Int) = 6)) (by kernel_rfl) conj0 (fun hc7 => ?_) (fun hc7 => ?_)
       ·(try simp only [zq20] at hc7)
        refine zC hG [(16, 8, .elem (rows1 []))] [1, 0, 1, 1, 1, 1, 1, 1, 1, 1, 1, 1, 1, 1, 1, 0, 1, 0, 1, 1] (false) (⟨[(2, [], .c (.bx 100 0)), (4, [], .c (.bx 102 0))], [(100, .box 30 [.d (.i v.kind), .d (.s (S v.s)), .d (.i v.dn), .d (.i v.ds), .d (.i v.n), .ar 201 0, .ar 202 0]), (102, .box 30 [.d (.i 0), .d (.s (S [])), .d (.i 0), .d (.i 0), .d (.i 0), .d (.nil), .d (.nil)]), (201, .arr 0 9 1 (strs v.cols)), (202, .arr 0 33 1 (([] : List (List D))))]⟩) (by kernel_rfl) (conjC (show false = true → (0 : Int) ≤ 0 ∧ 0 < ((([] : List (List D))).length : Int) from fun hg1 => absurd hg1 (by decide)) (conj1 (show false = true → (([] : List (List D)))[0]? = some (rows1 []) from fun hg1 => absurd hg1 (by decide)))) (fun hc8 => absurd hc8 (by decide)) (fun _ => ?_)
        refine zR hG [] [] (.agg [.d (.i v.kind), .d (.s (S v.s)), .d (.i v.dn), .d (.i v.ds), .d (.i v.n), .d (.sl 1 (strs v.cols)), .d (.sl 1 (([] : List (List D))))]) [] (by kernel_rfl) conj0 ?_ ?_
        ·first | (simp [oddV, qm, S_app, strs_app, rowsD, rows1, rowD, strs, strD, *]; done) | (exfalso; omega) | (have hkk : k = (98 + (b.tmod 4 + 4).tmod 4).toNat := (by omega); rw [hes, hkk]; simp [oddV, qm, rowsD, rows1, rowD, *])
        ·rfl
       ·(try simp only [zq20] at hc7)
        refine zc hG [] [1, 1, 1, 1, 1, 1, 1, 1, 1, 1, 1, 1, 1, 1, 1, 0, 1, 0, 1, 1] (decide ((Int.tmod ((Int.tmod a 10) + 10) 10 : Int) = 7)) (by kernel_rfl) conj0 (fun hc9 => ?_) (fun hc9 => ?_)
        ·(try simp only [zq20] at hc9)
         refine zC hG [(19, 8, .elem (rows1 []))] [1, 0, 1, 1, 1, 1, 1, 1, 1, 1, 1, 1, 1, 1, 1, 1, 1, 0, 1, 0, 1, 1] (false) (⟨[(2, [], .c (.bx 100 0)), (3, [], .c (.bx 101 0)), (4, [], .c (.bx 102 0))], [(100, .box 30 [.d (.i v.kind), .d (.s (S v.s)), .d (.i v.dn), .d (.i v.ds), .d (.i v.n), .ar 201 0, .ar 202 0]), (101, .box 23 [.d (.i a), .d (.i b), .d (.i c)]), (102, .box 30 [.d (.i 0), .d (.s (S [])), .d (.i 0), .d (.i 0), .d (.i 0), .d (.nil), .d (.nil)]), (201, .arr 0 9 1 (strs v.cols)), (202, .arr 0 33 1 (([] : List (List D))))]⟩) (by kernel_rfl) (conjC (show false = true → (0 : Int) ≤ 0 ∧ 0 < ((([] : List (List D))).length : Int) from fun hg1 => absurd hg1 (by decide)) (conj1 (show false = true → (([] : List (List D)))[0]? = some (rows1 []) from fun hg1 => absurd hg1 (by decide)))) (fun hc10 => absurd hc10 (by decide)) (fun _ => ?_)
         refine zR hG [] [] (.agg [.d (.i v.kind), .d (.s (S v.s)), .d (.i v.dn), .d (.i v.ds), .d (.i v.n), .d (.sl 1 (strs v.cols)), .d (.sl 1 (([] : List (List D))))]) [] (by kernel_rfl) conj0 ?_ ?_
         ·first | (simp [oddV, qm, S_app, strs_app, rowsD, rows1, rowD, strs, strD, *]; done) | (exfalso; omega) | (have hkk : k = (98 + (b.tmod 4 + 4).tmod 4).toNat := (by omega); rw [hes, hkk]; simp [oddV, qm, rowsD, rows1, rowD, *])
         ·rfl
        ·(try simp only [zq20] at hc9)
         refine zc hG [] [1, 1, 1, 1, 1, 1, 1, 1, 1, 1, 1, 1, 1, 1, 1, 1, 1, 0, 1, 0, 1, 1] (decide ((Int.tmod ((Int.tmod a 10) + 10) 10 : Int) = 8)) (by kernel_rfl) conj0 (fun hc11 => ?_) (fun hc11 => ?_)
         ·(try simp only [zq20] at hc11)
          refine zR hG [] [] (.agg [.d (.i v.kind), .d (.s ((S v.s) ++ (S [39]))), .d (.i v.dn), .d (.i v.ds), .d (.i v.n), .d (.sl 1 (strs v.cols)), .d (.sl 1 (([] : List (List D))))]) [] (by kernel_rfl) (conj1 (show (S v.s).size + (S [39]).size ≤ maxLen from (by intros; (try simp only [zq19] at *) <;> omega))) ?_ ?_
          ·first | (simp [oddV, qm, S_app, strs_app, rowsD, rows1, rowD, strs, strD, *]; done) | (exfalso; omega) | (have hkk : k = (98 + (b.tmod 4 + 4).tmod 4).toNat := (by omega); rw [hes, hkk]; simp [oddV, qm, rowsD, rows1, rowD, *])
          ·rfl
         ·(try simp only [zq20] at hc11)
          refine zC hG [] [1, 1, 1, 1, 1, 1, 1, 1, 1, 1, 1, 1, 1, 1, 1, 1, 1, 1, 1, 0, 1, 0, 1, 1] (decide ((Int.tmod ((Int.tmod a 10) + 10) 10 : Int) = 9)) (⟨[(2, [], .c (.bx 100 0)), (3, [], .c (.bx 101 0)), (4, [], .c (.bx 102 0))], [(100, .box 30 [.d (.i v.kind), .d (.s (S v.s)), .d (.i v.dn), .d (.i v.ds), .d (.i v.n), .ar 201 0, .ar 202 0]), (101, .box 23 [.d (.i a), .d (.i b), .d (.i c)]), (102, .box 30 [.d (.i 0), .d (.s (S [])), .d (.i 0), .d (.i 0), .d (.i 0), .d (.nil), .d (.nil)]), (201, .arr 0 9 1 (strs v.cols)), (202, .arr 0 33 1 (([] : List (List D))))]⟩) (by kernel_rfl) conj0 (fun hc12 => ?_) (fun hc12 => ?_)
          ·(try simp only [zq20] at hc12)
           refine zL hG [] [0, 1, 0, 1, 1, 1, 1, 1, 1, 1, 1, 1, 1, 1, 1, 1, 1, 1, 1, 1, 1, 1, 0, 1, 0, 1, 1] (fun (zz : Nat × List (List D)) => match zz with | (k, es) => ((98 + (b.tmod 4 + 4).tmod 4).toNat - k, ⟨[(2, [], .c (.bx 100 0)), (3, [], .c (.bx 101 0)), (4, [], .c (.bx 102 0)), (5, [], .c (.d (.i (k : Int))))], [(100, .box 30 [.d (.i v.kind), .d (.s (S v.s)), .d (.i v.dn), .d (.i v.ds), .d (.i v.n), .ar 201 0, .ar 202 0]), (101, .box 23 [.d (.i a), .d (.i b), .d (.i c)]), (102, .box 30 [.d (.i 0), .d (.s (S [])), .d (.i 0), .d (.i 0), .d (.i 0), .d (.nil), .d (.nil)]), (201, .arr 0 9 1 (strs v.cols)), (202, .arr 0 33 1 (es))]⟩, k ≤ (98 + (b.tmod 4 + 4).tmod 4).toNat ∧ es = rowsD (List.replicate k (List.replicate v.cols.length Cl.z)))) (0, []) (by kernel_rfl) conj0 (by kernel_rfl) ?_ ?_
           ·exact ⟨Nat.zero_le _, rfl⟩
           rintro ⟨k, es⟩ ⟨hk, hes⟩
           have hlen : es.length = k := by rw [hes, rowsD, List.length_map, List.length_replicate]
           refine zc hG [] [1, 0] (decide (((k : Int) : Int) < (98 + (Int.tmod ((Int.tmod b 4) + 4) 4)))) (by kernel_rfl) (conjC (show 4 ≠ (0 : Int) from (by intros; (try simp only [zq19] at *) <;> omega)) (conjC (show inR ((Int.tmod b 4) + 4) from (by intros; (try simp only [zq19] at *) <;> omega)) (conjC (show 4 ≠ (0 : Int) from (by intros; (try simp only [zq19] at *) <;> omega)) (conj1 (show inR (98 + (Int.tmod ((Int.tmod b 4) + 4) 4)) from (by intros; (try simp only [zq19] at *) <;> omega)))))) (fun hc14 => ?_) (fun hc14 => ?_)
           ·(try simp only [zq20] at hc14)
            refine zD hG [(27, 5, .elem [.nil, .nil, .nil, .nil, .nil, .sl 1 [], .sl 1 []])] (k + 1, es ++ ([[.sl 7 (List.replicate ((strs v.cols).length) [.i 0, .s (S []), .i 0, .i 0, .i 0, .sl 1 ([]), .sl 1 ([])])]] : List (List D))) (by kernel_rfl) (conjC (show (0 : Int) ≤ ((strs v.cols).length : Int) ∧ ((strs v.cols).length : Int) = ((strs v.cols).length : Int) ∧ ((96 : Nat) : Int) * ((strs v.cols).length : Int) ≤ 281474976710656 ∧ ((strs v.cols).length : Int) ≤ 9223372036854775807 from (by intros; (try simp only [zq19] at *) <;> omega)) (conjC (show ((es).length + (([[.sl 7 (List.replicate ((strs v.cols).length) [.i 0, .s (S []), .i 0, .i 0, .i 0, .sl 1 ([]), .sl 1 ([])])]] : List (List D))).length) * (24 + 1) ≤ 140737488355328 from (by intros; (try simp only [zq19] at *) <;> omega)) (conj1 (show inR ((k : Int) + 1) from (by intros; (try simp only [zq19] at *) <;> omega))))) ?_ ?_
            ·(try dsimp only); omega
            ·refine ⟨by omega, ?_⟩
             rw [hes, rep_rows]
           ·(try simp only [zq20] at hc14)
            refine zE hG [] (.exit 1) (⟨[(2, [], .c (.bx 100 0)), (4, [], .c (.bx 102 0))], [(100, .box 30 [.d (.i v.kind), .d (.s (S v.s)), .d (.i v.dn), .d (.i v.ds), .d (.i v.n), .ar 201 0, .ar 202 0]), (102, .box 30 [.d (.i 0), .d (.s (S [])), .d (.i 0), .d (.i 0), .d (.i 0), .d (.nil), .d (.nil)]), (201, .arr 0 9 1 (strs v.cols)), (202, .arr 0 33 1 (es))]⟩) (by kernel_rfl) conj0 rfl ?_
            refine zR hG [] [] (.agg [.d (.i v.kind), .d (.s (S v.s)), .d (.i v.dn), .d (.i v.ds), .d (.i v.n), .d (.sl 1 (strs v.cols)), .d (.sl 1 (es))]) [] (by kernel_rfl) conj0 ?_ ?_
            ·first | (simp [oddV, qm, S_app, strs_app, rowsD, rows1, rowD, strs, strD, *]; done) | (exfalso; omega) | (have hkk : k = (98 + (b.tmod 4 + 4).tmod 4).toNat := (by omega); rw [hes, hkk]; simp [oddV, qm, rowsD, rows1, rowD, *])
            ·rfl
          ·(try simp only [zq20] at hc12)
           refine zR hG [] [] (.agg [.d (.i v.kind), .d (.s (S v.s)), .d (.i v.dn), .d (.i v.ds), .d (.i v.n), .d (.sl 1 (strs v.cols)), .d (.sl 1 (([] : List (List D))))]) [] (by kernel_rfl) conj0 ?_ ?_
           ·first | (simp [oddV, qm, S_app, strs_app, rowsD, rows1, rowD, strs, strD, *]; done) | (exfalso; omega) | (have hkk : k = (98 + (b.tmod 4 + 4).tmod 4).toNat := (by omega); rw [hes, hkk]; simp [oddV, qm, rowsD, rows1, rowD, *])
           ·rfl
theorem oddR (v : Vl) (r : List Cl) (rs : List (List Cl)) (b1 : v.s.length ≤ 1000000) (b2 : v.cols.length ≤ 1000000) (b4 : r.length ≤ 1000000) (b3 : rs.length ≤ 1000000) (b5 : ∀ x, x ∈ rs → x.length ≤ 1000000) (a b c : Int) :
  SpG g 12 [.agg [.d (.i v.kind), .d (.s (S v.s)), .d (.i v.dn), .d (.i v.ds), .d (.i v.n), .d (.sl 1 (strs v.cols)), .d (.sl 1 (rowsD (r :: rs)))], .agg [.d (.i a), .d (.i b), .d (.i c)]] [] (.agg [.d (.i ((oddV ⟨v.kind, v.s, v.dn, v.ds, v.n, v.cols, r :: rs⟩ a b c).kind)), .d (.s (S (oddV ⟨v.kind, v.s, v.dn, v.ds, v.n, v.cols, r :: rs⟩ a b c).s)), .d (.i ((oddV ⟨v.kind, v.s, v.dn, v.ds, v.n, v.cols, r :: rs⟩ a b c).dn)), .d (.i ((oddV ⟨v.kind, v.s, v.dn, v.ds, v.n, v.cols, r :: rs⟩ a b c).ds)), .d (.i ((oddV ⟨v.kind, v.s, v.dn, v.ds, v.n, v.cols, r :: rs⟩ a b c).n)), .d (.sl 1 (strs ((oddV ⟨v.kind, v.s, v.dn, v.ds, v.n, v.cols, r :: rs⟩ a b c).cols))), .d (.sl 1 (rowsD ((oddV ⟨v.kind, v.s, v.dn, v.ds, v.n, v.cols, r :: rs⟩ a b c).rows)))]) [] := by
 have a1 := tmod_in (x := a) (n := 10) (by decide)
 have a2 := tmod_in (x := b) (n := 8) (by decide)
 have a3 := tmod_in (x := b) (n := 5) (by decide)
 have a4 := tmod_in (x := b) (n := 4) (by decide)
 have a5 := tmod_in (x := b) (n := 3) (by decide)
 have a6 := tmod_in (x := c) (n := 8) (by decide)
 have a7 := qm_bd b 5 (by decide)
 have a8 := qm_bd b 4 (by decide)
 have a9 := qm_bd a 10 (by decide)
 simp only [qm] at a7 a8 a9
 refine enterB 138 Tryz.func12 (by kernel_rfl) fun fr hG => ?_
 refine zC hG [(1, 1, .call (.agg [.d (.i v.kind), .d (.s (S v.s)), .d (.i v.dn), .d (.i v.ds), .d (.i v.n), .ar 100 0, .ar 101 0]) [(100, .arr 0 9 1 (strs v.cols)), (102, .arr 0 30 7 (rowD r)), (101, .arr 0 ⟨33, [(0, .ar 102 0)]⟩ 1 ([.v undef] :: (rowsD rs)))] [])] [1, 0, 1, 0, 1, 1] (decide ((Int.tmod ((Int.tmod a 10) + 10) 10 : Int) = 0)) (⟨[(2, [], .c (.bx 100 0)), (3, [], .c (.bx 101 0)), (4, [], .c (.bx 102 0)), (12, [], .c (.d (.i (Int.tmod ((Int.tmod a 10) + 10) 10))))], [(100, .box 30 [.d (.i v.kind), .d (.s (S v.s)), .d (.i v.dn), .d (.i v.ds), .d (.i v.n), .ar 201 0, .ar 202 0]), (101, .box 23 [.d (.i a), .d (.i b), .d (.i c)]), (102, .box 30 [.d (.i 0), .d (.s (S [])), .d (.i 0), .d (.i 0), .d (.i 0), .d (.nil), .d (.nil)]), (201, .arr 0 9 1 (strs v.cols)), (202, .arr 0 ⟨33, [(0, .ar 203 0)]⟩ 1 ([.v undef] :: (rowsD rs))), (203, .arr 0 30 7 (rowD r))]⟩) (by kernel_rfl) (conjC ((copyR v r rs b2 b4 b3 b5 : SpG g _ _ _ _ _)) (conjC (show 10 ≠ (0 : Int) from (by intros; (try simp only [zq19] at *) <;> omega)) (conjC (show inR ((Int.tmod a 10) + 10) from (by intros; (try simp only [zq19] at *) <;> omega)) (conj1 (show 10 ≠ (0 : Int) from (by intros; (try simp only [zq19] at *) <;> omega)))))) (fun hc1 => ?_) (fun hc1 => ?_)
 ·(try simp only [zq20] at hc1)
  refine zR hG [] [] (.agg [.d (.i ((Int.tmod b 8) - 1)), .d (.s (S v.s)), .d (.i v.dn), .d (.i v.ds), .d (.i v.n), .d (.sl 1 (strs v.cols)), .d (.sl 1 ([.sl 7 (rowD r)] :: (rowsD rs)))]) [] (by kernel_rfl) (conjC (show 8 ≠ (0 : Int) from (by intros; (try simp only [zq19] at *) <;> omega)) (conj1 (show inR ((Int.tmod b 8) - 1) from (by intros; (try simp only [zq19] at *) <;> omega)))) ?_ ?_
  ·first | (simp [oddV, qm, S_app, strs_app, rowsD, rows1, rowD, strs, strD, *]; done) | (exfalso; omega) | (have hkk : k = (98 + (b.tmod 4 + 4).tmod 4).toNat := (by omega); rw [hes, hkk]; simp [oddV, qm, rowsD, rows1, rowD, *]; done) | (cases r <;> simp [oddV, qm, rowsD, rows1, rowD, ClD, List.set] at *; done) | (cases r <;> simp_all [oddV, qm, rowsD, rows1, rowD, ClD, List.set])
  ·rfl
 ·(try simp only [zq20] at hc1)
  refine zc hG [] [1, 1, 1, 0, 1, 0, 1, 1] (decide ((Int.tmod ((Int.tmod a 10) + 10) 10 : Int) = 1)) (by kernel_rfl) conj0 (fun hc2 => ?_) (fun hc2 => ?_)
  ·(try simp only [zq20] at hc2)
   refine zR hG [(6, 6, .call (.c (.d (.s (S [u8 b])))) [] [])] [] (.agg [.d (.i v.kind), .d (.s ((S v.s) ++ (S [u8 b]))), .d (.i v.dn), .d (.i v.ds), .d (.i v.n), .d (.sl 1 (strs v.cols)), .d (.sl 1 ([.sl 7 (rowD r)] :: (rowsD rs)))]) [] (by kernel_rfl) (conjC (show ([[.y (IntKind.wrap .u8 b)]] : List (List D)) = bytesD (S [u8 b]).data.toList from (bytes1 b)) (conj1 (show (S v.s).size + (S [u8 b]).size ≤ maxLen from (by intros; (try simp only [zq19] at *) <;> omega)))) ?_ ?_
   ·first | (simp [oddV, qm, S_app, strs_app, rowsD, rows1, rowD, strs, strD, *]; done) | (exfalso; omega) | (have hkk : k = (98 + (b.tmod 4 + 4).tmod 4).toNat := (by omega); rw [hes, hkk]; simp [oddV, qm, rowsD, rows1, rowD, *]; done) | (cases r <;> simp [oddV, qm, rowsD, rows1, rowD, ClD, List.set] at *; done) | (cases r <;> simp_all [oddV, qm, rowsD, rows1, rowD, ClD, List.set])
   ·rfl
  ·(try simp only [zq20] at hc2)
   refine zc hG [] [1, 1, 1, 1, 1, 0, 1, 0, 1, 1] (decide ((Int.tmod ((Int.tmod a 10) + 10) 10 : Int) = 2)) (by kernel_rfl) conj0 (fun hc3 => ?_) (fun hc3 => ?_)
   ·(try simp only [zq20] at hc3)
    refine zR hG [] [] (.agg [.d (.i v.kind), .d (.s (S v.s)), .d (.i b), .d (.i (Int.tmod c 8)), .d (.i v.n), .d (.sl 1 (strs v.cols)), .d (.sl 1 ([.sl 7 (rowD r)] :: (rowsD rs)))]) [] (by kernel_rfl) (conj1 (show 8 ≠ (0 : Int) from (by intros; (try simp only [zq19] at *) <;> omega))) ?_ ?_
    ·first | (simp [oddV, qm, S_app, strs_app, rowsD, rows1, rowD, strs, strD, *]; done) | (exfalso; omega) | (have hkk : k = (98 + (b.tmod 4 + 4).tmod 4).toNat := (by omega); rw [hes, hkk]; simp [oddV, qm, rowsD, rows1, rowD, *]; done) | (cases r <;> simp [oddV, qm, rowsD, rows1, rowD, ClD, List.set] at *; done) | (cases r <;> simp_all [oddV, qm, rowsD, rows1, rowD, ClD, List.set])
    ·rfl
   ·(try simp only [zq20] at hc3)
    refine zc hG [] [1, 1, 1, 1, 1, 1, 1, 0, 1, 0, 1, 1] (decide ((Int.tmod ((Int.tmod a 10) + 10) 10 : Int) = 3)) (by kernel_rfl) conj0 (fun hc4 => ?_) (fun hc4 => ?_)
    ·(try simp only [zq20] at hc4)
     refine zR hG [] [] (.agg [.d (.i v.kind), .d (.s (S v.s)), .d (.i v.dn), .d (.i v.ds), .d (.i b), .d (.sl 1 (strs v.cols)), .d (.sl 1 ([.sl 7 (rowD r)] :: (rowsD rs)))]) [] (by kernel_rfl) conj0 ?_ ?_
     ·first | (simp [oddV, qm, S_app, strs_app, rowsD, rows1, rowD, strs, strD, *]; done) | (exfalso; omega) | (have hkk : k = (98 + (b.tmod 4 + 4).tmod 4).toNat := (by omega); rw [hes, hkk]; simp [oddV, qm, rowsD, rows1, rowD, *]; done) | (cases r <;> simp [oddV, qm, rowsD, rows1, rowD, ClD, List.set] at *; done) | (cases r <;> simp_all [oddV, qm, rowsD, rows1, rowD, ClD, List.set])
     ·rfl
    ·(try simp only [zq20] at hc4)
     refine zc hG [] [1, 1, 1, 1, 1, 1, 1, 1, 1, 0, 1, 0, 1, 1] (decide ((Int.tmod ((Int.tmod a 10) + 10) 10 : Int) = 4)) (by kernel_rfl) conj0 (fun hc5 => ?_) (fun hc5 => ?_)
     ·(try simp only [zq20] at hc5)
      refine zR hG [(12, 9, .elem (strD (oddL.getD (Int.tmod ((Int.tmod b 5) + 5) 5 : Int).toNat [])))] [] (.agg [.d (.i v.kind), .d (.s (S v.s)), .d (.i v.dn), .d (.i v.ds), .d (.i v.n), .d (.sl 1 ((strs v.cols) ++ ([[.s (S (oddL.getD (Int.tmod ((Int.tmod b 5) + 5) 5 : Int).toNat []))]] : List (List D)))), .d (.sl 1 ([.sl 7 (rowD r)] :: (rowsD rs)))]) [] (by kernel_rfl) (conjC (show 5 ≠ (0 : Int) from (by intros; (try simp only [zq19] at *) <;> omega)) (conjC (show inR ((Int.tmod b 5) + 5) from (by intros; (try simp only [zq19] at *) <;> omega)) (conjC (show 5 ≠ (0 : Int) from (by intros; (try simp only [zq19] at *) <;> omega)) (conjC (show (0 : Int) ≤ (Int.tmod ((Int.tmod b 5) + 5) 5) ∧ (Int.tmod ((Int.tmod b 5) + 5) 5) < ((([[.s (S [97])], [.s (S [])], [.s (S [120, 49])], [.s (S [49, 120])], [.s (S [97, 98, 99, 100, 101, 102, 103, 104, 105, 106, 107, 108, 109, 110, 111, 112, 113, 114, 115, 116, 117])]] : List (List D))).length : Int) from (by intros; (try simp only [zq19] at *) <;> omega)) (conjC (show (([[.s (S [97])], [.s (S [])], [.s (S [120, 49])], [.s (S [49, 120])], [.s (S [97, 98, 99, 100, 101, 102, 103, 104, 105, 106, 107, 108, 109, 110, 111, 112, 113, 114, 115, 116, 117])]] : List (List D)))[(Int.tmod ((Int.tmod b 5) + 5) 5 : Int).toNat]? = some (strD (oddL.getD (Int.tmod ((Int.tmod b 5) + 5) 5 : Int).toNat [])) from (odd_at (by omega))) (conj1 (show ((strs v.cols).length + (([[.s (S (oddL.getD (Int.tmod ((Int.tmod b 5) + 5) 5 : Int).toNat []))]] : List (List D))).length) * (16 + 1) ≤ 140737488355328 from (by intros; (try simp only [zq19] at *) <;> omega)))))))) ?_ ?_
      ·first | (simp [oddV, qm, S_app, strs_app, rowsD, rows1, rowD, strs, strD, *]; done) | (exfalso; omega) | (have hkk : k = (98 + (b.tmod 4 + 4).tmod 4).toNat := (by omega); rw [hes, hkk]; simp [oddV, qm, rowsD, rows1, rowD, *]; done) | (cases r <;> simp [oddV, qm, rowsD, rows1, rowD, ClD, List.set] at *; done) | (cases r <;> simp_all [oddV, qm, rowsD, rows1, rowD, ClD, List.set])
      ·rfl
     ·(try simp only [zq20] at hc5)
      refine zc hG [] [1, 1, 1, 1, 1, 1, 1, 1, 1, 1, 1, 0, 1, 0, 1, 1] (decide ((Int.tmod ((Int.tmod a 10) + 10) 10 : Int) = 5)) (by kernel_rfl) conj0 (fun hc6 => ?_) (fun hc6 => ?_)
      ·(try simp only [zq20] at hc6)
       refine zR hG [(14, 2, .mask [some 7])] [] (.agg [.d (.i v.kind), .d (.s (S v.s)), .d (.i v.dn), .d (.i v.ds), .d (.i v.n), .d (.sl 1 (strs v.cols)), .d (.sl 1 ([.sl 7 (rowD r)] :: ((rowsD rs) ++ ([[.sl 7 ([])]] : List (List D)))))]) [] (by kernel_rfl) (conj1 (show (([.v undef] :: (rowsD rs)).length + (([[.sl 7 ([])]] : List (List D))).length) * (24 + 1) ≤ 140737488355328 from (by intros; (try simp only [zq19] at *) <;> omega))) ?_ ?_
       ·first | (simp [oddV, qm, S_app, strs_app, rowsD, rows1, rowD, strs, strD, *]; done) | (exfalso; omega) | (have hkk : k = (98 + (b.tmod 4 + 4).tmod 4).toNat := (by omega); rw [hes, hkk]; simp [oddV, qm, rowsD, rows1, rowD, *]; done) | (cases r <;> simp [oddV, qm, rowsD, rows1, rowD, ClD, List.set] at *; done) | (cases r <;> simp_all [oddV, qm, rowsD, rows1, rowD, ClD, List.set])
       ·rfl
      ·(try simp only [zq20] at hc6)
       refine zc hG [] [1, 1, 1, 1, 1, 1, 1, 1, 1, 1, 1, 1, 1, 0, 1, 0, 1, 1] (decide ((Int.tmod ((Int.tmod a 10) + 10) 10 : Int) = 6)) (by kernel_rfl) conj0 (fun hc7 => ?_) (fun hc7 => ?_)
       ·(try simp only [zq20] at hc7)
        refine zC hG [] [1, 0, 1, 1, 1, 1, 1, 1, 1, 1, 1, 1, 1, 1, 1, 0, 1, 0, 1, 1] ((decide (((([.v undef] :: (rowsD rs)).length : Int) : Int) > 0)) && (decide ((((rowD r).length : Int) : Int) > 0))) (⟨[(2, [], .c (.bx 100 0)), (4, [], .c (.bx 102 0))], [(100, .box 30 [.d (.i v.kind), .d (.s (S v.s)), .d (.i v.dn), .d (.i v.ds), .d (.i v.n), .ar 201 0, .ar 202 0]), (102, .box 30 [.d (.i 0), .d (.s (S [])), .d (.i 0), .d (.i 0), .d (.i 0), .d (.nil), .d (.nil)]), (201, .arr 0 9 1 (strs v.cols)), (202, .arr 0 ⟨33, [(0, .ar 203 0)]⟩ 1 ([.v undef] :: (rowsD rs))), (203, .arr 0 30 7 (rowD r))]⟩) (by kernel_rfl) (conjC (show (decide (((([.v undef] :: (rowsD rs)).length : Int) : Int) > 0)) = true → (0 : Int) ≤ 0 ∧ 0 < (([.v undef] :: (rowsD rs)).length : Int) from (by intros; (try simp only [zq19] at *) <;> omega)) (conj1 (show (decide (((([.v undef] :: (rowsD rs)).length : Int) : Int) > 0)) = true → (0 : Nat) = 0 ∧ 0 < ([.v undef] :: (rowsD rs)).length from (by intros; (try simp only [zq19] at *) <;> omega)))) (fun hc8 => ?_) (fun hc8 => ?_)
        ·(try simp only [zq20] at hc8)
         refine zR hG [(17, 6, .mask [none, none, none, none, none, some 1, some 1])] [] (.agg [.d (.i v.kind), .d (.s (S v.s)), .d (.i v.dn), .d (.i v.ds), .d (.i v.n), .d (.sl 1 (strs v.cols)), .d (.sl 1 ([.sl 7 ((rowD r).set 0 [.i 5, .s (S []), .i 0, .i 0, .i 0, .sl 1 ([]), .sl 1 ([])])] :: (rowsD rs)))]) [] (by kernel_rfl) (conjC (show (0 : Int) ≤ 0 ∧ 0 < (([.v undef] :: (rowsD rs)).length : Int) from (by intros; (try simp only [zq19] at *) <;> omega)) (conjC (show (0 : Nat) = 0 ∧ 0 < ([.v undef] :: (rowsD rs)).length from (by intros; (try simp only [zq19] at *) <;> omega)) (conj1 (show (0 : Int) ≤ 0 ∧ 0 < ((rowD r).length : Int) from (by intros; (try simp only [zq19] at *) <;> omega))))) ?_ ?_
         ·first | (simp [oddV, qm, S_app, strs_app, rowsD, rows1, rowD, strs, strD, *]; done) | (exfalso; omega) | (have hkk : k = (98 + (b.tmod 4 + 4).tmod 4).toNat := (by omega); rw [hes, hkk]; simp [oddV, qm, rowsD, rows1, rowD, *]; done) | (cases r <;> simp [oddV, qm, rowsD, rows1, rowD, ClD, List.set] at *; done) | (cases r <;> simp_all [oddV, qm, rowsD, rows1, rowD, ClD, List.set])
         ·rfl
        ·(try simp only [zq20] at hc8)
         refine zR hG [] [] (.agg [.d (.i v.kind), .d (.s (S v.s)), .d (.i v.dn), .d (.i v.ds), .d (.i v.n), .d (.sl 1 (strs v.cols)), .d (.sl 1 ([.sl 7 (rowD r)] :: (rowsD rs)))]) [] (by kernel_rfl) conj0 ?_ ?_
         ·first | (simp [oddV, qm, S_app, strs_app, rowsD, rows1, rowD, strs, strD, *]; done) | (exfalso; omega) | (have hkk : k = (98 + (b.tmod 4 + 4).tmod 4).toNat := (by omega); rw [hes, hkk]; simp [oddV, qm, rowsD, rows1, rowD, *]; done) | (cases r <;> simp [oddV, qm, rowsD, rows1, rowD, ClD, List.set] at *; done) | (cases r <;> simp_all [oddV, qm, rowsD, rows1, rowD, ClD, List.set])
         ·rfl
       ·(try simp only [zq20] at hc7)
        refine zc hG [] [1, 1, 1, 1, 1, 1, 1, 1, 1, 1, 1, 1, 1, 1, 1, 0, 1, 0, 1, 1] (decide ((Int.tmod ((Int.tmod a 10) + 10) 10 : Int) = 7)) (by kernel_rfl) conj0 (fun hc9 => ?_) (fun hc9 => ?_)
        ·(try simp only [zq20] at hc9)
         refine zC hG [] [1, 0, 1, 1, 1, 1, 1, 1, 1, 1, 1, 1, 1, 1, 1, 1, 1, 0, 1, 0, 1, 1] ((decide (((([.v undef] :: (rowsD rs)).length : Int) : Int) > 0)) && (decide ((((rowD r).length : Int) : Int) > 0))) (⟨[(2, [], .c (.bx 100 0)), (3, [], .c (.bx 101 0)), (4, [], .c (.bx 102 0))], [(100, .box 30 [.d (.i v.kind), .d (.s (S v.s)), .d (.i v.dn), .d (.i v.ds), .d (.i v.n), .ar 201 0, .ar 202 0]), (101, .box 23 [.d (.i a), .d (.i b), .d (.i c)]), (102, .box 30 [.d (.i 0), .d (.s (S [])), .d (.i 0), .d (.i 0), .d (.i 0), .d (.nil), .d (.nil)]), (201, .arr 0 9 1 (strs v.cols)), (202, .arr 0 ⟨33, [(0, .ar 203 0)]⟩ 1 ([.v undef] :: (rowsD rs))), (203, .arr 0 30 7 (rowD r))]⟩) (by kernel_rfl) (conjC (show (decide (((([.v undef] :: (rowsD rs)).length : Int) : Int) > 0)) = true → (0 : Int) ≤ 0 ∧ 0 < (([.v undef] :: (rowsD rs)).length : Int) from (by intros; (try simp only [zq19] at *) <;> omega)) (conj1 (show (decide (((([.v undef] :: (rowsD rs)).length : Int) : Int) > 0)) = true → (0 : Nat) = 0 ∧ 0 < ([.v undef] :: (rowsD rs)).length from (by intros; (try simp only [zq19] at *) <;> omega)))) (fun hc10 => ?_) (fun hc10 => ?_)
         ·(try simp only [zq20] at hc10)
          refine zR hG [(20, 9, .mask [none, none, none, none, none, some 1, some 1])] [] (.agg [.d (.i v.kind), .d (.s (S v.s)), .d (.i v.dn), .d (.i v.ds), .d (.i v.n), .d (.sl 1 (strs v.cols)), .d (.sl 1 ([.sl 7 ((rowD r).set 0 [.i 4, .s (S []), .i 0, .i 0, .i (Int.tmod b 3), .sl 1 ([]), .sl 1 ([])])] :: (rowsD rs)))]) [] (by kernel_rfl) (conjC (show (0 : Int) ≤ 0 ∧ 0 < (([.v undef] :: (rowsD rs)).length : Int) from (by intros; (try simp only [zq19] at *) <;> omega)) (conjC (show (0 : Nat) = 0 ∧ 0 < ([.v undef] :: (rowsD rs)).length from (by intros; (try simp only [zq19] at *) <;> omega)) (conjC (show 3 ≠ (0 : Int) from (by intros; (try simp only [zq19] at *) <;> omega)) (conj1 (show (0 : Int) ≤ 0 ∧ 0 < ((rowD r).length : Int) from (by intros; (try simp only [zq19] at *) <;> omega)))))) ?_ ?_
          ·first | (simp [oddV, qm, S_app, strs_app, rowsD, rows1, rowD, strs, strD, *]; done) | (exfalso; omega) | (have hkk : k = (98 + (b.tmod 4 + 4).tmod 4).toNat := (by omega); rw [hes, hkk]; simp [oddV, qm, rowsD, rows1, rowD, *]; done) | (cases r <;> simp [oddV, qm, rowsD, rows1, rowD, ClD, List.set] at *; done) | (cases r <;> simp_all [oddV, qm, rowsD, rows1, rowD, ClD, List.set])
          ·rfl
         ·(try simp only [zq20] at hc10)
          refine zR hG [] [] (.agg [.d (.i v.kind), .d (.s (S v.s)), .d (.i v.dn), .d (.i v.ds), .d (.i v.n), .d (.sl 1 (strs v.cols)), .d (.sl 1 ([.sl 7 (rowD r)] :: (rowsD rs)))]) [] (by kernel_rfl) conj0 ?_ ?_
          ·first | (simp [oddV, qm, S_app, strs_app, rowsD, rows1, rowD, strs, strD, *]; done) | (exfalso; omega) | (have hkk : k = (98 + (b.tmod 4 + 4).tmod 4).toNat := (by omega); rw [hes, hkk]; simp [oddV, qm, rowsD, rows1, rowD, *]; done) | (cases r <;> simp [oddV, qm, rowsD, rows1, rowD, ClD, List.set] at *; done) | (cases r <;> simp_all [oddV, qm, rowsD, rows1, rowD, ClD, List.set])
          ·rfl
        ·(try simp only [zq20] at hc9)
         refine zc hG [] [1, 1, 1, 1, 1, 1, 1, 1, 1, 1, 1, 1, 1, 1, 1, 1, 1, 0, 1, 0, 1, 1] (decide ((Int.tmod ((Int.tmod a 10) + 10) 10 : Int) = 8)) (by kernel_rfl) conj0 (fun hc11 => ?_) (fun hc11 => ?_)
         ·(try simp only [zq20] at hc11)
          refine zR hG [] [] (.agg [.d (.i v.kind), .d (.s ((S v.s) ++ (S [39]))), .d (.i v.dn), .d (.i v.ds), .d (.i v.n), .d (.sl 1 (strs v.cols)), .d (.sl 1 ([.sl 7 (rowD r)] :: (rowsD rs)))]) [] (by kernel_rfl) (conj1 (show (S v.s).size + (S [39]).size ≤ maxLen from (by intros; (try simp only [zq19] at *) <;> omega))) ?_ ?_
          ·first | (simp [oddV, qm, S_app, strs_app, rowsD, rows1, rowD, strs, strD, *]; done) | (exfalso; omega) | (have hkk : k = (98 + (b.tmod 4 + 4).tmod 4).toNat := (by omega); rw [hes, hkk]; simp [oddV, qm, rowsD, rows1, rowD, *]; done) | (cases r <;> simp [oddV, qm, rowsD, rows1, rowD, ClD, List.set] at *; done) | (cases r <;> simp_all [oddV, qm, rowsD, rows1, rowD, ClD, List.set])
          ·rfl
         ·(try simp only [zq20] at hc11)
          refine zC hG [] [1, 1, 1, 1, 1, 1, 1, 1, 1, 1, 1, 1, 1, 1, 1, 1, 1, 1, 1, 0, 1, 0, 1, 1] (decide ((Int.tmod ((Int.tmod a 10) + 10) 10 : Int) = 9)) (⟨[(2, [], .c (.bx 100 0)), (3, [], .c (.bx 101 0)), (4, [], .c (.bx 102 0))], [(100, .box 30 [.d (.i v.kind), .d (.s (S v.s)), .d (.i v.dn), .d (.i v.ds), .d (.i v.n), .ar 201 0, .ar 202 0]), (101, .box 23 [.d (.i a), .d (.i b), .d (.i c)]), (102, .box 30 [.d (.i 0), .d (.s (S [])), .d (.i 0), .d (.i 0), .d (.i 0), .d (.nil), .d (.nil)]), (201, .arr 0 9 1 (strs v.cols)), (202, .arr 0 ⟨33, [(0, .ar 203 0)]⟩ 1 ([.v undef] :: (rowsD rs))), (203, .arr 0 30 7 (rowD r))]⟩) (by kernel_rfl) conj0 (fun hc12 => ?_) (fun hc12 => ?_)
          ·(try simp only [zq20] at hc12)
           refine zL hG [] [0, 1, 0, 1, 1, 1, 1, 1, 1, 1, 1, 1, 1, 1, 1, 1, 1, 1, 1, 1, 1, 1, 0, 1, 0, 1, 1] (fun (zz : Nat × List (List D)) => match zz with | (k, es) => ((98 + (b.tmod 4 + 4).tmod 4).toNat - k, ⟨[(2, [], .c (.bx 100 0)), (3, [], .c (.bx 101 0)), (4, [], .c (.bx 102 0)), (5, [], .c (.d (.i (k : Int))))], [(100, .box 30 [.d (.i v.kind), .d (.s (S v.s)), .d (.i v.dn), .d (.i v.ds), .d (.i v.n), .ar 201 0, .ar 202 0]), (101, .box 23 [.d (.i a), .d (.i b), .d (.i c)]), (102, .box 30 [.d (.i 0), .d (.s (S [])), .d (.i 0), .d (.i 0), .d (.i 0), .d (.nil), .d (.nil)]), (201, .arr 0 9 1 (strs v.cols)), (202, .arr 0 ⟨33, [(0, .ar 203 0)]⟩ 1 ([.v undef] :: (es))), (203, .arr 0 30 7 (rowD r))]⟩, k ≤ (98 + (b.tmod 4 + 4).tmod 4).toNat ∧ es = rowsD (rs ++ List.replicate k (List.replicate v.cols.length Cl.z)))) (0, rowsD rs) (by kernel_rfl) conj0 (by kernel_rfl) ?_ ?_
           ·exact ⟨Nat.zero_le _, by simp⟩
           rintro ⟨k, es⟩ ⟨hk, hes⟩
           have hlen : es.length = rs.length + k := by rw [hes, rowsD, List.length_map, List.length_append, List.length_replicate]
           refine zc hG [] [1, 0] (decide (((k : Int) : Int) < (98 + (Int.tmod ((Int.tmod b 4) + 4) 4)))) (by kernel_rfl) (conjC (show 4 ≠ (0 : Int) from (by intros; (try simp only [zq19] at *) <;> omega)) (conjC (show inR ((Int.tmod b 4) + 4) from (by intros; (try simp only [zq19] at *) <;> omega)) (conjC (show 4 ≠ (0 : Int) from (by intros; (try simp only [zq19] at *) <;> omega)) (conj1 (show inR (98 + (Int.tmod ((Int.tmod b 4) + 4) 4)) from (by intros; (try simp only [zq19] at *) <;> omega)))))) (fun hc14 => ?_) (fun hc14 => ?_)
           ·(try simp only [zq20] at hc14)
            refine zD hG [(27, 5, .elem [.nil, .nil, .nil, .nil, .nil, .sl 1 [], .sl 1 []])] (k + 1, es ++ ([[.sl 7 (List.replicate ((strs v.cols).length) [.i 0, .s (S []), .i 0, .i 0, .i 0, .sl 1 ([]), .sl 1 ([])])]] : List (List D))) (by kernel_rfl) (conjC (show (0 : Int) ≤ ((strs v.cols).length : Int) ∧ ((strs v.cols).length : Int) = ((strs v.cols).length : Int) ∧ ((96 : Nat) : Int) * ((strs v.cols).length : Int) ≤ 281474976710656 ∧ ((strs v.cols).length : Int) ≤ 9223372036854775807 from (by intros; (try simp only [zq19] at *) <;> omega)) (conjC (show (([.v undef] :: (es)).length + (([[.sl 7 (List.replicate ((strs v.cols).length) [.i 0, .s (S []), .i 0, .i 0, .i 0, .sl 1 ([]), .sl 1 ([])])]] : List (List D))).length) * (24 + 1) ≤ 140737488355328 from (by intros; (try simp only [zq19] at *) <;> omega)) (conj1 (show inR ((k : Int) + 1) from (by intros; (try simp only [zq19] at *) <;> omega))))) ?_ ?_
            ·(try dsimp only); omega
            ·refine ⟨by omega, ?_⟩
             rw [hes, rep_rows2]
           ·(try simp only [zq20] at hc14)
            refine zE hG [] (.exit 1) (⟨[(2, [], .c (.bx 100 0)), (4, [], .c (.bx 102 0))], [(100, .box 30 [.d (.i v.kind), .d (.s (S v.s)), .d (.i v.dn), .d (.i v.ds), .d (.i v.n), .ar 201 0, .ar 202 0]), (102, .box 30 [.d (.i 0), .d (.s (S [])), .d (.i 0), .d (.i 0), .d (.i 0), .d (.nil), .d (.nil)]), (201, .arr 0 9 1 (strs v.cols)), (202, .arr 0 ⟨33, [(0, .ar 203 0)]⟩ 1 ([.v undef] :: (es))), (203, .arr 0 30 7 (rowD r))]⟩) (by kernel_rfl) conj0 rfl ?_
            refine zR hG [] [] (.agg [.d (.i v.kind), .d (.s (S v.s)), .d (.i v.dn), .d (.i v.ds), .d (.i v.n), .d (.sl 1 (strs v.cols)), .d (.sl 1 ([.sl 7 (rowD r)] :: (es)))]) [] (by kernel_rfl) conj0 ?_ ?_
            ·first | (simp [oddV, qm, S_app, strs_app, rowsD, rows1, rowD, strs, strD, *]; done) | (exfalso; omega) | (have hkk : k = (98 + (b.tmod 4 + 4).tmod 4).toNat := (by omega); rw [hes, hkk]; simp [oddV, qm, rowsD, rows1, rowD, *]; done) | (cases r <;> simp [oddV, qm, rowsD, rows1, rowD, ClD, List.set] at *; done) | (cases r <;> simp_all [oddV, qm, rowsD, rows1, rowD, ClD, List.set])
            ·rfl
          ·(try simp only [zq20] at hc12)
           refine zR hG [] [] (.agg [.d (.i v.kind), .d (.s (S v.s)), .d (.i v.dn), .d (.i v.ds), .d (.i v.n), .d (.sl 1 (strs v.cols)), .d (.sl 1 ([.sl 7 (rowD r)] :: (rowsD rs)))]) [] (by kernel_rfl) conj0 ?_ ?_
           ·first | (simp [oddV, qm, S_app, strs_app, rowsD, rows1, rowD, strs, strD, *]; done) | (exfalso; omega) | (have hkk : k = (98 + (b.tmod 4 + 4).tmod 4).toNat := (by omega); rw [hes, hkk]; simp [oddV, qm, rowsD, rows1, rowD, *]; done) | (cases r <;> simp [oddV, qm, rowsD, rows1, rowD, ClD, List.set] at *; done) | (cases r <;> simp_all [oddV, qm, rowsD, rows1, rowD, ClD, List.set])
           ·rfl
theorem odd_ok (v : Vl) (hs : v.small) (a b c : Int) : SpG g 12 [vArg v, .agg [.d (.i a), .d (.i b), .d (.i c)]] [] (vArg (oddV v a b c)) [] := by
 obtain ⟨k, s, dn, ds, n, cols, rows⟩ := v
 cases rows with
 | nil => exact oddN ⟨k, s, dn, ds, n, cols, []⟩ hs a b c
 | cons r rs => exact oddR ⟨k, s, dn, ds, n, cols, r :: rs⟩ r rs hs.s hs.cols (hs.each r (by simp)) (by have := hs.rows; simp only [List.length_cons] at this; omega) (fun x hx => hs.each x (by simp [hx])) a b c
end Go.Proofs.YtmpgfchkkemngaaGreatDoor
namespace Go.Proofs.YtmpgfchkkemngaaGreatDoor
open Go.RowKit Go.V
open Go.Eng (inR byteAt u8 bytesV)
variable {g : Gv}
theorem right_small {v : Vl} (h : rightB v = true) : v.s.length ≤ 200 ∧ v.cols.length ≤ 8 ∧ v.rows.length ≤ 100 ∧ (∀ r, r ∈ v.rows → r.length ≤ 8) := by
 by_cases hk : v.kind = 5
 ·have hs : v.s = [] := by
   simp only [rightB, rightK, hk] at h
   simp [bareB] at h
   simp [h]
  obtain ⟨h1, h2, h3, h4⟩ := rows_cells (rightB_table h hk)
  exact ⟨by simp [hs], h1, h2, fun r hr => by rw [(h4 r hr).1]; exact h1⟩
 ·have hc : v.cols = [] := by
   simp only [rightB, rightK, if_neg hk] at h
   repeat (split at h; (· simp [bareB] at h; simp [h]))
   cases h
  have hr := rightB_rows h hk
  have hs : v.s.length ≤ 200 := by
   by_cases k1 : v.kind = 1
   ·exact (rightB_n h).2.1 k1
   ·have : v.s = [] := by
     simp only [rightB, rightK, if_neg hk, if_neg k1] at h
     repeat (split at h; (· simp [bareB] at h; simp [h]))
     cases h
    simp [this]
  exact ⟨hs, by simp [hc], by simp [hr], fun r h' => by rw [hr] at h'; cases h'⟩
structure Vl.tiny (n : Nat) (v : Vl) : Prop where
 s : v.s.length ≤ 1000 + n
 cols : v.cols.length ≤ 1000 + n
 rows : v.rows.length ≤ 1000 + 200 * n
 each : ∀ r, r ∈ v.rows → r.length ≤ 1000 + n
 ct : ∀ t, t ∈ v.cols → t.length ≤ maxLen
 cells : ∀ r, r ∈ v.rows → ∀ c, c ∈ r → c.s.length ≤ maxLen
theorem Vl.tiny.small {n : Nat} {v : Vl} (h : v.tiny n) (hn : n ≤ 100) : v.small := ⟨by have := h.s; omega, by have := h.cols; omega, by have := h.rows; omega, fun r hr => by have := h.each r hr; omega⟩
theorem Vl.tiny.fit {n : Nat} {v : Vl} (h : v.tiny n) (hn : n ≤ 100) : v.fit := ⟨by have := h.s; unfold maxLen; omega, h.ct, h.cells⟩
theorem made_tiny (l : List Int) : (madeV l).tiny 0 := by
 obtain ⟨h1, h2, h3, h4⟩ := right_small (made_right l)
 exact ⟨by omega, by omega, by omega, fun r hr => by have := h4 r hr; omega, (made_fit l).cols, (made_fit l).cells⟩
theorem oddL_len (k : Nat) : (oddL.getD k []).length ≤ maxLen := by
 by_cases h : k < 5
 ·match k, h with
  | 0, _ => decide
  | 1, _ => decide
  | 2, _ => decide
  | 3, _ => decide
  | 4, _ => decide
 ·rw [List.getD_eq_getElem?_getD, List.getElem?_eq_none (by simp [oddL]; omega)]; simp
theorem odd_tiny {n : Nat} {v : Vl} (h : v.tiny n) (a b c : Int) : (oddV v a b c).tiny (n + 1) := by
 obtain ⟨hs, hc, hr, he, ht, hl⟩ := h
 have up : v.tiny (n + 1) := ⟨by omega, by omega, by omega, fun r hr' => by have := he r hr'; omega, ht, hl⟩
 have a8 := qm_bd b 4 (by decide)
 unfold oddV
 split
 ·exact ⟨up.s, up.cols, up.rows, up.each, up.ct, up.cells⟩
 split
 ·exact ⟨by simp; omega, up.cols, up.rows, up.each, up.ct, up.cells⟩
 split
 ·exact ⟨up.s, up.cols, up.rows, up.each, up.ct, up.cells⟩
 split
 ·exact ⟨up.s, up.cols, up.rows, up.each, up.ct, up.cells⟩
 split
 ·refine ⟨up.s, by simp; omega, up.rows, up.each, fun t h' => ?_, up.cells⟩
  simp only [List.mem_append, List.mem_singleton] at h'
  rcases h' with h' | rfl
  ·exact ht t h'
  ·exact oddL_len _
 split
 ·refine ⟨up.s, up.cols, by simp; omega, fun r h' => ?_, up.ct, fun r h' c' hc' => ?_⟩
  ·simp only [List.mem_append, List.mem_singleton] at h'
   rcases h' with h' | rfl
   ·exact up.each r h'
   ·simp
  ·simp only [List.mem_append, List.mem_singleton] at h'
   rcases h' with h' | rfl
   ·exact hl r h' c' hc'
   ·cases hc'
 have chg : ∀ x : Cl, x.s = [] → (match v.rows with | (_ :: r) :: rs => { v with rows := (x :: r) :: rs } | _ => v : Vl).tiny (n + 1) := by
  intro x hx
  split
  ·rename_i y r rs hv
   have e1 := up.rows; have e2 := up.each; have e3 := up.cells
   rw [hv] at e1 e2 e3
   refine ⟨up.s, up.cols, by simpa using e1, fun q hq => ?_, up.ct, fun q hq c' hc' => ?_⟩
   ·rcases List.mem_cons.1 hq with rfl | hq
    ·have := e2 (y :: r) (by simp); simpa using this
    ·exact e2 q (by simp [hq])
   ·rcases List.mem_cons.1 hq with rfl | hq
    ·rcases List.mem_cons.1 hc' with rfl | hc'
     ·rw [hx]; simp
     ·exact e3 (y :: r) (by simp) c' (by simp [hc'])
    ·exact e3 q (by simp [hq]) c' hc'
  ·exact up
 split
 ·exact chg _ rfl
 split
 ·exact chg _ rfl
 split
 ·exact ⟨by simp; omega, up.cols, up.rows, up.each, up.ct, up.cells⟩
 ·refine ⟨up.s, up.cols, by simp; omega, fun r h' => ?_, up.ct, fun r h' c' hc' => ?_⟩
  ·simp only [List.mem_append, List.mem_replicate] at h'
   rcases h' with h' | ⟨_, rfl⟩
   ·exact up.each r h'
   ·simp; omega
  ·simp only [List.mem_append, List.mem_replicate] at h'
   rcases h' with h' | ⟨_, rfl⟩
   ·exact hl r h' c' hc'
   ·rw [(List.mem_replicate.1 hc').2]; simp [Cl.z]
end Go.Proofs.YtmpgfchkkemngaaGreatDoor
namespace Go.Proofs.YtmpgfchkkemngaaGreatDoor
open Go.RowKit Go.V
open Go.Eng (inR byteAt u8 bytesV)
def gT (m : Int) : Gv := ⟨m, [(1, tensL.map (Value.int .i64))]⟩
variable {m : Int}
theorem cmpInt_ok (x y : Int) : SpG (gT m) 97 [.c (.d (.i x)), .c (.d (.i y))] [] (.c (.d (.i (Lib.compareInt x y)))) [] :=
 of_exact (args := [.int .i64 x, .int .i64 y]) rfl rfl rfl fun w => (Tryz.cmp_Compare_int x y w).mono fun _ _ ⟨a, b⟩ => ⟨a, b.symm⟩
theorem cmpStr_ok (a b : List UInt8) : SpG (gT m) 99 [.c (.d (.s (S a))), .c (.d (.s (S b)))] [] (.c (.d (.i (Lib.compareBytes a b)))) [] :=
 of_exact (args := [.string (S a), .string (S b)]) rfl rfl rfl fun w => (Tryz.strings_Compare (S a) (S b) w).mono fun _ _ ⟨a, b⟩ => ⟨a, b.symm⟩
def tenD (s : Int) : Int := tensL.getD s.toNat 0
def spW (n s : Int) : Int := Int.tdiv n (tenD s)
def spP (n s : Int) : Int := Int.tmod n (tenD s) * Int.tdiv 1000000 (tenD s)
theorem tenD_cases {s : Int} (h0 : 0 ≤ s) (h1 : s ≤ 6) : tenD s = 1 ∨ tenD s = 10 ∨ tenD s = 100 ∨ tenD s = 1000 ∨ tenD s = 10000 ∨ tenD s = 100000 ∨ tenD s = 1000000 := by
 have : s = 0 ∨ s = 1 ∨ s = 2 ∨ s = 3 ∨ s = 4 ∨ s = 5 ∨ s = 6 := by omega
 rcases this with rfl | rfl | rfl | rfl | rfl | rfl | rfl <;> simp [tenD, tensL]
theorem tenD_div {s : Int} (h0 : 0 ≤ s) (h1 : s ≤ 6) : 1 ≤ tenD s ∧ tenD s ≤ 1000000 ∧ 1 ≤ Int.tdiv 1000000 (tenD s) ∧ tenD s * Int.tdiv 1000000 (tenD s) = 1000000 := by
 rcases tenD_cases h0 h1 with h | h | h | h | h | h | h <;> rw [h] <;> decide
theorem sp_bd {n s : Int} (h0 : 0 ≤ s) (h1 : s ≤ 6) (hn : -1000000000000000 ≤ n) (hm : n ≤ 1000000000000000) : tenD s ≠ 0 ∧ inR (Int.tdiv n (tenD s)) ∧ inR (Int.tdiv 1000000 (tenD s)) ∧ inR (Int.tmod n (tenD s) * Int.tdiv 1000000 (tenD s)) := by
 obtain ⟨a, b, c, d⟩ := tenD_div h0 h1
 have e1 : (Int.tdiv n (tenD s)).natAbs ≤ n.natAbs := by rw [Int.natAbs_tdiv]; exact Nat.div_le_self _ _
 have e2 := tmod_in (x := n) (n := tenD s) a
 have e3 : Int.tdiv 1000000 (tenD s) ≤ 1000000 := by
  have := Int.mul_le_mul_of_nonneg_right a (show 0 ≤ Int.tdiv 1000000 (tenD s) by omega)
  rw [d, Int.one_mul] at this; exact this
 have e4 : (Int.tmod n (tenD s) * Int.tdiv 1000000 (tenD s)).natAbs ≤ 1000000 * 1000000 := by
  rw [Int.natAbs_mul]
  exact Nat.mul_le_mul (by omega) (by omega)
 unfold inR
 refine ⟨by omega, by omega, by omega, by omega⟩
def decCmp (a b c d : Int) : Int := if Lib.compareInt (spW a b) (spW c d) = 0 then Lib.compareInt (spP a b) (spP c d) else Lib.compareInt (spW a b) (spW c d)
def listC {α : Type} (f : α → α → Int) : List α → List α → Int
 | [], [] => 0
 | [], _ :: _ => -1
 | _ :: _, [] => 1
 | x :: a, y :: b => if f x y = 0 then listC f a b else f x y
theorem listC_end {α : Type} (f : α → α → Int) : ∀ {a b : List α}, a = [] ∨ b = [] → listC f a b = Lib.compareInt (a.length : Int) (b.length : Int)
 | [], [], _ => by simp [listC, Lib.compareInt]
 | [], y :: b, _ => by simp only [zq17, listC, Lib.compareInt]; rw [if_pos (by omega)]
 | x :: a, [], _ => by simp only [zq17, listC, Lib.compareInt]; rw [if_neg (by omega), if_pos (by omega)]
 | x :: a, y :: b, h => by simp at h
theorem listC_step {α : Type} (f : α → α → Int) (z : α) {a b : List α} {k : Nat} (h1 : k < a.length) (h2 : k < b.length) :
  listC f (a.drop k) (b.drop k) = if f (a.getD k z) (b.getD k z) = 0 then listC f (a.drop (k + 1)) (b.drop (k + 1)) else f (a.getD k z) (b.getD k z) := by
 rw [List.drop_eq_getElem_cons h1, List.drop_eq_getElem_cons h2]
 simp [listC, h1, h2]
theorem listC_last {α : Type} (f : α → α → Int) {a b : List α} {k : Nat} (h : k = a.length ∨ k = b.length) (h1 : k ≤ a.length) (h2 : k ≤ b.length) : listC f (a.drop k) (b.drop k) = Lib.compareInt (a.length : Int) (b.length : Int) := by
 rw [listC_end f (by rcases h with h | h <;> simp [h])]
 simp only [List.length_drop, Lib.compareInt]
 by_cases c1 : (a.length : Int) < b.length
 ·rw [if_pos c1, if_pos (by omega)]
 ·rw [if_neg c1, if_neg (by omega)]
  by_cases c2 : (a.length : Int) > b.length
  ·rw [if_pos c2, if_pos (by omega)]
  ·rw [if_neg c2, if_neg (by omega)]
theorem split_ok (n s : Int) (h : decB n s = true) :
  SpG (gT m) 156 [.agg [.d (.i n), .d (.i s)]] [] (.tup [(false, [.d (.i (spW n s))]), (false, [.d (.i (spP n s))])]) [] := by
 obtain ⟨b0, b1, b2, b3, b4⟩ := decB_bd h
 obtain ⟨c0, c1, c2, c3⟩ := sp_bd b0 b1 b2 b3
 have e0 : tensL.getD (0 + s.toNat * 1) 0 = tenD s := by rw [Nat.zero_add, Nat.mul_one]; rfl
 refine enterB 22 Tryz.func156 (by kernel_rfl) fun fr hG => ?_
 refine zR hG [(1, 1, .call (.agg [.d (.i n), .d (.i s)]) [] []), (2, 3, .elem [.i (tensL.getD (0 + (s : Int).toNat * 1) 0)])] [] (.tup [(false, [.d (.i (Int.tdiv n (tensL.getD (0 + (s : Int).toNat * 1) 0)))]), (false, [.d (.i ((Int.tmod n (tensL.getD (0 + (s : Int).toNat * 1) 0)) * (Int.tdiv 1000000 (tensL.getD (0 + (s : Int).toNat * 1) 0))))])]) [] (by kernel_rfl) (conjC ((decValue_ok n s h : SpG (gT m) _ _ _ _ _)) (conjC (show (0 : Int) ≤ s ∧ s < ((7 : Nat) : Int) from (by intros; first | omega | exact ⟨by omega, by show _ < ((7 : Nat) : Int); omega⟩ | (simp only [e0]; first | exact ⟨c0, c1⟩ | exact ⟨c0, c2⟩ | exact c0 | exact c1 | exact c2 | exact c3))) (conjC (show (tensL.map (Value.int .i64) : List Value)[0 + (s : Int).toNat * 1]? = some (.int .i64 (tensL.getD (0 + (s : Int).toNat * 1) 0)) from (by intros; exact map_nat 0 (by show _ < 7; omega))) (conjC (show (tensL.getD (0 + (s : Int).toNat * 1) 0) ≠ (0 : Int) ∧ inR (Int.tdiv n (tensL.getD (0 + (s : Int).toNat * 1) 0)) from (by intros; first | omega | exact ⟨by omega, by show _ < ((7 : Nat) : Int); omega⟩ | (simp only [e0]; first | exact ⟨c0, c1⟩ | exact ⟨c0, c2⟩ | exact c0 | exact c1 | exact c2 | exact c3))) (conjC (show (tensL.getD (0 + (s : Int).toNat * 1) 0) ≠ (0 : Int) from (by intros; first | omega | exact ⟨by omega, by show _ < ((7 : Nat) : Int); omega⟩ | (simp only [e0]; first | exact ⟨c0, c1⟩ | exact ⟨c0, c2⟩ | exact c0 | exact c1 | exact c2 | exact c3))) (conjC (show (tensL.getD (0 + (s : Int).toNat * 1) 0) ≠ (0 : Int) ∧ inR (Int.tdiv 1000000 (tensL.getD (0 + (s : Int).toNat * 1) 0)) from (by intros; first | omega | exact ⟨by omega, by show _ < ((7 : Nat) : Int); omega⟩ | (simp only [e0]; first | exact ⟨c0, c1⟩ | exact ⟨c0, c2⟩ | exact c0 | exact c1 | exact c2 | exact c3))) (conj1 (show inR ((Int.tmod n (tensL.getD (0 + (s : Int).toNat * 1) 0)) * (Int.tdiv 1000000 (tensL.getD (0 + (s : Int).toNat * 1) 0))) from (by intros; first | omega | exact ⟨by omega, by show _ < ((7 : Nat) : Int); omega⟩ | (simp only [e0]; first | exact ⟨c0, c1⟩ | exact ⟨c0, c2⟩ | exact c0 | exact c1 | exact c2 | exact c3)))))))))) ?_ ?_
 ·simp only [e0, spW, spP]
 ·rfl
theorem or_ok {x y : Int} :
  SpG (gT m) 157 [.c (.d (.sl 1 (([[.i x], [.i y]] : List (List D)))))] [] (.c (.d (.i (if x = 0 then y else x)))) [] := by
 refine enterB 18 Tryz.func157 (by kernel_rfl) fun fr hG => ?_
 refine stepL hG hmix [] [0, 1, 0, 1, 1] ((fun (zz : Nat) => match zz with | 0 => ⟨[(2, [], .c (.d (.i 0))), (3, [], .c (.d (.i 0))), (6, [], .c (.d (.sl 1 (([[.i x], [.i y]] : List (List D)))))), (7, [], .c (.d (.i 2))), (8, [], .c (.d (.i 0)))], []⟩ | 1 => ⟨[(2, [], .c (.d (.i 0))), (3, [], .c (.d (.i 0))), (6, [], .c (.d (.sl 1 (([[.i x], [.i y]] : List (List D)))))), (7, [], .c (.d (.i 2))), (8, [], .c (.d (.i 1)))], []⟩ | _ => ⟨[(2, [], .c (.d (.i 0))), (3, [], .c (.d (.i 0))), (6, [], .c (.d (.sl 1 (([[.i x], [.i y]] : List (List D)))))), (7, [], .c (.d (.i 2))), (8, [], .c (.d (.i 2)))], []⟩) 0) _ (by kernel_rfl) conj0 ?_
 refine loopR (σ := Nat) (fun (zz : Nat) => match zz with | k => 3 - k) (fun (zz : Nat) => match zz with | 0 => ⟨[(2, [], .c (.d (.i 0))), (3, [], .c (.d (.i 0))), (6, [], .c (.d (.sl 1 (([[.i x], [.i y]] : List (List D)))))), (7, [], .c (.d (.i 2))), (8, [], .c (.d (.i 0)))], []⟩ | 1 => ⟨[(2, [], .c (.d (.i 0))), (3, [], .c (.d (.i 0))), (6, [], .c (.d (.sl 1 (([[.i x], [.i y]] : List (List D)))))), (7, [], .c (.d (.i 2))), (8, [], .c (.d (.i 1)))], []⟩ | _ => ⟨[(2, [], .c (.d (.i 0))), (3, [], .c (.d (.i 0))), (6, [], .c (.d (.sl 1 (([[.i x], [.i y]] : List (List D)))))), (7, [], .c (.d (.i 2))), (8, [], .c (.d (.i 2)))], []⟩) (fun (zz : Nat) => match zz with | k => k ≤ 2 ∧ (1 ≤ k → x = 0) ∧ (2 ≤ k → y = 0)) 0 (by kernel_rfl) ?_ ?_
 ·exact ⟨Nat.zero_le _, by omega, by omega⟩
 rintro k ⟨hI, hx, hy⟩
 rcases (by omega : k = 0 ∨ k = 1 ∨ k = 2) with rfl | rfl | rfl
 ·skip
  refine zc hG [] [0, 1] (true) (by kernel_rfl) conj0 (fun _ => ?_) (fun hc2 => absurd hc2 (by decide))
  refine zC hG [(4, 0, .elem ([.i x]))] [1, 1, 0, 0, 1, 1] (!decide ((x : Int) = 0)) (⟨[(2, [], .c (.d (.i 0))), (3, [], .c (.d (.i 0))), (5, [], .c (.d (.i x))), (6, [], .c (.d (.sl 1 (([[.i x], [.i y]] : List (List D)))))), (7, [], .c (.d (.i 2))), (8, [], .c (.d (.i 0)))], []⟩) (by kernel_rfl) (conj1 (show (0 : Int) ≤ 0 ∧ (([[.i x], [.i y]] : List (List D)))[0]? = some ([.i x]) from ⟨by decide, rfl⟩)) (fun hc3 => ?_) (fun hc3 => ?_)
  ·(try simp only [blS] at hc3)
   refine zE hG [] .ret (⟨[(2, [], .c (.d (.i x))), (3, [], .c (.d (.i 0)))], []⟩) (by kernel_rfl) conj0 rfl ?_
   refine zR hG [] [] (.c (.d (.i x))) [] (by kernel_rfl) conj0 ?_ ?_
   ·have e1 := hx; have e2 := hy
    by_cases h0 : x = 0 <;> by_cases h1 : y = 0 <;> simp_all
   ·rfl
  ·(try simp only [blS] at hc3)
   refine zD hG [] 1 (by kernel_rfl) (conj1 (show inR (0 + 1) from (by unfold inR; decide))) ?_ ?_
   ·(try dsimp only); decide
   ·exact ⟨by decide, by intros; omega, by intros; omega⟩
 ·skip
  refine zc hG [] [0, 1] (true) (by kernel_rfl) conj0 (fun _ => ?_) (fun hc4 => absurd hc4 (by decide))
  refine zC hG [(4, 0, .elem ([.i y]))] [1, 1, 0, 0, 1, 1] (!decide ((y : Int) = 0)) (⟨[(2, [], .c (.d (.i 0))), (3, [], .c (.d (.i 0))), (5, [], .c (.d (.i y))), (6, [], .c (.d (.sl 1 (([[.i x], [.i y]] : List (List D)))))), (7, [], .c (.d (.i 2))), (8, [], .c (.d (.i 1)))], []⟩) (by kernel_rfl) (conj1 (show (0 : Int) ≤ 1 ∧ (([[.i x], [.i y]] : List (List D)))[1]? = some ([.i y]) from ⟨by decide, rfl⟩)) (fun hc5 => ?_) (fun hc5 => ?_)
  ·(try simp only [blS] at hc5)
   refine zE hG [] .ret (⟨[(2, [], .c (.d (.i y))), (3, [], .c (.d (.i 0)))], []⟩) (by kernel_rfl) conj0 rfl ?_
   refine zR hG [] [] (.c (.d (.i y))) [] (by kernel_rfl) conj0 ?_ ?_
   ·have e1 := hx; have e2 := hy
    by_cases h0 : x = 0 <;> by_cases h1 : y = 0 <;> simp_all
   ·rfl
  ·(try simp only [blS] at hc5)
   refine zD hG [] 2 (by kernel_rfl) (conj1 (show inR (1 + 1) from (by unfold inR; decide))) ?_ ?_
   ·(try dsimp only); decide
   ·exact ⟨by decide, by intros; omega, by intros; omega⟩
 ·skip
  refine zc hG [] [0, 1] (false) (by kernel_rfl) conj0 (fun hc6 => absurd hc6 (by decide)) (fun _ => ?_)
  refine zE hG [] (.exit 0) (⟨[(2, [], .c (.d (.i 0))), (3, [], .c (.d (.i 0)))], []⟩) (by kernel_rfl) conj0 rfl ?_
  refine zR hG [] [] (.c (.d (.i 0))) [] (by kernel_rfl) conj0 ?_ ?_
  ·have e1 := hx; have e2 := hy
   by_cases h0 : x = 0 <;> by_cases h1 : y = 0 <;> simp_all
  ·rfl
theorem decCmp_ok (a b c d : Int) (h1 : decB a b = true) (h2 : decB c d = true) :
  SpG (gT m) 101 [.agg [.d (.i a), .d (.i b)], .agg [.d (.i c), .d (.i d)]] [] (.c (.d (.i (decCmp a b c d)))) [] := by
 refine enterB 27 Tryz.func101 (by kernel_rfl) fun fr hG => ?_
 exact zr hG [(1, 1, .call (.tup [(false, [.d (.i (spW a b))]), (false, [.d (.i (spP a b))])]) [] []), (2, 1, .call (.tup [(false, [.d (.i (spW c d))]), (false, [.d (.i (spP c d))])]) [] []), (3, 2, .call (.c (.d (.i (Lib.compareInt (spW a b) (spW c d))))) [] []), (3, 5, .call (.c (.d (.i (Lib.compareInt (spP a b) (spP c d))))) [] []), (3, 7, .call (.c (.d (.i (decCmp a b c d)))) [] [])] [] (by kernel_rfl) (conjC ((split_ok a b (by assumption) : SpG (gT m) _ _ _ _ _)) (conjC ((split_ok c d (by assumption) : SpG (gT m) _ _ _ _ _)) (conjC ((cmpInt_ok (spW a b) (spW c d) : SpG (gT m) _ _ _ _ _)) (conjC ((cmpInt_ok (spP a b) (spP c d) : SpG (gT m) _ _ _ _ _)) (conj1 ((or_ok (x := Lib.compareInt (spW a b) (spW c d)) (y := Lib.compareInt (spP a b) (spP c d)) : SpG (gT m) _ _ _ _ _)))))))
theorem listsS_ok (a b : List (List UInt8)) :
  SpG (gT m) 106 [.c (.d (.sl 1 (strs a))), .c (.d (.sl 1 (strs b))), .c (.d (.v (.func (.func 99) #[] #[])))] [] (.c (.d (.i (listC Lib.compareBytes a b)))) [] := by
 refine enterB 36 Tryz.func106 (by kernel_rfl) fun fr hG => ?_
 refine stepLen 0 rfl fun hl0 => ?_
 refine stepLen 1 rfl fun hl1 => ?_
 refine zL hG [] [0, 1, 0, 1] (fun (zz : Nat) => match zz with | k => (a.length - k, ⟨[(0, [], .c (.d (.sl 1 (strs a)))), (1, [], .c (.d (.sl 1 (strs b)))), (2, [], .c (.d (.v (.func (.func 99) #[] #[])))), (6, [], .c (.d (.i 0))), (13, [], .c (.d (.i (if (((strs b).length : Int) : Int) < ((strs a).length : Int) then ((strs b).length : Int) else ((strs a).length : Int))))), (14, [], .c (.d (.i (k : Int))))], []⟩, (k : Int) ≤ a.length ∧ (k : Int) ≤ b.length ∧ listC Lib.compareBytes a b = listC Lib.compareBytes (a.drop k) (b.drop k))) 0 (by kernel_rfl) conj0 (by kernel_rfl) ?_ ?_
 ·exact ⟨by omega, by omega, rfl⟩
 rintro k ⟨hk1, hk2, hl⟩
 refine zc hG [] [0, 1] (decide (((k : Int) : Int) < (if (((strs b).length : Int) : Int) < ((strs a).length : Int) then ((strs b).length : Int) else ((strs a).length : Int)))) (by kernel_rfl) conj0 (fun hc2 => ?_) (fun hc2 => ?_)
 ·(try simp only [zq4] at hc2)
  have hk3 : k < a.length ∧ k < b.length := by split at hc2 <;> omega
  refine zC hG [(4, 3, .elem (strD ((a).getD k []))), (4, 7, .elem (strD ((b).getD k []))), (4, 9, .call (.c (.d (.i (Lib.compareBytes ((a).getD k []) ((b).getD k []))))) [] [])] [1, 1, 1, 0, 0, 1, 1] (!decide ((Lib.compareBytes ((a).getD k []) ((b).getD k []) : Int) = 0)) (⟨[(0, [], .c (.d (.sl 1 (strs a)))), (1, [], .c (.d (.sl 1 (strs b)))), (2, [], .c (.d (.v (.func (.func 99) #[] #[])))), (6, [], .c (.d (.i 0))), (8, [], .c (.d (.i (Lib.compareBytes ((a).getD k []) ((b).getD k []))))), (13, [], .c (.d (.i (if (((strs b).length : Int) : Int) < ((strs a).length : Int) then ((strs b).length : Int) else ((strs a).length : Int))))), (14, [], .c (.d (.i (k : Int))))], []⟩) (by kernel_rfl) (conjC (show (0 : Int) ≤ (k : Int) ∧ (strs a)[k]? = some (strD ((a).getD k [])) from (by intros; exact map_at [] (by omega) (by (try simp only [zq5] at *); omega))) (conjC (show (0 : Int) ≤ (k : Int) ∧ (strs b)[k]? = some (strD ((b).getD k [])) from (by intros; exact map_at [] (by omega) (by (try simp only [zq5] at *); omega))) (conj1 ((cmpStr_ok ((a).getD k []) ((b).getD k []) : SpG (gT m) _ _ _ _ _))))) (fun hc3 => ?_) (fun hc3 => ?_)
  ·(try simp only [zq4] at hc3)
   refine zE hG [] .ret (⟨[(0, [], .c (.d (.sl 1 (strs a)))), (1, [], .c (.d (.sl 1 (strs b)))), (6, [], .c (.d (.i (Lib.compareBytes ((a).getD k []) ((b).getD k [])))))], []⟩) (by kernel_rfl) conj0 rfl ?_
   refine zR hG [] [] (.c (.d (.i (Lib.compareBytes ((a).getD k []) ((b).getD k []))))) [] (by kernel_rfl) conj0 ?_ ?_
   ·rw [hl, listC_step _ [] (by split at hc2 <;> omega) (by split at hc2 <;> omega), if_neg hc3]
   ·rfl
  ·(try simp only [zq4] at hc3)
   refine zD hG [] (k + 1) (by kernel_rfl) (conj1 (show inR ((k : Int) + 1) from (by intros; (try simp only [inR, maxLen, strs, List.length_map] at *); omega))) ?_ ?_
   ·(try dsimp only); omega
   ·refine ⟨by omega, by omega, ?_⟩
    rw [hl, listC_step _ [] (by omega) (by omega), if_pos (by omega)]
 ·(try simp only [zq4] at hc2)
  refine zE hG [] (.exit 0) (⟨[(0, [], .c (.d (.sl 1 (strs a)))), (1, [], .c (.d (.sl 1 (strs b)))), (6, [], .c (.d (.i 0)))], []⟩) (by kernel_rfl) conj0 rfl ?_
  refine zR hG [(8, 4, .call (.c (.d (.i (Lib.compareInt ((strs a).length : Int) ((strs b).length : Int))))) [] [])] [] (.c (.d (.i (Lib.compareInt ((strs a).length : Int) ((strs b).length : Int))))) [] (by kernel_rfl) (conj1 ((cmpInt_ok ((strs a).length : Int) ((strs b).length : Int) : SpG (gT m) _ _ _ _ _))) ?_ ?_
  ·rw [hl, listC_last _ (by split at hc2 <;> omega) (by omega) (by omega)]; simp [strs]
  ·rfl
theorem ordN_ok (a b : Vl) :
  SpG (gT m) 96 [.agg [.d (.i a.kind), .d (.s (S a.s)), .d (.i a.dn), .d (.i a.ds), .d (.i a.n), .d (.sl 1 (strs a.cols)), .d (.sl 1 (rowsD a.rows))], .agg [.d (.i b.kind), .d (.s (S b.s)), .d (.i b.dn), .d (.i b.ds), .d (.i b.n), .d (.sl 1 (strs b.cols)), .d (.sl 1 (rowsD b.rows))]] [] (.c (.d (.i (Lib.compareInt a.n b.n)))) [] := by
 refine enterB 10 Tryz.func96 (by kernel_rfl) fun fr hG => ?_
 exact zr hG [(1, 4, .call (.c (.d (.i (Lib.compareInt a.n b.n)))) [] [])] [] (by kernel_rfl) (conj1 ((cmpInt_ok a.n b.n : SpG (gT m) _ _ _ _ _)))
theorem ordS_ok (a b : Vl) :
  SpG (gT m) 98 [.agg [.d (.i a.kind), .d (.s (S a.s)), .d (.i a.dn), .d (.i a.ds), .d (.i a.n), .d (.sl 1 (strs a.cols)), .d (.sl 1 (rowsD a.rows))], .agg [.d (.i b.kind), .d (.s (S b.s)), .d (.i b.dn), .d (.i b.ds), .d (.i b.n), .d (.sl 1 (strs b.cols)), .d (.sl 1 (rowsD b.rows))]] [] (.c (.d (.i (Lib.compareBytes a.s b.s)))) [] := by
 refine enterB 10 Tryz.func98 (by kernel_rfl) fun fr hG => ?_
 exact zr hG [(1, 4, .call (.c (.d (.i (Lib.compareBytes (a.s) (b.s))))) [] [])] [] (by kernel_rfl) (conj1 ((cmpStr_ok (a.s) (b.s) : SpG (gT m) _ _ _ _ _)))
theorem ordD_ok (a b : Vl) (h1 : decB a.dn a.ds = true) (h2 : decB b.dn b.ds = true) :
  SpG (gT m) 100 [.agg [.d (.i a.kind), .d (.s (S a.s)), .d (.i a.dn), .d (.i a.ds), .d (.i a.n), .d (.sl 1 (strs a.cols)), .d (.sl 1 (rowsD a.rows))], .agg [.d (.i b.kind), .d (.s (S b.s)), .d (.i b.dn), .d (.i b.ds), .d (.i b.n), .d (.sl 1 (strs b.cols)), .d (.sl 1 (rowsD b.rows))]] [] (.c (.d (.i (decCmp a.dn a.ds b.dn b.ds)))) [] := by
 refine enterB 10 Tryz.func100 (by kernel_rfl) fun fr hG => ?_
 exact zr hG [(1, 4, .call (.c (.d (.i (decCmp a.dn a.ds b.dn b.ds)))) [] [])] [] (by kernel_rfl) (conj1 ((decCmp_ok a.dn a.ds b.dn b.ds h1 h2 : SpG (gT m) _ _ _ _ _)))
theorem orders_ok_  :
  SpG (gT m) 65 [] [] (.c (.mp 100)) [(100, .box ⟨.map true, none⟩ [.d (.i 0), .d (.v (.func (.func 96) #[] #[])), .d (.i 1), .d (.v (.func (.func 98) #[] #[])), .d (.i 2), .d (.v (.func (.func 100) #[] #[])), .d (.i 3), .d (.v (.func (.func 96) #[] #[])), .d (.i 4), .d (.v (.func (.func 96) #[] #[])), .d (.i 5), .fn 105 [] [(101, 0)]]), (101, .box 141 [.fn 103 [] [(102, 0)]]), (102, .box 101 [.fn 102 [] [(103, 0)]]), (103, .box 104 [.mp 100])] := by
 refine enterB 19 Tryz.func65 (by kernel_rfl) fun fr hG => ?_
 exact zr hG [] [300, 501, 401, 312] (by kernel_rfl) conj0
theorem orders_ok  :
  SpG (gT m) 65 [] [] (.c (.mp 100)) [(100, .box ⟨.map true, none⟩ [.d (.i 0), .d (.v (.func (.func 96) #[] #[])), .d (.i 1), .d (.v (.func (.func 98) #[] #[])), .d (.i 2), .d (.v (.func (.func 100) #[] #[])), .d (.i 3), .d (.v (.func (.func 96) #[] #[])), .d (.i 4), .d (.v (.func (.func 96) #[] #[])), .d (.i 5), .fn 105 [] [(101, 0)]]), (101, .box 141 [.fn 103 [] [(102, 0)]]), (102, .box 101 [.fn 102 [] [(103, 0)]]), (103, .box 104 [.mp 100])] := by
 refine spec_look (orders_ok_ ) ?_
 first | rfl | (funext i; simp only [lookO_cons, upd]; ((repeat' split) <;> first | rfl | (exfalso; omega)))
end Go.Proofs.YtmpgfchkkemngaaGreatDoor
