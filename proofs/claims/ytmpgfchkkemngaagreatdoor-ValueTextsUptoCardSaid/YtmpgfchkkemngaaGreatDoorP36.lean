/- Part 36 of the proof: texts D11, D12, L1, L3, R1, R2, R3, R4, R5, R6. -/
import Derived.Test.YtmpgfchkkemngaaGreatDoorP35
import Derived.Shelf.Strings.IndexAny
import Derived.Laws.RangeAny
import Derived.WalkMore
import Derived.Shelf.RegionOpenPlain
set_option linter.all false
namespace Go.Proofs.YtmpgfchkkemngaaGreatDoor
open Go.RowKit Go.V
open Go.Eng (inR byteAt u8 bH)
open Go.Sort (grow)
variable {g : Gv}
theorem below_grow (w : World) (q : Nat) (os : Array Obj) : Below w.heap.size w (grow (w.drewN q) os) :=
 ⟨rfl, rfl, rfl, by simp [grow, World.drewN], fun i hi => by
  show ((w.drewN q).heap ++ os)[i]? = _
  rw [Array.getElem?_append_left (by show i < w.heap.size; omega)]
  rfl⟩
theorem aJX {w : World} (hG : ∀ b cs, (b, cs) ∈ Gl g → ∃ ty fz, w.heap[b]? = some (.cells cs.toArray ty fz)) : Lib.TabIs Tryz.prog w "internal/strconv.uint64pow10" .u64 Lib.pow10Tab := by
 obtain ⟨ty, fz, h⟩ := hG 2 (powL.map (Value.int .u64)) (by simp [Gl])
 have hn : Tryz.prog.globalNamed "internal/strconv.uint64pow10" = some 2 := by kernel_rfl
 unfold Lib.TabIs World.var?
 rw [hn]
 simp only [Option.bind_some, h]
 rfl
theorem tS (u : Nat) : Lib.decDigits u = bD u := by
 induction u using Nat.strongRecOn with
 | ind u ih =>
  rw [Lib.decDigits]
  by_cases h : u < 10
  rw [dif_pos h, bD]
  by_cases h0 : u = 0
  subst h0; rfl
  rw [if_neg h0, f7 h0, show u / 10 = 0 by omega, fF, show u % 10 = u by omega, ← sT]; rfl
  rw [dif_neg h, ih (u / 10) (by omega), bD, bD, if_neg (by omega), if_neg (by omega), f7 (n := u) (by omega), ← sT]; rfl
theorem pK : ∀ (f : Nat) (x k : Int) (acc : List UInt8), 0 ≤ x → x < 10 ^ f → k ≤ f → dB f x k acc = List.replicate (k.toNat - (jZ x.toNat).length) 48 ++ jZ x.toNat ++ acc
 | 0, x, k, acc, h0, h1, h2 => by
  have : x = 0 := by simp at h1; omega
  subst this
  rw [show k.toNat = 0 by omega]
  simp [dB, fF]
 | f + 1, x, k, acc, h0, h1, h2 => by
  by_cases h : x > 0 ∨ k > 0
  have hp : (10 : Int) ^ (f + 1) = 10 * 10 ^ f := by rw [Int.pow_succ, Int.mul_comm]
  have hx : x / 10 < 10 ^ f := Int.ediv_lt_of_lt_mul (by decide) (by rw [Int.mul_comm, ← hp]; exact h1)
  rw [dB, if_pos h, pK f (x / 10) (k - 1) _ (by omega) hx (by omega)]
  have hd : (x / 10).toNat = x.toNat / 10 := by omega
  rw [hd]
  by_cases hz : x = 0
  subst hz
  have : k.toNat = (k - 1).toNat + 1 := by omega
  simp only [Int.toNat_zero, Nat.zero_div, fF, List.length_nil, Nat.sub_zero, List.append_nil]
  rw [this, List.replicate_succ']
  simp; rfl
  rw [f7 (n := x.toNat) (by omega)]
  have e : (48 + x % 10 : Int) = 48 + ((x.toNat % 10 : Nat) : Int) := by omega
  have e2 : k.toNat - (jZ (x.toNat / 10) ++ [u8 (48 + ((x.toNat % 10 : Nat) : Int))]).length = (k - 1).toNat - (jZ (x.toNat / 10)).length := by
   simp only [dG]; omega
  rw [e, e2]
  simp
  have hx : x = 0 := by omega
  subst hx
  rw [dB, if_neg h, show k.toNat = 0 by omega]
  simp [fF]
theorem itoa_ok (n : Int) (h0 : 0 ≤ n) (h1 : n ≤ 9223372036854775807) : SpG g 44 [.c (cI n)] [] (.c (cS (S (bD n.toNat)))) [] := by
 refine gO (args := [.int .i64 n]) rfl rfl rfl fun w hG => ?_
 have h := Tryz.strconv_Itoa n (by omega) h1 w (aJX hG)
 refine h.mono ?_
 rintro e w' ⟨rfl, k, os, rfl⟩
 refine ⟨?_, below_grow _ _ _⟩
 obtain ⟨u, rfl⟩ : ∃ u : Nat, n = u := ⟨n.toNat, by omega⟩
 rw [Lib.itoa_nonneg, tS, Int.toNat_natCast]; rfl
theorem aHU (c : Int) (h0 : 0 ≤ c) (h1 : c ≤ 1000000) : SpG g 197 [.c (cS (S [48])), .c (cI c)] [] (.c (cS (S (List.replicate c.toNat 48)))) [] := by
 refine gO (args := [.string (S [48]), .int .i64 c]) rfl rfl rfl fun w _ => ?_
 obtain ⟨u, rfl⟩ : ∃ u : Nat, c = u := ⟨c.toNat, by omega⟩
 have h := Tryz.strings_Repeat (S [48]) u w (by omega) (by rw [aD]; simp; omega)
 have e : Lib.repeatL (S [48]).data.toList u = List.replicate u 48 := by
  have := Lib.repeatL_replicate 48 1 u
  rw [Nat.mul_one] at this
  rw [bI]; exact this
 rw [e] at h
 exact h
def dN (n size : Int) : List UInt8 := List.replicate (size.toNat - (bD n.toNat).length) 48 ++ bD n.toNat
theorem qE {n k : Int} (h0 : 1 ≤ n) (h1 : n ≤ 99999) (hk : k ≤ 5) : dN n k = dB 5 n k [] := by
 rw [pK 5 n k [] (by omega) (by omega) (by omega), dN, bD, if_neg (by omega)]; simp
theorem cK {n k : Int} (h1 : n ≤ 99999) (hk : k ≤ 5) : (dN n k).length ≤ 10 := by
 have := gW (n := n.toNat) (k := 5) (by omega) (by decide)
 simp only [dN, List.length_append, List.length_replicate]; omega
def dT (y m d : Int) : Nat → List UInt8
 | 0 => []
 | 1 => dN y 4
 | 2 => dN y 4 ++ [45]
 | 3 => dN y 4 ++ [45] ++ dN m 2
 | 4 => dN y 4 ++ [45] ++ dN m 2 ++ [45]
 | _ => dN y 4 ++ [45] ++ dN m 2 ++ [45] ++ dN d 2
theorem dT_date {n : Int} (h0 : 0 ≤ n) (h1 : n ≤ 3652058) : dT (civ n).1 (civ n).2.1 (civ n).2.2 5 = aS n := by
 obtain ⟨a1, a2, a3, a4, a5, a6⟩ := oM h0 h1
 show dN _ 4 ++ [45] ++ dN _ 2 ++ [45] ++ dN _ 2 = _
 rw [qE a1 (by omega) (by decide), qE a3 (by omega) (by decide), qE a5 (by omega) (by decide), aS]
def dE (y m d : Int) : Nat → List (List D)
 | 0 => []
 | 1 => bytesD (S (dN y 4)).data.toList
 | 2 => bytesD (S (dN y 4)).data.toList ++ bytesD (S [45]).data.toList
 | 3 => bytesD (S (dN y 4)).data.toList ++ bytesD (S [45]).data.toList ++ bytesD (S (dN m 2)).data.toList
 | 4 => bytesD (S (dN y 4)).data.toList ++ bytesD (S [45]).data.toList ++ bytesD (S (dN m 2)).data.toList ++ bytesD (S [45]).data.toList
 | _ => bytesD (S (dN y 4)).data.toList ++ bytesD (S [45]).data.toList ++ bytesD (S (dN m 2)).data.toList ++ bytesD (S [45]).data.toList ++ bytesD (S (dN d 2)).data.toList
structure YMD (y m d : Int) : Prop where
 y0 : 0 ≤ y
 y1 : y ≤ 9999
 m0 : 0 ≤ m
 m1 : m ≤ 12
 d0 : 0 ≤ d
 d1 : d ≤ 31
theorem uQ {y m d : Int} (h : YMD y m d) (k : Nat) : (dE y m d k).length ≤ 100 := by
 obtain ⟨h1, h2, h3, h4, h5, h6⟩ := h
 have a1 := cK (n := y) (k := 4) (by omega) (by decide)
 have a2 := cK (n := m) (k := 2) (by omega) (by decide)
 have a3 := cK (n := d) (k := 2) (by omega) (by decide)
 unfold dE
 split <;> simp only [dG, aN, bI] <;> omega
theorem dE_text (y m d : Int) : dE y m d 5 = bytesD (S (dT y m d 5)).data.toList := by
 show bytesD (S (dN y 4)).data.toList ++ bytesD (S [45]).data.toList ++ bytesD (S (dN m 2)).data.toList ++ bytesD (S [45]).data.toList ++ bytesD (S (dN d 2)).data.toList = bytesD (S (dN y 4 ++ [45] ++ dN m 2 ++ [45] ++ dN d 2)).data.toList
 simp only [bI, ← jA]
theorem aIE (n : Int) (h : n ≤ 99999) : (bD n.toNat).length ≤ 5 := gW (by omega) (by decide)
theorem padded_ (n k : Int) (h0 : 0 ≤ n) (h1 : n ≤ 99999) (hk0 : 0 ≤ k) (hk : k ≤ 5) :
  SpG g 171 [.c (cI n), .c (cI k)] [] (.c (cS (S (dN n k)))) [] := by
 have hl := aIE n h1
 refine aF 16 Tryz.func171 (by kernel_rfl) fun fr hG => ?_
 refine zR hG [(1, 1, kS (S (bD (n : Int).toNat))), (2, 5, kS (S (List.replicate ((if (0 : Int) > (k - ((S (bD (n : Int).toNat)).size : Int)) then 0 else (k - ((S (bD (n : Int).toNat)).size : Int))) : Int).toNat 48)))] [] (.c (cS ((S (List.replicate ((if (0 : Int) > (k - ((S (bD (n : Int).toNat)).size : Int)) then 0 else (k - ((S (bD (n : Int).toNat)).size : Int))) : Int).toNat 48)) ++ (S (bD (n : Int).toNat))))) [] (aB (itoa_ok (n) (by omega) (by omega) : SpG g _ _ _ _ _) (aB (by intros; (try simp only [inR, aD, aZ, maxLen, List.length_append, List.length_replicate] at *); omega : inR (k - ((S (bD (n : Int).toNat)).size : Int))) (aB (aHU (if (0 : Int) > (k - ((S (bD (n : Int).toNat)).size : Int)) then 0 else (k - ((S (bD (n : Int).toNat)).size : Int))) (by (try simp only [aD] at *); omega) (by (try simp only [aD] at *); omega) : SpG g _ _ _ _ _) (aC (by intros; (try simp only [inR, aD, aZ, maxLen, List.length_append, List.length_replicate] at *); omega : (S (List.replicate ((if (0 : Int) > (k - ((S (bD (n : Int).toNat)).size : Int)) then 0 else (k - ((S (bD (n : Int).toNat)).size : Int))) : Int).toNat 48)).size + (S (bD (n : Int).toNat)).size ≤ maxLen))))) ?_ ?_
 have e : ((if ((0 : Int) : Int) > (k - ((S (bD (n : Int).toNat)).size : Int)) then 0 else (k - ((S (bD (n : Int).toNat)).size : Int))) : Int).toNat = k.toNat - (bD n.toNat).length := by rw [aD]; split <;> omega
 rw [aZ, e]; rfl
 rfl
theorem qD (n k : Int) (h0 : 0 ≤ n) (h1 : n ≤ 99999) (hk0 : 0 ≤ k) (hk : k ≤ 5) : SpG g 171 [.c (cI n), .c (cI k)] [] (.c (cS (S (dN n k)))) [] := padded_ n k h0 h1 hk0 hk
theorem aAB (bo : Nat) (y m d : Int) :
  SpG g 83 [.c (.bx 0 3)] [(0, .box ⟨.c 153, some bo⟩ [cI y, cI m, cI d, .d (.v (.pointer none)), cN])] (.tup []) [(0, .box ⟨.c 153, some bo⟩ [cI y, cI m, cI d, .bx 0 3, cN])] := by
 refine aF 20 Tryz.func83 (by kernel_rfl) fun fr hG => ?_
 refine zc hG [] [1] (true) aA (fun _ => ?_) (fun hc1 => absurd hc1 (by decide))
 exact zr hG [] [] (aC (show aDS Tryz.prog 126 from wL))
theorem aAC (bo : Nat) (y m d : Int) (es : List (List D)) :
  SpG g 83 [.c (.bx 0 3)] [(0, .box ⟨.c 153, some bo⟩ [cI y, cI m, cI d, .bx 0 3, .ar 1 0]), (1, .arr 0 5 1 (es))] (.tup []) [(0, .box ⟨.c 153, some bo⟩ [cI y, cI m, cI d, .bx 0 3, .ar 1 0]), (1, .arr 0 5 1 (es))] := by
 refine aF 20 Tryz.func83 (by kernel_rfl) fun fr hG => ?_
 refine zc hG [] [1] (false) aA (fun hc1 => absurd hc1 (by decide)) (fun _ => ?_)
 refine zC hG [] [1, 1, 1] (false) (⟨[], [(0, .box ⟨.c 153, some bo⟩ [cI y, cI m, cI d, .bx 0 3, .ar 1 0]), (1, .arr 0 5 1 (es))]⟩) aA (fun hc2 => absurd hc2 (by decide)) (fun _ => ?_)
 exact zr hG [] [] aA
theorem sK (bo : Nat) (y m d : Int) (s : ByteArray) (h : s.size ≤ 1000000000000) :
  SpG g 48 [.c (.bx 0 3), .c (cS s)] [(0, .box ⟨.c 153, some bo⟩ [cI y, cI m, cI d, .d (.v (.pointer none)), cN])] (y20 (s.size : Int)) [(0, .box ⟨.c 153, some bo⟩ [cI y, cI m, cI d, .bx 0 3, .ar 100 0]), (100, y21 (bytesD s.data.toList))] := by
 refine aF 19 Tryz.func48 (by kernel_rfl) fun fr hG => ?_
 exact zr hG [(1, 1, .callG (.tup []) [0] [(0, .box ⟨.c 153, some bo⟩ [cI y, cI m, cI d, .bx 0 3, cN])])] [306] (aB (aAB bo y m d : SpG g _ _ _ _ _) (aC (by intros; first | assumption | omega : (s).size ≤ 1000000000000)))
theorem fY (bo : Nat) (y m d : Int) (es : List (List D)) (s : ByteArray) (h : es.length + s.size ≤ 1000000000000) :
  SpG g 48 [.c (.bx 0 3), .c (cS s)] [(0, .box ⟨.c 153, some bo⟩ [cI y, cI m, cI d, .bx 0 3, .ar 1 0]), (1, .arr 0 5 1 (es))] (y20 (s.size : Int)) [(0, .box ⟨.c 153, some bo⟩ [cI y, cI m, cI d, .bx 0 3, .ar 1 0]), (1, y21 (es ++ bytesD s.data.toList))] := by
 refine aF 19 Tryz.func48 (by kernel_rfl) fun fr hG => ?_
 exact zr hG [(1, 1, .callG (.tup []) [0, 1] [(0, .box ⟨.c 153, some bo⟩ [cI y, cI m, cI d, .bx 0 3, .ar 1 0]), (1, .arr 0 5 1 (es))])] [] (aB (aAC bo y m d (es) : SpG g _ _ _ _ _) (aC (by intros; first | assumption | omega : (es).length + (s).size ≤ 1000000000000)))
theorem r6 (bo : Nat) (y m d : Int) (es : List (List D)) (r : ByteArray) (h : es = bytesD r.data.toList) :
  SpG g 51 [.c (.bx 0 3)] [(0, .box ⟨.c 153, some bo⟩ [cI y, cI m, cI d, .bx 0 3, .ar 1 0]), (1, .arr 0 5 1 (es))] (.c (cS r)) [(1, .arr 0 5 1 []), (0, .box ⟨.c 153, some bo⟩ [cI y, cI m, cI d, .bx 0 3, .any])] := by
 refine aF 14 Tryz.func51 (by kernel_rfl) fun fr hG => ?_
 exact zr hG [(1, 10, kS (r))] [] (aB (show es = bytesD (r).data.toList from h) (aC (by intros; first | assumption | (rw [h, aN]; rfl) : (((es).length : Int) : Int) = ((r).size : Int))))
theorem u5 (bo : Nat) (y m d : Int) (es : List (List D)) (r : ByteArray) (h : es = bytesD r.data.toList) :
  SpG g 51 [.c (.bx 0 3)] [(0, .box ⟨.c 153, some bo⟩ [cI y, cI m, cI d, .bx 0 3, .ar 1 0]), (1, .arr 0 5 1 es)] (.c (cS r)) [(0, .box ⟨.c 153, some bo⟩ [cI y, cI m, cI d, .bx 0 3, .any]), (1, .arr 0 5 1 [])] :=
 fW (r6 bo y m d es r h) (by funext i; match i with | 0 => rfl | 1 => rfl | i + 2 => rfl)
theorem put0_ (bo : Nat) (y m d : Int) (hy : YMD y m d) :
  SpG g 124 [.c (.bx 0 0), y22] [(0, .box ⟨.c 153, some bo⟩ [cI y, cI m, cI d, .d (.v (.pointer none)), cN])] (.tup []) [(100, .arr 0 5 1 (dE y m d 1)), (0, .box ⟨.c 153, some bo⟩ [cI y, cI m, cI d, .bx 0 3, .ar 100 0])] := by
 have hdl := uQ hy 0
 have p1 := cK (n := y) (k := 4) (by have := hy.y1; omega) (by decide)
 have p2 := cK (n := m) (k := 2) (by have := hy.m1; omega) (by decide)
 have p3 := cK (n := d) (k := 2) (by have := hy.d1; omega) (by decide)
 obtain ⟨y0, y1, m0, m1, d0, d1⟩ := hy
 refine aF 57 Tryz.func124 (by kernel_rfl) fun fr hG => ?_
 refine zC hG [] [1, 0, 1] (false) (⟨[zX 0 0 0, zX 3 100 0], [(0, .box ⟨.c 153, some bo⟩ [cI y, cI m, cI d, .d (.v (.pointer none)), cN]), (100, y25)]⟩) aA (fun hc1 => absurd hc1 (by decide)) (fun _ => ?_)
 refine zc hG [] [1, 1, 1, 0, 1] (true) (aC (by decide : (0 : Int) ≤ 0 ∧ 0 < ((S [89, 89, 89, 89]).size : Int))) (fun _ => ?_) (fun hc2 => absurd hc2 (by decide))
 exact zr hG [(5, 7, kS (S (dN y 4))), (5, 8, .callG (y20 ((S (dN y 4)).size : Int)) [0] [(0, .box ⟨.c 153, some bo⟩ [cI y, cI m, cI d, .bx 0 3, .ar 100 0]), (100, y21 (bytesD (S (dN y 4)).data.toList))])] [608] (aB (qD y 4 (by omega) (by omega) (by decide) (by decide) : SpG g _ _ _ _ _) (aC (sK bo y m d (S (dN y 4)) (by simp only [zq2] at *; omega) : SpG g _ _ _ _ _)))
theorem put0 (bo : Nat) (y m d : Int) (hy : YMD y m d) :
  SpG g 124 [.c (.bx 0 0), y22] [(0, .box ⟨.c 153, some bo⟩ [cI y, cI m, cI d, .d (.v (.pointer none)), cN])] (.tup []) [(0, .box ⟨.c 153, some bo⟩ [cI y, cI m, cI d, .bx 0 3, .ar 100 0]), (100, .arr 0 5 1 (dE y m d 1))] := by
 refine fW (put0_ bo y m d hy) ?_
 first | rfl | (funext i; simp only [bG, upd]; ((repeat' split) <;> first | rfl | (exfalso; omega)))
theorem put1_ (bo : Nat) (y m d : Int) (hy : YMD y m d) :
  SpG g 124 [.c (.bx 0 0), y26] [(0, .box ⟨.c 153, some bo⟩ [cI y, cI m, cI d, .bx 0 3, .ar 1 0]), (1, .arr 0 5 1 (dE y m d 1))] (.tup []) [(1, .arr 0 5 1 (dE y m d 2)), (0, .box ⟨.c 153, some bo⟩ [cI y, cI m, cI d, .bx 0 3, .ar 1 0])] := by
 have hdl := uQ hy 1
 have p1 := cK (n := y) (k := 4) (by have := hy.y1; omega) (by decide)
 have p2 := cK (n := m) (k := 2) (by have := hy.m1; omega) (by decide)
 have p3 := cK (n := d) (k := 2) (by have := hy.d1; omega) (by decide)
 obtain ⟨y0, y1, m0, m1, d0, d1⟩ := hy
 refine aF 57 Tryz.func124 (by kernel_rfl) fun fr hG => ?_
 refine zC hG [] [1, 0, 1] (true) (⟨[zX 0 0 0, zX 3 100 0], [(0, .box ⟨.c 153, some bo⟩ [cI y, cI m, cI d, .bx 0 3, .ar 1 0]), (1, .arr 0 5 1 (dE y m d 1)), (100, y31)]⟩) aA (fun _ => ?_) (fun hc1 => absurd hc1 (by decide))
 exact zr hG [(3, 5, .callG (y20 ((S [45]).size : Int)) [0, 1] [(0, .box ⟨.c 153, some bo⟩ [cI y, cI m, cI d, .bx 0 3, .ar 1 0]), (1, y21 ((dE y m d 1) ++ bytesD (S [45]).data.toList))])] [] (aC (fY bo y m d (dE y m d 1) (S [45]) (by simp only [zq2] at *; omega) : SpG g _ _ _ _ _))
theorem put1 (bo : Nat) (y m d : Int) (hy : YMD y m d) :
  SpG g 124 [.c (.bx 0 0), y26] [(0, .box ⟨.c 153, some bo⟩ [cI y, cI m, cI d, .bx 0 3, .ar 1 0]), (1, .arr 0 5 1 (dE y m d 1))] (.tup []) [(0, .box ⟨.c 153, some bo⟩ [cI y, cI m, cI d, .bx 0 3, .ar 1 0]), (1, .arr 0 5 1 (dE y m d 2))] := by
 refine fW (put1_ bo y m d hy) ?_
 first | rfl | (funext i; simp only [bG, upd]; ((repeat' split) <;> first | rfl | (exfalso; omega)))
theorem put2_ (bo : Nat) (y m d : Int) (hy : YMD y m d) :
  SpG g 124 [.c (.bx 0 0), y27] [(0, .box ⟨.c 153, some bo⟩ [cI y, cI m, cI d, .bx 0 3, .ar 1 0]), (1, .arr 0 5 1 (dE y m d 2))] (.tup []) [(1, .arr 0 5 1 (dE y m d 3)), (0, .box ⟨.c 153, some bo⟩ [cI y, cI m, cI d, .bx 0 3, .ar 1 0])] := by
 have hdl := uQ hy 2
 have p1 := cK (n := y) (k := 4) (by have := hy.y1; omega) (by decide)
 have p2 := cK (n := m) (k := 2) (by have := hy.m1; omega) (by decide)
 have p3 := cK (n := d) (k := 2) (by have := hy.d1; omega) (by decide)
 obtain ⟨y0, y1, m0, m1, d0, d1⟩ := hy
 refine aF 57 Tryz.func124 (by kernel_rfl) fun fr hG => ?_
 refine zC hG [] [1, 0, 1] (false) (⟨[zX 0 0 0, zX 3 100 0], [(0, .box ⟨.c 153, some bo⟩ [cI y, cI m, cI d, .bx 0 3, .ar 1 0]), (1, .arr 0 5 1 (dE y m d 2)), (100, y28)]⟩) aA (fun hc1 => absurd hc1 (by decide)) (fun _ => ?_)
 refine zc hG [] [1, 1, 1, 0, 1] (false) (aC (by decide : (0 : Int) ≤ 0 ∧ 0 < ((S [77, 77]).size : Int))) (fun hc2 => absurd hc2 (by decide)) (fun _ => ?_)
 refine zc hG [] [1, 1, 1, 1, 1, 0, 1] (true) (aC (by decide : (0 : Int) ≤ 0 ∧ 0 < ((S [77, 77]).size : Int))) (fun _ => ?_) (fun hc3 => absurd hc3 (by decide))
 exact zr hG [(7, 10, kS (S (dN m 2))), (7, 11, .callG (y20 ((S (dN m 2)).size : Int)) [0, 1] [(0, .box ⟨.c 153, some bo⟩ [cI y, cI m, cI d, .bx 0 3, .ar 1 0]), (1, y21 ((dE y m d 2) ++ bytesD (S (dN m 2)).data.toList))])] [] (aB (qD m 2 (by omega) (by omega) (by decide) (by decide) : SpG g _ _ _ _ _) (aC (fY bo y m d (dE y m d 2) (S (dN m 2)) (by simp only [zq2] at *; omega) : SpG g _ _ _ _ _)))
theorem put2 (bo : Nat) (y m d : Int) (hy : YMD y m d) :
  SpG g 124 [.c (.bx 0 0), y27] [(0, .box ⟨.c 153, some bo⟩ [cI y, cI m, cI d, .bx 0 3, .ar 1 0]), (1, .arr 0 5 1 (dE y m d 2))] (.tup []) [(0, .box ⟨.c 153, some bo⟩ [cI y, cI m, cI d, .bx 0 3, .ar 1 0]), (1, .arr 0 5 1 (dE y m d 3))] := by
 refine fW (put2_ bo y m d hy) ?_
 first | rfl | (funext i; simp only [bG, upd]; ((repeat' split) <;> first | rfl | (exfalso; omega)))
theorem put3_ (bo : Nat) (y m d : Int) (hy : YMD y m d) :
  SpG g 124 [.c (.bx 0 0), y26] [(0, .box ⟨.c 153, some bo⟩ [cI y, cI m, cI d, .bx 0 3, .ar 1 0]), (1, .arr 0 5 1 (dE y m d 3))] (.tup []) [(1, .arr 0 5 1 (dE y m d 4)), (0, .box ⟨.c 153, some bo⟩ [cI y, cI m, cI d, .bx 0 3, .ar 1 0])] := by
 have hdl := uQ hy 3
 have p1 := cK (n := y) (k := 4) (by have := hy.y1; omega) (by decide)
 have p2 := cK (n := m) (k := 2) (by have := hy.m1; omega) (by decide)
 have p3 := cK (n := d) (k := 2) (by have := hy.d1; omega) (by decide)
 obtain ⟨y0, y1, m0, m1, d0, d1⟩ := hy
 refine aF 57 Tryz.func124 (by kernel_rfl) fun fr hG => ?_
 refine zC hG [] [1, 0, 1] (true) (⟨[zX 0 0 0, zX 3 100 0], [(0, .box ⟨.c 153, some bo⟩ [cI y, cI m, cI d, .bx 0 3, .ar 1 0]), (1, .arr 0 5 1 (dE y m d 3)), (100, y31)]⟩) aA (fun _ => ?_) (fun hc1 => absurd hc1 (by decide))
 exact zr hG [(3, 5, .callG (y20 ((S [45]).size : Int)) [0, 1] [(0, .box ⟨.c 153, some bo⟩ [cI y, cI m, cI d, .bx 0 3, .ar 1 0]), (1, y21 ((dE y m d 3) ++ bytesD (S [45]).data.toList))])] [] (aC (fY bo y m d (dE y m d 3) (S [45]) (by simp only [zq2] at *; omega) : SpG g _ _ _ _ _))
theorem put3 (bo : Nat) (y m d : Int) (hy : YMD y m d) :
  SpG g 124 [.c (.bx 0 0), y26] [(0, .box ⟨.c 153, some bo⟩ [cI y, cI m, cI d, .bx 0 3, .ar 1 0]), (1, .arr 0 5 1 (dE y m d 3))] (.tup []) [(0, .box ⟨.c 153, some bo⟩ [cI y, cI m, cI d, .bx 0 3, .ar 1 0]), (1, .arr 0 5 1 (dE y m d 4))] := by
 refine fW (put3_ bo y m d hy) ?_
 first | rfl | (funext i; simp only [bG, upd]; ((repeat' split) <;> first | rfl | (exfalso; omega)))
theorem put4_ (bo : Nat) (y m d : Int) (hy : YMD y m d) :
  SpG g 124 [.c (.bx 0 0), y29] [(0, .box ⟨.c 153, some bo⟩ [cI y, cI m, cI d, .bx 0 3, .ar 1 0]), (1, .arr 0 5 1 (dE y m d 4))] (.tup []) [(1, .arr 0 5 1 (dE y m d 5)), (0, .box ⟨.c 153, some bo⟩ [cI y, cI m, cI d, .bx 0 3, .ar 1 0])] := by
 have hdl := uQ hy 4
 have p1 := cK (n := y) (k := 4) (by have := hy.y1; omega) (by decide)
 have p2 := cK (n := m) (k := 2) (by have := hy.m1; omega) (by decide)
 have p3 := cK (n := d) (k := 2) (by have := hy.d1; omega) (by decide)
 obtain ⟨y0, y1, m0, m1, d0, d1⟩ := hy
 refine aF 57 Tryz.func124 (by kernel_rfl) fun fr hG => ?_
 refine zC hG [] [1, 0, 1] (false) (⟨[zX 0 0 0, zX 3 100 0], [(0, .box ⟨.c 153, some bo⟩ [cI y, cI m, cI d, .bx 0 3, .ar 1 0]), (1, .arr 0 5 1 (dE y m d 4)), (100, y30)]⟩) aA (fun hc1 => absurd hc1 (by decide)) (fun _ => ?_)
 refine zc hG [] [1, 1, 1, 0, 1] (false) (aC (by decide : (0 : Int) ≤ 0 ∧ 0 < ((S [68, 68]).size : Int))) (fun hc2 => absurd hc2 (by decide)) (fun _ => ?_)
 refine zc hG [] [1, 1, 1, 1, 1, 0, 1] (false) (aC (by decide : (0 : Int) ≤ 0 ∧ 0 < ((S [68, 68]).size : Int))) (fun hc3 => absurd hc3 (by decide)) (fun _ => ?_)
 exact zr hG [(1, 10, kS (S (dN d 2))), (1, 11, .callG (y20 ((S (dN d 2)).size : Int)) [0, 1] [(0, .box ⟨.c 153, some bo⟩ [cI y, cI m, cI d, .bx 0 3, .ar 1 0]), (1, y21 ((dE y m d 4) ++ bytesD (S (dN d 2)).data.toList))])] [] (aB (qD d 2 (by omega) (by omega) (by decide) (by decide) : SpG g _ _ _ _ _) (aC (fY bo y m d (dE y m d 4) (S (dN d 2)) (by simp only [zq2] at *; omega) : SpG g _ _ _ _ _)))
theorem put4 (bo : Nat) (y m d : Int) (hy : YMD y m d) :
  SpG g 124 [.c (.bx 0 0), y29] [(0, .box ⟨.c 153, some bo⟩ [cI y, cI m, cI d, .bx 0 3, .ar 1 0]), (1, .arr 0 5 1 (dE y m d 4))] (.tup []) [(0, .box ⟨.c 153, some bo⟩ [cI y, cI m, cI d, .bx 0 3, .ar 1 0]), (1, .arr 0 5 1 (dE y m d 5))] := by
 refine fW (put4_ bo y m d hy) ?_
 first | rfl | (funext i; simp only [bG, upd]; ((repeat' split) <;> first | rfl | (exfalso; omega)))
theorem aMD (bo bw D l : Nat) (y m d : Int) (hy : YMD y m d) (fn : FuncId) (tm : Array Value) (h11 : tm.getD 11 undef = .pointer (some ⟨bw, 0, none⟩)) (hn : tm.size = 44) :
  cH Tryz.prog (Gl g) l [y22] [(0, zK Tryz.f82 [0, 1, 0, 1, 1, 1, 1, 1] fn tm D l), (1, .box ⟨.c 153, some bo⟩ [cI y, cI m, cI d, .d (.v (.pointer none)), cN]), (2, .box ⟨.c 154, some bw⟩ [.fn 124 [(1, 0)] []])] (.c (cB true)) [(0, zK Tryz.f82 [0, 1, 0, 1, 1, 1, 1, 1] fn tm D l), (1, .box ⟨.c 153, some bo⟩ [cI y, cI m, cI d, .bx 1 3, .ar 100 0]), (2, .box ⟨.c 154, some bw⟩ [.fn 124 [(1, 0)] []]), (100, .arr 0 5 1 (dE y m d 1))] := by
 refine fS (iL := 0) (p := 36) (env0 := [zX 11 2 0]) (n := 44) (r := (aW (aK Tryz.f82) [0, 1, 0, 1, 1, 1, 1, 1] fn tm D)) rfl (by kernel_rfl) hn (by decide) ⟨rfl, ⟨_, _, _, rfl, rfl, h11⟩, trivial⟩ rfl fun fr hG => ?_
 refine iR hG cY [] (⟨[zX 11 2 0, zX 12 800 0], [(0, zK Tryz.f82 [0, 1, 0, 1, 1, 1, 1, 1] fn tm D l), (1, .box ⟨.c 153, some bo⟩ [cI y, cI m, cI d, .d (.v (.pointer none)), cN]), (2, .box ⟨.c 154, some bw⟩ [.fn 124 [(1, 0)] []]), (800, y25)]⟩) 0 (r := (aW (aK Tryz.f82) [0, 1, 0, 1, 1, 1, 1, 1] fn tm D)) (by kernel_rfl) aA rfl rfl ?_
 refine fV hG (⟨[zX 11 2 0, zX 12 800 0], [(0, .box ⟨.raw (.loop { (aW (aK Tryz.f82) [0, 1, 0, 1, 1, 1, 1, 1] fn tm D) with state := .busy }), some l⟩ []), (1, .box ⟨.c 153, some bo⟩ [cI y, cI m, cI d, .d (.v (.pointer none)), cN]), (2, .box ⟨.c 154, some bw⟩ [.fn 124 [(1, 0)] []]), (800, y25)]⟩) (by kernel_rfl) ?_
 refine iQ hG cY [(8, 2, .callG (.tup []) [1] [(0, .box ⟨.c 153, some bo⟩ [cI y, cI m, cI d, .bx 0 3, .ar 100 0]), (100, .arr 0 5 1 (dE y m d 1))])] [902] 0 .normal [(0, .box ⟨.raw (jN { (aW (aK Tryz.f82) [0, 1, 0, 1, 1, 1, 1, 1] fn tm D) with state := .busy } .normal), some l⟩ []), (100, .arr 0 5 1 (dE y m d 1)), (1, .box ⟨.c 153, some bo⟩ [cI y, cI m, cI d, .bx 1 3, .ar 100 0]), (2, .box ⟨.c 154, some bw⟩ [.fn 124 [(1, 0)] []])] (by kernel_rfl) (aC (put0 bo y m d hy : SpG g _ _ _ _ _)) ?_ ?_
 rfl
 funext i; simp only [bG, upd]; (repeat' split) <;> first | rfl | (exfalso; omega)
theorem aMC (bo bw D l : Nat) (y m d : Int) (hy : YMD y m d) (fn : FuncId) (tm : Array Value) (h11 : tm.getD 11 undef = .pointer (some ⟨bw, 0, none⟩)) (hn : tm.size = 44) :
  cH Tryz.prog (Gl g) l [y26] [(0, zK Tryz.f82 [0, 1, 0, 1, 1, 1, 1, 1] fn tm D l), (1, .box ⟨.c 153, some bo⟩ [cI y, cI m, cI d, .bx 1 3, .ar 3 0]), (2, .box ⟨.c 154, some bw⟩ [.fn 124 [(1, 0)] []]), (3, .arr 0 5 1 (dE y m d 1))] (.c (cB true)) [(0, zK Tryz.f82 [0, 1, 0, 1, 1, 1, 1, 1] fn tm D l), (1, .box ⟨.c 153, some bo⟩ [cI y, cI m, cI d, .bx 1 3, .ar 3 0]), (2, .box ⟨.c 154, some bw⟩ [.fn 124 [(1, 0)] []]), (3, .arr 0 5 1 (dE y m d 2))] := by
 refine fS (iL := 0) (p := 36) (env0 := [zX 11 2 0]) (n := 44) (r := (aW (aK Tryz.f82) [0, 1, 0, 1, 1, 1, 1, 1] fn tm D)) rfl (by kernel_rfl) hn (by decide) ⟨rfl, ⟨_, _, _, rfl, rfl, h11⟩, trivial⟩ rfl fun fr hG => ?_
 refine iR hG cY [] (⟨[zX 11 2 0, zX 12 800 0], [(0, zK Tryz.f82 [0, 1, 0, 1, 1, 1, 1, 1] fn tm D l), (1, .box ⟨.c 153, some bo⟩ [cI y, cI m, cI d, .bx 1 3, .ar 3 0]), (2, .box ⟨.c 154, some bw⟩ [.fn 124 [(1, 0)] []]), (3, .arr 0 5 1 (dE y m d 1)), (800, y31)]⟩) 0 (r := (aW (aK Tryz.f82) [0, 1, 0, 1, 1, 1, 1, 1] fn tm D)) (by kernel_rfl) aA rfl rfl ?_
 refine fV hG (⟨[zX 11 2 0, zX 12 800 0], [(0, .box ⟨.raw (.loop { (aW (aK Tryz.f82) [0, 1, 0, 1, 1, 1, 1, 1] fn tm D) with state := .busy }), some l⟩ []), (1, .box ⟨.c 153, some bo⟩ [cI y, cI m, cI d, .bx 1 3, .ar 3 0]), (2, .box ⟨.c 154, some bw⟩ [.fn 124 [(1, 0)] []]), (3, .arr 0 5 1 (dE y m d 1)), (800, y31)]⟩) (by kernel_rfl) ?_
 refine iQ hG cY [(8, 2, .callG (.tup []) [1, 3] [(0, .box ⟨.c 153, some bo⟩ [cI y, cI m, cI d, .bx 0 3, .ar 1 0]), (1, .arr 0 5 1 (dE y m d 2))])] [] 0 .normal [(0, .box ⟨.raw (jN { (aW (aK Tryz.f82) [0, 1, 0, 1, 1, 1, 1, 1] fn tm D) with state := .busy } .normal), some l⟩ []), (3, .arr 0 5 1 (dE y m d 2)), (1, .box ⟨.c 153, some bo⟩ [cI y, cI m, cI d, .bx 1 3, .ar 3 0]), (2, .box ⟨.c 154, some bw⟩ [.fn 124 [(1, 0)] []])] (by kernel_rfl) (aC (put1 bo y m d hy : SpG g _ _ _ _ _)) ?_ ?_
 rfl
 funext i; simp only [bG, upd]; (repeat' split) <;> first | rfl | (exfalso; omega)
theorem aMB (bo bw D l : Nat) (y m d : Int) (hy : YMD y m d) (fn : FuncId) (tm : Array Value) (h11 : tm.getD 11 undef = .pointer (some ⟨bw, 0, none⟩)) (hn : tm.size = 44) :
  cH Tryz.prog (Gl g) l [y27] [(0, zK Tryz.f82 [0, 1, 0, 1, 1, 1, 1, 1] fn tm D l), (1, .box ⟨.c 153, some bo⟩ [cI y, cI m, cI d, .bx 1 3, .ar 3 0]), (2, .box ⟨.c 154, some bw⟩ [.fn 124 [(1, 0)] []]), (3, .arr 0 5 1 (dE y m d 2))] (.c (cB true)) [(0, zK Tryz.f82 [0, 1, 0, 1, 1, 1, 1, 1] fn tm D l), (1, .box ⟨.c 153, some bo⟩ [cI y, cI m, cI d, .bx 1 3, .ar 3 0]), (2, .box ⟨.c 154, some bw⟩ [.fn 124 [(1, 0)] []]), (3, .arr 0 5 1 (dE y m d 3))] := by
 refine fS (iL := 0) (p := 36) (env0 := [zX 11 2 0]) (n := 44) (r := (aW (aK Tryz.f82) [0, 1, 0, 1, 1, 1, 1, 1] fn tm D)) rfl (by kernel_rfl) hn (by decide) ⟨rfl, ⟨_, _, _, rfl, rfl, h11⟩, trivial⟩ rfl fun fr hG => ?_
 refine iR hG cY [] (⟨[zX 11 2 0, zX 12 800 0], [(0, zK Tryz.f82 [0, 1, 0, 1, 1, 1, 1, 1] fn tm D l), (1, .box ⟨.c 153, some bo⟩ [cI y, cI m, cI d, .bx 1 3, .ar 3 0]), (2, .box ⟨.c 154, some bw⟩ [.fn 124 [(1, 0)] []]), (3, .arr 0 5 1 (dE y m d 2)), (800, y28)]⟩) 0 (r := (aW (aK Tryz.f82) [0, 1, 0, 1, 1, 1, 1, 1] fn tm D)) (by kernel_rfl) aA rfl rfl ?_
 refine fV hG (⟨[zX 11 2 0, zX 12 800 0], [(0, .box ⟨.raw (.loop { (aW (aK Tryz.f82) [0, 1, 0, 1, 1, 1, 1, 1] fn tm D) with state := .busy }), some l⟩ []), (1, .box ⟨.c 153, some bo⟩ [cI y, cI m, cI d, .bx 1 3, .ar 3 0]), (2, .box ⟨.c 154, some bw⟩ [.fn 124 [(1, 0)] []]), (3, .arr 0 5 1 (dE y m d 2)), (800, y28)]⟩) (by kernel_rfl) ?_
 refine iQ hG cY [(8, 2, .callG (.tup []) [1, 3] [(0, .box ⟨.c 153, some bo⟩ [cI y, cI m, cI d, .bx 0 3, .ar 1 0]), (1, .arr 0 5 1 (dE y m d 3))])] [] 0 .normal [(0, .box ⟨.raw (jN { (aW (aK Tryz.f82) [0, 1, 0, 1, 1, 1, 1, 1] fn tm D) with state := .busy } .normal), some l⟩ []), (3, .arr 0 5 1 (dE y m d 3)), (1, .box ⟨.c 153, some bo⟩ [cI y, cI m, cI d, .bx 1 3, .ar 3 0]), (2, .box ⟨.c 154, some bw⟩ [.fn 124 [(1, 0)] []])] (by kernel_rfl) (aC (put2 bo y m d hy : SpG g _ _ _ _ _)) ?_ ?_
 rfl
 funext i; simp only [bG, upd]; (repeat' split) <;> first | rfl | (exfalso; omega)
theorem aMA (bo bw D l : Nat) (y m d : Int) (hy : YMD y m d) (fn : FuncId) (tm : Array Value) (h11 : tm.getD 11 undef = .pointer (some ⟨bw, 0, none⟩)) (hn : tm.size = 44) :
  cH Tryz.prog (Gl g) l [y26] [(0, zK Tryz.f82 [0, 1, 0, 1, 1, 1, 1, 1] fn tm D l), (1, .box ⟨.c 153, some bo⟩ [cI y, cI m, cI d, .bx 1 3, .ar 3 0]), (2, .box ⟨.c 154, some bw⟩ [.fn 124 [(1, 0)] []]), (3, .arr 0 5 1 (dE y m d 3))] (.c (cB true)) [(0, zK Tryz.f82 [0, 1, 0, 1, 1, 1, 1, 1] fn tm D l), (1, .box ⟨.c 153, some bo⟩ [cI y, cI m, cI d, .bx 1 3, .ar 3 0]), (2, .box ⟨.c 154, some bw⟩ [.fn 124 [(1, 0)] []]), (3, .arr 0 5 1 (dE y m d 4))] := by
 refine fS (iL := 0) (p := 36) (env0 := [zX 11 2 0]) (n := 44) (r := (aW (aK Tryz.f82) [0, 1, 0, 1, 1, 1, 1, 1] fn tm D)) rfl (by kernel_rfl) hn (by decide) ⟨rfl, ⟨_, _, _, rfl, rfl, h11⟩, trivial⟩ rfl fun fr hG => ?_
 refine iR hG cY [] (⟨[zX 11 2 0, zX 12 800 0], [(0, zK Tryz.f82 [0, 1, 0, 1, 1, 1, 1, 1] fn tm D l), (1, .box ⟨.c 153, some bo⟩ [cI y, cI m, cI d, .bx 1 3, .ar 3 0]), (2, .box ⟨.c 154, some bw⟩ [.fn 124 [(1, 0)] []]), (3, .arr 0 5 1 (dE y m d 3)), (800, y31)]⟩) 0 (r := (aW (aK Tryz.f82) [0, 1, 0, 1, 1, 1, 1, 1] fn tm D)) (by kernel_rfl) aA rfl rfl ?_
 refine fV hG (⟨[zX 11 2 0, zX 12 800 0], [(0, .box ⟨.raw (.loop { (aW (aK Tryz.f82) [0, 1, 0, 1, 1, 1, 1, 1] fn tm D) with state := .busy }), some l⟩ []), (1, .box ⟨.c 153, some bo⟩ [cI y, cI m, cI d, .bx 1 3, .ar 3 0]), (2, .box ⟨.c 154, some bw⟩ [.fn 124 [(1, 0)] []]), (3, .arr 0 5 1 (dE y m d 3)), (800, y31)]⟩) (by kernel_rfl) ?_
 refine iQ hG cY [(8, 2, .callG (.tup []) [1, 3] [(0, .box ⟨.c 153, some bo⟩ [cI y, cI m, cI d, .bx 0 3, .ar 1 0]), (1, .arr 0 5 1 (dE y m d 4))])] [] 0 .normal [(0, .box ⟨.raw (jN { (aW (aK Tryz.f82) [0, 1, 0, 1, 1, 1, 1, 1] fn tm D) with state := .busy } .normal), some l⟩ []), (3, .arr 0 5 1 (dE y m d 4)), (1, .box ⟨.c 153, some bo⟩ [cI y, cI m, cI d, .bx 1 3, .ar 3 0]), (2, .box ⟨.c 154, some bw⟩ [.fn 124 [(1, 0)] []])] (by kernel_rfl) (aC (put3 bo y m d hy : SpG g _ _ _ _ _)) ?_ ?_
 rfl
 funext i; simp only [bG, upd]; (repeat' split) <;> first | rfl | (exfalso; omega)
theorem aL9 (bo bw D l : Nat) (y m d : Int) (hy : YMD y m d) (fn : FuncId) (tm : Array Value) (h11 : tm.getD 11 undef = .pointer (some ⟨bw, 0, none⟩)) (hn : tm.size = 44) :
  cH Tryz.prog (Gl g) l [y29] [(0, zK Tryz.f82 [0, 1, 0, 1, 1, 1, 1, 1] fn tm D l), (1, .box ⟨.c 153, some bo⟩ [cI y, cI m, cI d, .bx 1 3, .ar 3 0]), (2, .box ⟨.c 154, some bw⟩ [.fn 124 [(1, 0)] []]), (3, .arr 0 5 1 (dE y m d 4))] (.c (cB true)) [(0, zK Tryz.f82 [0, 1, 0, 1, 1, 1, 1, 1] fn tm D l), (1, .box ⟨.c 153, some bo⟩ [cI y, cI m, cI d, .bx 1 3, .ar 3 0]), (2, .box ⟨.c 154, some bw⟩ [.fn 124 [(1, 0)] []]), (3, .arr 0 5 1 (dE y m d 5))] := by
 refine fS (iL := 0) (p := 36) (env0 := [zX 11 2 0]) (n := 44) (r := (aW (aK Tryz.f82) [0, 1, 0, 1, 1, 1, 1, 1] fn tm D)) rfl (by kernel_rfl) hn (by decide) ⟨rfl, ⟨_, _, _, rfl, rfl, h11⟩, trivial⟩ rfl fun fr hG => ?_
 refine iR hG cY [] (⟨[zX 11 2 0, zX 12 800 0], [(0, zK Tryz.f82 [0, 1, 0, 1, 1, 1, 1, 1] fn tm D l), (1, .box ⟨.c 153, some bo⟩ [cI y, cI m, cI d, .bx 1 3, .ar 3 0]), (2, .box ⟨.c 154, some bw⟩ [.fn 124 [(1, 0)] []]), (3, .arr 0 5 1 (dE y m d 4)), (800, y30)]⟩) 0 (r := (aW (aK Tryz.f82) [0, 1, 0, 1, 1, 1, 1, 1] fn tm D)) (by kernel_rfl) aA rfl rfl ?_
 refine fV hG (⟨[zX 11 2 0, zX 12 800 0], [(0, .box ⟨.raw (.loop { (aW (aK Tryz.f82) [0, 1, 0, 1, 1, 1, 1, 1] fn tm D) with state := .busy }), some l⟩ []), (1, .box ⟨.c 153, some bo⟩ [cI y, cI m, cI d, .bx 1 3, .ar 3 0]), (2, .box ⟨.c 154, some bw⟩ [.fn 124 [(1, 0)] []]), (3, .arr 0 5 1 (dE y m d 4)), (800, y30)]⟩) (by kernel_rfl) ?_
 refine iQ hG cY [(8, 2, .callG (.tup []) [1, 3] [(0, .box ⟨.c 153, some bo⟩ [cI y, cI m, cI d, .bx 0 3, .ar 1 0]), (1, .arr 0 5 1 (dE y m d 5))])] [] 0 .normal [(0, .box ⟨.raw (jN { (aW (aK Tryz.f82) [0, 1, 0, 1, 1, 1, 1, 1] fn tm D) with state := .busy } .normal), some l⟩ []), (3, .arr 0 5 1 (dE y m d 5)), (1, .box ⟨.c 153, some bo⟩ [cI y, cI m, cI d, .bx 1 3, .ar 3 0]), (2, .box ⟨.c 154, some bw⟩ [.fn 124 [(1, 0)] []])] (by kernel_rfl) (aC (put4 bo y m d hy : SpG g _ _ _ _ _)) ?_ ?_
 rfl
 funext i; simp only [bG, upd]; (repeat' split) <;> first | rfl | (exfalso; omega)
noncomputable def itO (b0 bo bw D l : Nat) (y m d : Int) (fn : FuncId) (tm : Array Value) : Nat → bL
 | 0 => [(0, .box ⟨.c 9, some b0⟩ [cS (S [89, 89, 89, 89, 45, 77, 77, 45, 68, 68])]), (1, zK Tryz.f82 [0, 1, 0, 1, 1, 1, 1, 1] fn tm D l), (2, .box ⟨.c 153, some bo⟩ [cI y, cI m, cI d, .d (.v (.pointer none)), cN]), (3, .box ⟨.c 154, some bw⟩ [.fn 124 [(2, 0)] []])]
 | 1 => [(0, .box ⟨.c 9, some b0⟩ [cS (S [45, 77, 77, 45, 68, 68])]), (1, zK Tryz.f82 [0, 1, 0, 1, 1, 1, 1, 1] fn tm D l), (2, .box ⟨.c 153, some bo⟩ [cI y, cI m, cI d, .bx 2 3, .ar 302 0]), (3, .box ⟨.c 154, some bw⟩ [.fn 124 [(2, 0)] []]), (302, .arr 0 5 1 (dE y m d 1))]
 | 2 => [(0, .box ⟨.c 9, some b0⟩ [cS (S [77, 77, 45, 68, 68])]), (1, zK Tryz.f82 [0, 1, 0, 1, 1, 1, 1, 1] fn tm D l), (2, .box ⟨.c 153, some bo⟩ [cI y, cI m, cI d, .bx 2 3, .ar 302 0]), (3, .box ⟨.c 154, some bw⟩ [.fn 124 [(2, 0)] []]), (302, .arr 0 5 1 (dE y m d 2))]
 | 3 => [(0, .box ⟨.c 9, some b0⟩ [cS (S [45, 68, 68])]), (1, zK Tryz.f82 [0, 1, 0, 1, 1, 1, 1, 1] fn tm D l), (2, .box ⟨.c 153, some bo⟩ [cI y, cI m, cI d, .bx 2 3, .ar 302 0]), (3, .box ⟨.c 154, some bw⟩ [.fn 124 [(2, 0)] []]), (302, .arr 0 5 1 (dE y m d 3))]
 | 4 => [(0, .box ⟨.c 9, some b0⟩ [cS (S [68, 68])]), (1, zK Tryz.f82 [0, 1, 0, 1, 1, 1, 1, 1] fn tm D l), (2, .box ⟨.c 153, some bo⟩ [cI y, cI m, cI d, .bx 2 3, .ar 302 0]), (3, .box ⟨.c 154, some bw⟩ [.fn 124 [(2, 0)] []]), (302, .arr 0 5 1 (dE y m d 4))]
 | _ => [(0, .box ⟨.c 9, some b0⟩ [cS (S [])]), (1, zK Tryz.f82 [0, 1, 0, 1, 1, 1, 1, 1] fn tm D l), (2, .box ⟨.c 153, some bo⟩ [cI y, cI m, cI d, .bx 2 3, .ar 302 0]), (3, .box ⟨.c 154, some bw⟩ [.fn 124 [(2, 0)] []]), (302, .arr 0 5 1 (dE y m d 5))]
theorem aE0 (b0 : Nat) (bo bw D l : Nat) (y m d : Int) (hy : YMD y m d) (fn : FuncId) (tm : Array Value) (h11 : tm.getD 11 undef = .pointer (some ⟨bw, 0, none⟩)) (hn : tm.size = 44) :
  SpG g 172 [.c (.d (.v (.func (.yield l) #[] #[]))), .c (.bx 0 0)] [(0, .box ⟨.c 9, some b0⟩ [cS (S [89, 89, 89, 89, 45, 77, 77, 45, 68, 68])]), (1, zK Tryz.f82 [0, 1, 0, 1, 1, 1, 1, 1] fn tm D l), (2, .box ⟨.c 153, some bo⟩ [cI y, cI m, cI d, .d (.v (.pointer none)), cN]), (3, .box ⟨.c 154, some bw⟩ [.fn 124 [(2, 0)] []])] (.tup []) [(0, .box ⟨.c 9, some b0⟩ [cS (S [])]), (1, zK Tryz.f82 [0, 1, 0, 1, 1, 1, 1, 1] fn tm D l), (2, .box ⟨.c 153, some bo⟩ [cI y, cI m, cI d, .bx 2 3, .ar 100 0]), (3, .box ⟨.c 154, some bw⟩ [.fn 124 [(2, 0)] []]), (100, .arr 0 5 1 (dE y m d 5))] := by
 refine aF 17 Tryz.func172 (by kernel_rfl) fun fr hG => ?_
 refine zL hG [] [0] (fun (zz : Nat) => match zz with | k => (6 - k, ⟨[(0, [], .c (.d (.v (.func (.yield l) #[] #[])))), zX 1 0 0], itO b0 bo bw D l y m d fn tm k⟩, k ≤ 5)) 0 aA ?_ ?_
 exact Nat.zero_le _
 rintro k hI
 rcases (by omega : k = 0 ∨ k = 1 ∨ k = 2 ∨ k = 3 ∨ k = 4 ∨ k = 5) with rfl | rfl | rfl | rfl | rfl | rfl
 skip
 refine zc hG [] [1, 0] (true) aA (fun _ => ?_) (fun hc2 => absurd hc2 (by decide))
 refine zC hG [(1, 1, kC (y22)), (2, 2, .callG (.c (cB true)) [1, 2, 3] [(0, zK Tryz.f82 [0, 1, 0, 1, 1, 1, 1, 1] fn tm D l), (1, .box ⟨.c 153, some bo⟩ [cI y, cI m, cI d, .bx 1 3, .ar 100 0]), (2, .box ⟨.c 154, some bw⟩ [.fn 124 [(1, 0)] []]), (100, .arr 0 5 1 (dE y m d 1))])] [1, 0, 1, 0, 1] (false) (⟨[(0, [], .c (.d (.v (.func (.yield l) #[] #[])))), zX 1 0 0, zX 3 202 0], [(0, .box ⟨.c 9, some b0⟩ [cS (S [89, 89, 89, 89, 45, 77, 77, 45, 68, 68])]), (1, zK Tryz.f82 [0, 1, 0, 1, 1, 1, 1, 1] fn tm D l), (2, .box ⟨.c 153, some bo⟩ [cI y, cI m, cI d, .bx 2 3, .ar 302 0]), (3, .box ⟨.c 154, some bw⟩ [.fn 124 [(2, 0)] []]), (202, y25), (302, .arr 0 5 1 (dE y m d 1))]⟩) (aB (uI : SpG g _ _ _ _ _) (aC (aMD bo bw D l y m d hy fn tm h11 hn : cH Tryz.prog (Gl g) _ _ _ _ _))) (fun hc3 => absurd hc3 (by decide)) (fun _ => ?_)
 refine zD hG [] 1 (aC (by decide : (0 : Int) ≤ 4 ∧ (4 : Int) ≤ ((S [89, 89, 89, 89, 45, 77, 77, 45, 68, 68]).size : Int) ∧ ((S [89, 89, 89, 89, 45, 77, 77, 45, 68, 68]).size : Int) ≤ ((S [89, 89, 89, 89, 45, 77, 77, 45, 68, 68]).size : Int))) ?_ ?_
 (try dsimp only); decide
 (try dsimp only); decide
 skip
 refine zc hG [] [1, 0] (true) aA (fun _ => ?_) (fun hc4 => absurd hc4 (by decide))
 refine zC hG [(1, 1, kC (y26)), (2, 2, .callG (.c (cB true)) [1, 2, 3, 302] [(0, zK Tryz.f82 [0, 1, 0, 1, 1, 1, 1, 1] fn tm D l), (1, .box ⟨.c 153, some bo⟩ [cI y, cI m, cI d, .bx 1 3, .ar 3 0]), (2, .box ⟨.c 154, some bw⟩ [.fn 124 [(1, 0)] []]), (3, .arr 0 5 1 (dE y m d 2))])] [1, 0, 1, 0, 1] (false) (⟨[(0, [], .c (.d (.v (.func (.yield l) #[] #[])))), zX 1 0 0, zX 3 202 0], [(0, .box ⟨.c 9, some b0⟩ [cS (S [45, 77, 77, 45, 68, 68])]), (1, zK Tryz.f82 [0, 1, 0, 1, 1, 1, 1, 1] fn tm D l), (2, .box ⟨.c 153, some bo⟩ [cI y, cI m, cI d, .bx 2 3, .ar 302 0]), (3, .box ⟨.c 154, some bw⟩ [.fn 124 [(2, 0)] []]), (202, y31), (302, .arr 0 5 1 (dE y m d 2))]⟩) (aB (uH : SpG g _ _ _ _ _) (aC (aMC bo bw D l y m d hy fn tm h11 hn : cH Tryz.prog (Gl g) _ _ _ _ _))) (fun hc5 => absurd hc5 (by decide)) (fun _ => ?_)
 refine zD hG [] 2 (aC (by decide : (0 : Int) ≤ 1 ∧ (1 : Int) ≤ ((S [45, 77, 77, 45, 68, 68]).size : Int) ∧ ((S [45, 77, 77, 45, 68, 68]).size : Int) ≤ ((S [45, 77, 77, 45, 68, 68]).size : Int))) ?_ ?_
 (try dsimp only); decide
 (try dsimp only); decide
 skip
 refine zc hG [] [1, 0] (true) aA (fun _ => ?_) (fun hc6 => absurd hc6 (by decide))
 refine zC hG [(1, 1, kC (y27)), (2, 2, .callG (.c (cB true)) [1, 2, 3, 302] [(0, zK Tryz.f82 [0, 1, 0, 1, 1, 1, 1, 1] fn tm D l), (1, .box ⟨.c 153, some bo⟩ [cI y, cI m, cI d, .bx 1 3, .ar 3 0]), (2, .box ⟨.c 154, some bw⟩ [.fn 124 [(1, 0)] []]), (3, .arr 0 5 1 (dE y m d 3))])] [1, 0, 1, 0, 1] (false) (⟨[(0, [], .c (.d (.v (.func (.yield l) #[] #[])))), zX 1 0 0, zX 3 202 0], [(0, .box ⟨.c 9, some b0⟩ [cS (S [77, 77, 45, 68, 68])]), (1, zK Tryz.f82 [0, 1, 0, 1, 1, 1, 1, 1] fn tm D l), (2, .box ⟨.c 153, some bo⟩ [cI y, cI m, cI d, .bx 2 3, .ar 302 0]), (3, .box ⟨.c 154, some bw⟩ [.fn 124 [(2, 0)] []]), (202, y28), (302, .arr 0 5 1 (dE y m d 3))]⟩) (aB (zO : SpG g _ _ _ _ _) (aC (aMB bo bw D l y m d hy fn tm h11 hn : cH Tryz.prog (Gl g) _ _ _ _ _))) (fun hc7 => absurd hc7 (by decide)) (fun _ => ?_)
 refine zD hG [] 3 (aC (by decide : (0 : Int) ≤ 2 ∧ (2 : Int) ≤ ((S [77, 77, 45, 68, 68]).size : Int) ∧ ((S [77, 77, 45, 68, 68]).size : Int) ≤ ((S [77, 77, 45, 68, 68]).size : Int))) ?_ ?_
 (try dsimp only); decide
 (try dsimp only); decide
 skip
 refine zc hG [] [1, 0] (true) aA (fun _ => ?_) (fun hc8 => absurd hc8 (by decide))
 refine zC hG [(1, 1, kC (y26)), (2, 2, .callG (.c (cB true)) [1, 2, 3, 302] [(0, zK Tryz.f82 [0, 1, 0, 1, 1, 1, 1, 1] fn tm D l), (1, .box ⟨.c 153, some bo⟩ [cI y, cI m, cI d, .bx 1 3, .ar 3 0]), (2, .box ⟨.c 154, some bw⟩ [.fn 124 [(1, 0)] []]), (3, .arr 0 5 1 (dE y m d 4))])] [1, 0, 1, 0, 1] (false) (⟨[(0, [], .c (.d (.v (.func (.yield l) #[] #[])))), zX 1 0 0, zX 3 202 0], [(0, .box ⟨.c 9, some b0⟩ [cS (S [45, 68, 68])]), (1, zK Tryz.f82 [0, 1, 0, 1, 1, 1, 1, 1] fn tm D l), (2, .box ⟨.c 153, some bo⟩ [cI y, cI m, cI d, .bx 2 3, .ar 302 0]), (3, .box ⟨.c 154, some bw⟩ [.fn 124 [(2, 0)] []]), (202, y31), (302, .arr 0 5 1 (dE y m d 4))]⟩) (aB (zJ : SpG g _ _ _ _ _) (aC (aMA bo bw D l y m d hy fn tm h11 hn : cH Tryz.prog (Gl g) _ _ _ _ _))) (fun hc9 => absurd hc9 (by decide)) (fun _ => ?_)
 refine zD hG [] 4 (aC (by decide : (0 : Int) ≤ 1 ∧ (1 : Int) ≤ ((S [45, 68, 68]).size : Int) ∧ ((S [45, 68, 68]).size : Int) ≤ ((S [45, 68, 68]).size : Int))) ?_ ?_
 (try dsimp only); decide
 (try dsimp only); decide
 skip
 refine zc hG [] [1, 0] (true) aA (fun _ => ?_) (fun hc10 => absurd hc10 (by decide))
 refine zC hG [(1, 1, kC (y29)), (2, 2, .callG (.c (cB true)) [1, 2, 3, 302] [(0, zK Tryz.f82 [0, 1, 0, 1, 1, 1, 1, 1] fn tm D l), (1, .box ⟨.c 153, some bo⟩ [cI y, cI m, cI d, .bx 1 3, .ar 3 0]), (2, .box ⟨.c 154, some bw⟩ [.fn 124 [(1, 0)] []]), (3, .arr 0 5 1 (dE y m d 5))])] [1, 0, 1, 0, 1] (false) (⟨[(0, [], .c (.d (.v (.func (.yield l) #[] #[])))), zX 1 0 0, zX 3 202 0], [(0, .box ⟨.c 9, some b0⟩ [cS (S [68, 68])]), (1, zK Tryz.f82 [0, 1, 0, 1, 1, 1, 1, 1] fn tm D l), (2, .box ⟨.c 153, some bo⟩ [cI y, cI m, cI d, .bx 2 3, .ar 302 0]), (3, .box ⟨.c 154, some bw⟩ [.fn 124 [(2, 0)] []]), (202, y30), (302, .arr 0 5 1 (dE y m d 5))]⟩) (aB (aE2 : SpG g _ _ _ _ _) (aC (aL9 bo bw D l y m d hy fn tm h11 hn : cH Tryz.prog (Gl g) _ _ _ _ _))) (fun hc11 => absurd hc11 (by decide)) (fun _ => ?_)
 refine zD hG [] 5 (aC (by decide : (0 : Int) ≤ 2 ∧ (2 : Int) ≤ ((S [68, 68]).size : Int) ∧ ((S [68, 68]).size : Int) ≤ ((S [68, 68]).size : Int))) ?_ ?_
 (try dsimp only); decide
 (try dsimp only); decide
 skip
 refine zc hG [] [1, 0] (false) aA (fun hc12 => absurd hc12 (by decide)) (fun _ => ?_)
 refine zE hG [] (.exit 0) (⟨[], [(0, .box ⟨.c 9, some b0⟩ [cS (S [])]), (1, zK Tryz.f82 [0, 1, 0, 1, 1, 1, 1, 1] fn tm D l), (2, .box ⟨.c 153, some bo⟩ [cI y, cI m, cI d, .bx 2 3, .ar 302 0]), (3, .box ⟨.c 154, some bw⟩ [.fn 124 [(2, 0)] []]), (302, .arr 0 5 1 (dE y m d 5))]⟩) aA rfl ?_
 exact zr hG [] [302] aA
theorem aIV (b0 : Nat) (bo bw D l : Nat) (y m d : Int) (hy : YMD y m d) (fn : FuncId) (tm : Array Value) (h11 : tm.getD 11 undef = .pointer (some ⟨bw, 0, none⟩)) (hn : tm.size = 44) :
  SpG g 172 [.c (.d (.v (.func (.yield l) #[] #[]))), .c (.bx 0 0)] [(0, .box ⟨.c 9, some b0⟩ [cS (S [89, 89, 89, 89, 45, 77, 77, 45, 68, 68])]), (1, zK Tryz.f82 [0, 1, 0, 1, 1, 1, 1, 1] fn tm D l), (2, .box ⟨.c 153, some bo⟩ [cI y, cI m, cI d, .d (.v (.pointer none)), cN]), (3, .box ⟨.c 154, some bw⟩ [.fn 124 [(2, 0)] []])] (.tup []) [(0, .box ⟨.c 9, some b0⟩ [cS (S [])]), (1, zK Tryz.f82 [0, 1, 0, 1, 1, 1, 1, 1] fn tm D l), (2, .box ⟨.c 153, some bo⟩ [cI y, cI m, cI d, .bx 2 3, .ar 100 0]), (3, .box ⟨.c 154, some bw⟩ [.fn 124 [(2, 0)] []]), (100, .arr 0 5 1 (dE y m d 5))] := by
 refine fW (aE0 b0 bo bw D l y m d hy fn tm h11 hn) ?_
 first | rfl | (funext i; simp only [bG, upd]; ((repeat' split) <;> first | rfl | (exfalso; omega)))
theorem civ_ymd {n : Int} (h0 : 0 ≤ n) (h1 : n ≤ 3652058) : YMD (civ n).1 (civ n).2.1 (civ n).2.2 := by
 obtain ⟨a1, a2, a3, a4, a5, a6⟩ := oM h0 h1
 exact ⟨by omega, by omega, by omega, by omega, by omega, by omega⟩
abbrev y33 (a0 : ByteArray) : SV := .tup [(false, [cS a0]), (false, [cB true])]
theorem wX (n : Int) (h0 : 0 ≤ n) (h1 : n ≤ 3652058) :
  SpG g 82 [.c (cS (S [89, 89, 89, 89, 45, 77, 77, 45, 68, 68])), .c (cI n)] [] (y33 (S (aS n))) [] := by
 refine aE9 44 Tryz.func82 (by kernel_rfl) fun fr hG => ?_
 refine zC hG [(1, 1, kC (y0 ((civ n).1) ((civ n).2.1) ((civ n).2.2))), (2, 4, kB true)] [1, 0, 1, 1] (false) (⟨[zS 0 (S [89, 89, 89, 89, 45, 77, 77, 45, 68, 68]), zS 4 (S []), zB 5 false, zI 6 ((civ n).1), zI 7 ((civ n).2.1), zI 8 ((civ n).2.2)], []⟩) (aB (aNG n h0 h1 : SpG g _ _ _ _ _) (aC (fun (hg1 : false = false) => (pP : SpG g _ _ _ _ _)))) (fun hc1 => absurd hc1 (by decide)) (fun _ => ?_)
 refine q6 hG cY [(6, 1, .call (.c (.fn 172 [] [(100, 0)])) [(100, y32)] [])] [0, 1, 0, 1, 1, 1, 1, 1] (⟨[zS 4 (S []), zB 5 false, zX 10 504 0, zX 11 602 0, (35, [], .c (.fn 172 [] [(701, 0)]))], [(504, .box 153 [cI ((civ n).1), cI ((civ n).2.1), cI ((civ n).2.2), .d (.v (.pointer none)), cN]), (602, .box 154 [.fn 124 [(504, 0)] []]), (701, y32)]⟩) _ (by kernel_rfl) (aC (pU (S [89, 89, 89, 89, 45, 77, 77, 45, 68, 68]) : SpG g _ _ _ _ _)) ?_
 refine aEG (g := 35) (ps := rgP (aK Tryz.f82) [0, 1, 0, 1, 1, 1, 1, 1]) (assign := rgA (aK Tryz.f82) [0, 1, 0, 1, 1, 1, 1, 1]) (body := rgB (aK Tryz.f82) [0, 1, 0, 1, 1, 1, 1, 1]) hG (by kernel_rfl) 9900 9901 9910 (by kernel_rfl) rfl (by kernel_rfl) fun b D l fn tm hT hn => ?_
 refine ⟨.tup [], [701, 9901, 504, 602], [(0, .box ⟨.c 9, some (b 701)⟩ [cS (S [])]), (1, zK Tryz.f82 [0, 1, 0, 1, 1, 1, 1, 1] fn tm D l), (2, .box ⟨.c 153, some (b 504)⟩ [cI ((civ n).1), cI ((civ n).2.1), cI ((civ n).2.2), .bx 2 3, .ar 100 0]), (3, .box ⟨.c 154, some (b 602)⟩ [.fn 124 [(2, 0)] []]), (100, y21 (dE (civ n).1 (civ n).2.1 (civ n).2.2 5))], none, ⟨[zS 4 (S []), zB 5 false, zX 10 504 0], [(504, .box ⟨.c 153, some (b 504)⟩ [cI ((civ n).1), cI ((civ n).2.1), cI ((civ n).2.2), .bx 504 3, .ar 9910 0]), (9900, .box ⟨.raw (.deferred (some [])), some D⟩ []), (9910, y21 (dE (civ n).1 (civ n).2.1 (civ n).2.2 5))]⟩, _, .normal, by kernel_rfl, aC (aIV (b 701) (b 504) (b 602) D l (civ n).1 (civ n).2.1 (civ n).2.2 (civ_ymd h0 h1) fn tm (hT.bx 11 602 0 rfl) hn : SpG g _ _ _ _ _), rfl, ?_⟩
 have hG0 := hG
 replace hG := j3 (D := D) hG
 refine nY hG0 cY [(9, 3, .callG (.c (cS (S (aS n)))) [504, 9910] [(0, .box ⟨.c 153, some (b 504)⟩ [cI ((civ n).1), cI ((civ n).2.1), cI ((civ n).2.2), .bx 0 3, .any]), (1, y21 ([] : List (List V.D)))])] [] 9900 (y33 (S (aS n))) [] (by kernel_rfl) (aC (u5 (b 504) (civ n).1 (civ n).2.1 (civ n).2.2 (dE (civ n).1 (civ n).2.1 (civ n).2.2 5) (S (aS n)) (by rw [dE_text, dT_date h0 h1]) : SpG g _ _ _ _ _)) ?_ ?_
 rfl
 rfl
theorem rQ (n : Int) (h0 : 0 ≤ n) (h1 : n ≤ 3652058) :
  SpG g 47 [.c (cI n)] [] (.c (cS (S (aS n)))) [] := by
 refine aF 11 Tryz.func47 (by kernel_rfl) fun fr hG => ?_
 exact zr hG [(1, 1, kC (y33 (S (aS n))))] [] (aC (wX n h0 h1 : SpG g _ _ _ _ _))
end Go.Proofs.YtmpgfchkkemngaaGreatDoor
namespace Go.Proofs.YtmpgfchkkemngaaGreatDoor
open Go.RowKit Go.V
open Go.Eng (inR byteAt u8 bH)
variable {g : Gv}
theorem iU {a : Nat} (h : a < 10) : bD a = [u8 (48 + (a : Int))] := by
 unfold bD
 by_cases h0 : a = 0
 subst h0; rfl
 rw [if_neg h0, f7 h0, show a / 10 = 0 by omega, fF, show a % 10 = a by omega]; rfl
theorem qI {a : Nat} (h : 10 ≤ a) : bD a = bD (a / 10) ++ [u8 (48 + ((a % 10 : Nat) : Int))] := by
 unfold bD
 rw [if_neg (by omega), if_neg (by omega), f7 (by omega)]
def l6 : Nat → Nat → List UInt8
 | 0, _ => []
 | s + 1, a => l6 s (a / 10) ++ [u8 (48 + ((a % 10 : Nat) : Int))]
theorem gX : ∀ s a, (l6 s a).length = s
 | 0, _ => rfl
 | s + 1, a => by simp [l6, gX s]
theorem tR : ∀ s a, bD (10 ^ s + a % 10 ^ s) = 49 :: l6 s a
 | 0, a => by rw [Nat.pow_zero, Nat.mod_one, iU (by decide)]; rfl
 | s + 1, a => by
  have hp : 10 ^ (s + 1) = 10 * 10 ^ s := by rw [Nat.pow_succ, Nat.mul_comm]
  have h1 : 1 ≤ 10 ^ s := Nat.one_le_pow _ _ (by decide)
  rw [qI (by omega)]
  have e1 : (10 ^ (s + 1) + a % 10 ^ (s + 1)) / 10 = 10 ^ s + (a / 10) % 10 ^ s := by
   rw [hp, Nat.mod_mul, Nat.add_comm (a % 10), ← Nat.add_assoc, ← Nat.mul_add, Nat.add_comm, Nat.add_mul_div_left _ _ (by decide)]
   omega
  have e2 : (10 ^ (s + 1) + a % 10 ^ (s + 1)) % 10 = a % 10 := by
   rw [hp, Nat.mul_add_mod, Nat.mod_mul_right_mod]
  rw [e1, e2, tR s (a / 10)]
  rfl
def eN (a s : Nat) : List UInt8 := List.replicate (s + 1 - (bD a).length) 48 ++ bD a
theorem iB : ∀ s a, eN a s = bD (a / 10 ^ s) ++ l6 s a
 | 0, a => by
  have := l4 a
  rw [eN, show 0 + 1 - (bD a).length = 0 by omega]
  simp [l6]
 | s + 1, a => by
  have ih := iB s (a / 10)
  rw [Nat.pow_succ, Nat.mul_comm (10 ^ s), ← Nat.div_div_eq_div_mul, l6, ← List.append_assoc, ← ih, eN, eN]
  by_cases h : a < 10
  rw [show a / 10 = 0 by omega, iU h, iU (a := 0) (by decide), show a % 10 = a by omega]
  simp only [List.length_cons, List.length_nil, Nat.add_sub_cancel]
  rw [List.replicate_succ']
  rfl
  rw [qI (a := a) (by omega)]
  simp only [dG]
  rw [show s + 1 + 1 - ((bD (a / 10)).length + (0 + 1)) = s + 1 - (bD (a / 10)).length by omega]
  simp
theorem aH7 (a s : Nat) : (eN a s).take ((eN a s).length - s) = bD (a / 10 ^ s) := by
 rw [iB, List.length_append, gX, Nat.add_sub_cancel, List.take_left']
 rfl
theorem aH8 (a s : Nat) : (eN a s).drop ((eN a s).length - s) = (bD (10 ^ s + a % 10 ^ s)).drop 1 := by
 rw [iB, List.length_append, gX, Nat.add_sub_cancel, List.drop_left', tR]
 rfl
 rfl
theorem aK4 (a s : Nat) : s + 1 ≤ (eN a s).length ∧ (eN a s).length ≤ s + 1 + (bD a).length := by
 simp only [eN, List.length_append, List.length_replicate]; omega
theorem pL (n s : Int) : bV n s = (if n < 0 then [45] else []) ++ (if s > 0 then (eN n.natAbs s.toNat).take ((eN n.natAbs s.toNat).length - s.toNat) ++ [46] ++ (eN n.natAbs s.toNat).drop ((eN n.natAbs s.toNat).length - s.toNat) else eN n.natAbs s.toNat) := by
 unfold bV
 rw [aH7, aH8]
 by_cases h : s > 0
 rw [if_pos h, if_pos h]; simp
 rw [if_neg h, if_neg h, show s.toNat = 0 by omega, iB]; simp [l6]
theorem aDQ (l : List UInt8) (i j : Nat) : (S l).extract i j = S ((l.take j).drop i) := by
 have : ((S l).extract i j).data = (S ((l.take j).drop i)).data := by simp [S, ByteArray.data_extract, List.drop_take]
 cases h1 : (S l).extract i j; cases h2 : S ((l.take j).drop i); rw [h1, h2] at this; simpa using this
theorem vP (u : Nat) (h : u < 18446744073709551616) : SpG g 80 [.c (.d (.v (.int .u64 (u : Int)))), .c (cI 10)] [] (.c (cS (S (bD u)))) [] := by
 refine gO (args := [.int .u64 u, .int .i64 10]) rfl rfl rfl fun w hG => ?_
 refine (uE u h w (aJX hG)).mono ?_
 rintro e w' ⟨rfl, k, os, rfl⟩
 exact ⟨by rw [tS]; rfl, below_grow _ _ _⟩
theorem aG2 {n s : Int} {t : ByteArray} (hP : t = S (eN n.natAbs s.toNat)) (hs : s > 0) : ((t.extract 0 ((t.size : Int) - s : Int).toNat ++ S [46]) ++ t.extract ((t.size : Int) - s : Int).toNat t.size) = S ((eN n.natAbs s.toNat).take ((eN n.natAbs s.toNat).length - s.toNat) ++ [46] ++ (eN n.natAbs s.toNat).drop ((eN n.natAbs s.toNat).length - s.toNat)) := by
 subst hP
 have e : (((S (eN n.natAbs s.toNat)).size : Int) - s : Int).toNat = (eN n.natAbs s.toNat).length - s.toNat := by rw [aD]; omega
 rw [e, aD, aDQ, aDQ, aZ, aZ, List.drop_zero, List.take_of_length_le (Nat.le_refl _)]
theorem aI4 {n s : Int} {t : ByteArray} (hP : t = S (eN n.natAbs s.toNat)) (hs : s > 0) (hn : n < 0) : S [45] ++ ((t.extract 0 ((t.size : Int) - s : Int).toNat ++ S [46]) ++ t.extract ((t.size : Int) - s : Int).toNat t.size) = S (bV n s) := by
 rw [aG2 hP hs, aZ, pL, if_pos hn, if_pos hs]
theorem aI3 {n s : Int} {t : ByteArray} (hP : t = S (eN n.natAbs s.toNat)) (hs : s > 0) (hn : ¬ n < 0) : ((t.extract 0 ((t.size : Int) - s : Int).toNat ++ S [46]) ++ t.extract ((t.size : Int) - s : Int).toNat t.size) = S (bV n s) := by
 rw [aG2 hP hs, pL, if_neg hn, if_pos hs]; rfl
theorem aI2 {n s : Int} {t : ByteArray} (hP : t = S (eN n.natAbs s.toNat)) (hs : ¬ s > 0) (hn : n < 0) : S [45] ++ t = S (bV n s) := by
 rw [hP, aZ, pL, if_pos hn, if_neg hs]
theorem aI1 {n s : Int} {t : ByteArray} (hP : t = S (eN n.natAbs s.toNat)) (hs : ¬ s > 0) (hn : ¬ n < 0) : t = S (bV n s) := by
 rw [hP, pL, if_neg hn, if_neg hs]; rfl
theorem aCY (n s : Int) (h : dC n s = true) :
  SpG g 79 [.agg [cI n, cI s]] [] (.agg [cI n, cI s]) [] := by
 refine aF 7 Tryz.func79 (by kernel_rfl) fun fr hG => ?_
 refine zC hG [(1, 1, kB (dC n s))] [1, 0, 1] (dC n s) (⟨[zX 1 100 0, zX 2 101 0], [(100, .box 26 [cI n, cI s]), (101, .box 26 [cI 0, cI 0])]⟩) (aC (rP n s : SpG g _ _ _ _ _)) (fun hc1 => ?_) (fun hc1 => ?_)
 (try simp only [blS] at hc1)
 exact zr hG [] [] aA
 (try simp only [blS] at hc1)
 exact absurd (h.symm.trans hc1) (by decide)
theorem aJ5 {n : Int} (h0 : -1000000000000000 ≤ n) (h1 : n < 0) : IntKind.wrap .u64 (IntKind.wrap .i64 (0 - n)) = (n.natAbs : Int) := by
 rw [IntKind.wrap_i64, IntKind.wrap_u64]; omega
theorem aJ4 {n : Int} (h0 : n ≤ 1000000000000000) (h1 : ¬ n < 0) : IntKind.wrap .u64 n = (n.natAbs : Int) := by
 rw [IntKind.wrap_u64]; omega
theorem aFD (n : Int) (h0 : -1000000000000000 ≤ n) (h1 : n ≤ 1000000000000000) :
  SpG g 81 [.c (cI n)] [] (.c (.d (.v (.int .u64 (n.natAbs : Int))))) [] := by
 refine aF 10 Tryz.func81 (by kernel_rfl) fun fr hG => ?_
 refine zP hG [] [1, 0, 1] ((n : Int) < 0) (⟨[zI 0 n, (2, [], .c (.d (.v (.int .u64 0))))], []⟩) aA (fun hc1 => ?_) (fun hc1 => ?_)
 skip
 refine zR hG [] [] (.c (.d (.v (.int .u64 (IntKind.wrap .u64 (IntKind.wrap .i64 (0 - n))))))) [] aA ?_ ?_
 rw [aJ5 h0 (by omega)]
 rfl
 skip
 refine zR hG [] [] (.c (.d (.v (.int .u64 (IntKind.wrap .u64 n))))) [] aA ?_ ?_
 rw [aJ4 h1 (by omega)]
 rfl
theorem lB (n s : Int) (h : dC n s = true) :
  SpG g 46 [.agg [cI n, cI s]] [] (.c (cS (S (bV n s)))) [] := by
 obtain ⟨b0, b1, b2, b3, b4⟩ := fJ h
 have hl16 := gW (n := n.natAbs) (k := 16) (by omega) (by decide)
 have hl1 := l4 n.natAbs
 have hpl := aK4 n.natAbs s.toNat
 refine aF 44 Tryz.func46 (by kernel_rfl) fun fr hG => ?_
 refine zL hG [(1, 1, kC (.agg [cI n, cI s])), (2, 2, kC (.c (.d (.v (.int .u64 (n.natAbs : Int)))))), (2, 3, kS (S (bD n.natAbs)))] [0, 1, 0, 1, 1, 1] (fun (zz : Nat × ByteArray) => match zz with | (k, t) => (s.toNat + 1 - k, ⟨[zX 1 100 0, zS 2 (S []), zS 3 t, zI 16 ((s + 1) - ((S (bD n.natAbs)).size : Int)), zI 17 (k : Int)], [(100, .box 26 [cI n, cI s])]⟩, k ≤ s.toNat + 1 - (bD n.natAbs).length ∧ t = S (List.replicate k 48 ++ bD n.natAbs))) (0, S (bD n.natAbs)) (aB (aCY n s h : SpG g _ _ _ _ _) (aB (aFD n (by omega) (by omega) : SpG g _ _ _ _ _) (aB (vP n.natAbs (by omega) : SpG g _ _ _ _ _) (aB (by intros; (try simp only [lJ, ByteArray.size_append, ByteArray.size_extract] at *); omega : inR (s + 1)) (aC (by intros; (try simp only [lJ, ByteArray.size_append, ByteArray.size_extract] at *); omega : inR ((s + 1) - ((S (bD n.natAbs)).size : Int)))))))) ?_ ?_
 exact ⟨Nat.zero_le _, rfl⟩
 rintro ⟨k, t⟩ ⟨hk, ht⟩
 have hlt : t.size = k + (bD n.natAbs).length := by rw [ht, aD]; simp
 refine zc hG [] [0, 1] (decide (((k : Int) : Int) < ((s + 1) - ((S (bD n.natAbs)).size : Int)))) aA (fun hc2 => ?_) (fun hc2 => ?_)
 (try simp only [eW] at hc2)
 refine zD hG [] (k + 1, S [48] ++ t) (aB (by intros; (try simp only [lJ, ByteArray.size_append, ByteArray.size_extract] at *); omega : (S [48]).size + (t).size ≤ maxLen) (aC (by intros; (try simp only [lJ, ByteArray.size_append, ByteArray.size_extract] at *); omega : inR ((k : Int) + 1)))) ?_ ?_
 (try dsimp only); omega
 refine ⟨by omega, ?_⟩
 rw [ht, aZ, List.replicate_succ]; rfl
 (try simp only [eW] at hc2)
 have hP : t = S (eN n.natAbs s.toNat) := by
  rw [ht, eN, show s.toNat + 1 - (bD n.natAbs).length = k by omega]
 have hps : t.size = (eN n.natAbs s.toNat).length := by rw [hP, aD]
 clear hlt ht
 refine zE hG [] (.exit 0) (⟨[zX 1 100 0, zS 2 (S []), zS 3 t], [(100, .box 26 [cI n, cI s])]⟩) aA rfl ?_
 refine zc hG [] [1, 0, 1, 1, 1, 1] (decide ((s : Int) > 0)) aA (fun hc3 => ?_) (fun hc3 => ?_)
 (try simp only [eW] at hc3)
 refine zC hG [] [1, 0, 1, 1, 1, 1, 1] (decide ((n : Int) < 0)) (⟨[zS 2 (S []), zS 3 ((((t).extract 0 (((t).size : Int) - s : Int).toNat) ++ (S [46])) ++ ((t).extract (((t).size : Int) - s : Int).toNat (t).size))], []⟩) (aB (by intros; (try simp only [lJ, ByteArray.size_append, ByteArray.size_extract] at *); omega : inR (((t).size : Int) - s)) (aB (by intros; (try simp only [lJ, ByteArray.size_append, ByteArray.size_extract] at *); omega : (0 : Int) ≤ 0 ∧ (0 : Int) ≤ (((t).size : Int) - s) ∧ (((t).size : Int) - s) ≤ ((t).size : Int)) (aB (by intros; (try simp only [lJ, ByteArray.size_append, ByteArray.size_extract] at *); omega : ((t).extract 0 (((t).size : Int) - s : Int).toNat).size + (S [46]).size ≤ maxLen) (aB (by intros; (try simp only [lJ, ByteArray.size_append, ByteArray.size_extract] at *); omega : (0 : Int) ≤ (((t).size : Int) - s) ∧ (((t).size : Int) - s : Int) ≤ ((t).size : Int) ∧ ((t).size : Int) ≤ ((t).size : Int)) (aC (by intros; (try simp only [lJ, ByteArray.size_append, ByteArray.size_extract] at *); omega : (((t).extract 0 (((t).size : Int) - s : Int).toNat) ++ (S [46])).size + ((t).extract (((t).size : Int) - s : Int).toNat (t).size).size ≤ maxLen)))))) (fun hc4 => ?_) (fun hc4 => ?_)
 (try simp only [eW] at hc4)
 refine zR hG [] [] (.c (cS ((S [45]) ++ ((((t).extract 0 (((t).size : Int) - s : Int).toNat) ++ (S [46])) ++ ((t).extract (((t).size : Int) - s : Int).toNat (t).size))))) [] (aC (by intros; (try simp only [lJ, ByteArray.size_append, ByteArray.size_extract] at *); omega : (S [45]).size + ((((t).extract 0 (((t).size : Int) - s : Int).toNat) ++ (S [46])) ++ ((t).extract (((t).size : Int) - s : Int).toNat (t).size)).size ≤ maxLen)) ?_ ?_
 rw [aI4 hP (by omega) (by omega)]
 rfl
 (try simp only [eW] at hc4)
 refine zR hG [] [] (.c (cS ((((t).extract 0 (((t).size : Int) - s : Int).toNat) ++ (S [46])) ++ ((t).extract (((t).size : Int) - s : Int).toNat (t).size)))) [] aA ?_ ?_
 rw [aI3 hP (by omega) (by omega)]
 rfl
 (try simp only [eW] at hc3)
 refine zC hG [] [1, 0, 1, 1, 1, 1, 1] (decide ((n : Int) < 0)) (⟨[zS 2 (S []), zS 3 t], []⟩) aA (fun hc5 => ?_) (fun hc5 => ?_)
 (try simp only [eW] at hc5)
 refine zR hG [] [] (.c (cS ((S [45]) ++ t))) [] (aC (by intros; (try simp only [lJ, ByteArray.size_append, ByteArray.size_extract] at *); omega : (S [45]).size + (t).size ≤ maxLen)) ?_ ?_
 rw [aI2 hP (by omega) (by omega)]
 rfl
 (try simp only [eW] at hc5)
 refine zR hG [] [] (.c (cS t)) [] aA ?_ ?_
 rw [aI1 hP (by omega) (by omega)]
 rfl
end Go.Proofs.YtmpgfchkkemngaaGreatDoor
namespace Go.Proofs.YtmpgfchkkemngaaGreatDoor
open Go.RowKit Go.V
open Go.Eng (inR byteAt u8 bH)
theorem uA {l : List UInt8} (h : l.all f6 = true) (hl : l.length ≤ 200) : eU l = true := by
 have e : bs (S l) = l := by simp [bs, S]
 simp only [sJ, eU, iD, Bool.and_eq_true, e]
 exact ⟨h, by omega⟩
theorem aH9 (l : List Int) (k : Int) : f6 (u8 (32 + nxV l k 95)) = true := by
 have := dH l k (n := 95) (by decide)
 simp only [f6, u8, Bool.and_eq_true, decide_eq_true_eq, UInt8.toNat_ofNat']
 omega
theorem aNJ (l : List Int) : ∀ (n : Nat) (k : Int), (chM l n k).1.all f6 = true
 | 0, k => rfl
 | n + 1, k => by simp only [chM, List.all_cons, aH9, aNJ l n, Bool.and_true]
theorem aHF : ∀ i, i < 15 → (wordsL.getD i []).all f6 = true ∧ (wordsL.getD i []).length ≤ 200 := by decide
theorem aAU (l : List Int) (k : Int) : eU (txM l k).1 = true := by
 unfold txM; split
 have := dH l k (n := 18) (by decide)
 have h := aHF (nxV l k 18).toNat (by omega)
 exact uA h.1 h.2
 exact uA (aNJ l _ _) (by rw [aNI]; have := txN_bd l k; omega)
theorem gK (neg : Bool) (m : Nat) (s : Int) : dC (eB neg m s) (eA m s) = true := by
 unfold eB eA
 cases hb : eJ m s with
 | false => simp [dC]
 | true =>
  have h := hb
  simp only [eJ, decide_eq_true_eq] at h
  have ho := aCR s.toNat m
  generalize (fX m s.toNat).1 = a at *
  generalize (fX m s.toNat).2 = b at *
  have ht : ((a : Int).tmod 10 = ((a % 10 : Nat) : Int)) := by rw [Int.tmod_eq_emod_of_nonneg (by omega)]; omega
  have hn : ((-(a : Int)).tmod 10 = -((a % 10 : Nat) : Int)) := by rw [Int.neg_tmod, ht]
  cases neg
  simp only [if_true, if_false, Bool.false_eq_true, dC, ht, Bool.and_eq_true, Bool.or_eq_true, decide_eq_true_eq]; omega
  simp only [if_true, dC, hn, Bool.and_eq_true, Bool.or_eq_true, decide_eq_true_eq]; omega
theorem aNA (l : List Int) (k : Int) : dC (dcM l k).1 (dcM l k).2.1 = true := gK _ _ _
structure Cl.good (c : Cl) : Prop where
 kind : ¬ c.kind = 5
 right : aV false c.toV = true
 len : c.s.length ≤ 200
theorem Cl.z_good : Cl.z.good := ⟨by decide, by decide, by decide⟩
theorem aKF (n : Int) (h0 : 0 ≤ n) (h1 : n ≤ 3652058) : aV false ⟨3, [], 0, 0, n, [], []⟩ = true := by simp [aV, cE, h0, h1]
theorem right4 (n : Int) (h0 : 0 ≤ n) (h1 : n < 2) : aV false ⟨4, [], 0, 0, n, [], []⟩ = true := by
 have : n = 0 ∨ n = 1 := by omega
 rcases this with rfl | rfl <;> decide
theorem right0 (n : Int) (h0 : 0 ≤ n) (h1 : n ≤ 99) : aV false ⟨0, [], 0, 0, n, [], []⟩ = true := by simp [aV, cE, h0, h1]
theorem aG4 (l : List Int) (k kind : Int) : (cvM l k kind).1.good := by
 unfold cvM
 split
 exact ⟨by simp, by simp [aV, Cl.toV, cE, aAU], l9 (aAU l k)⟩
 split
 exact ⟨by simp, by simp [aV, Cl.toV, cE, aNA], by simp⟩
 split
 have h1 := dH l k (n := 1000) (by decide)
 have h2 := dH l (nxK l (nxK l k 1000) 8) (n := 3652059) (by decide)
 split
 exact ⟨by simp, aKF _ (by dsimp only; omega) (by dsimp only; omega), by simp⟩
 exact ⟨by simp, aKF _ (by dsimp only; omega) (by dsimp only; omega), by simp⟩
 split
 have h1 := dH l k (n := 2) (by decide)
 exact ⟨by simp, right4 _ (by dsimp only; omega) (by dsimp only; omega), by simp⟩
 have h1 := dH l k (n := 100) (by decide)
 exact ⟨by simp, right0 _ (by dsimp only; omega) (by dsimp only; omega), by simp⟩
theorem ce_good (l : List Int) (kind k : Int) : (ceM l kind k).1.good := by
 unfold ceM; split
 exact Cl.z_good
 exact aG4 _ _ _
theorem aL0 (l : List Int) : ∀ (n : Nat) (k : Int), (kdM l n k).1.length = n
 | 0, k => rfl
 | n + 1, k => by simp [kdM, aL0 l n]
theorem aJ7 (l : List Int) : ∀ (r : List Int) (k : Int), (rwM l r k).1.length = r.length
 | [], k => rfl
 | x :: r, k => by simp [rwM, aJ7 l r]
theorem aF5 (l : List Int) : ∀ (r : List Int) (k : Int), ∀ c, c ∈ (rwM l r k).1 → c.good
 | [], k, c, h => by cases h
 | x :: r, k, c, h => by
  simp only [rwM, List.mem_cons] at h
  rcases h with rfl | h
  exact ce_good _ _ _
  exact aF5 l r _ c h
theorem aKA (l kds : List Int) : ∀ (n : Nat) (k : Int), (rsM l kds n k).1.length = n
 | 0, k => rfl
 | n + 1, k => by simp [rsM, aKA l kds n]
theorem aF6 (l kds : List Int) : ∀ (n : Nat) (k : Int), ∀ r, r ∈ (rsM l kds n k).1 → r.length = kds.length ∧ ∀ c, c ∈ r → c.good
 | 0, k, r, h => by cases h
 | n + 1, k, r, h => by
  simp only [rsM, List.mem_cons] at h
  rcases h with rfl | h
  exact ⟨aJ7 l kds k, aF5 l kds k⟩
  exact aF6 l kds n _ r h
theorem aIG : ∀ n, n < 4 → mN (abcL.take n).length (nameAt (abcL.take n)) = true := by decide
theorem aAZ {cols : List (List UInt8)} {rows : List (List Cl)} (h1 : cols.length ≤ 8) (h2 : rows.length ≤ 100) (hn : mN cols.length (nameAt cols) = true) (hr : ∀ r, r ∈ rows → r.length = cols.length ∧ ∀ c, c ∈ r → ¬ c.kind = 5 ∧ aV false c.toV = true) : cQ cols rows = true := by
 refine pX ⟨by omega, by omega⟩ (fun j hj => g0 hn hj) fun j hj => ?_
 obtain ⟨a, b⟩ := hr _ (bW (z := []) hj)
 simp only [rowAt, a, decide_true, Bool.true_and]
 refine gN fun i hi => ?_
 have := b _ (bW (z := Cl.z) (a ▸ hi))
 simp only [cellAt, this.1, this.2, decide_false, Bool.not_false, Bool.and_true]
theorem tb_good (l : List Int) (k : Int) : aX (tbM l k).1 = true ∧ ∀ r, r ∈ (tbM l k).1.rows → ∀ c, c ∈ r → c.good := by
 have h1 := dH l k (n := 4) (by decide)
 have h2 := dH l (tbK l k).2 (n := 5) (by decide)
 have hl : (tbR l k).1.length = (nxV l (tbK l k).2 5).toNat := aKA _ _ _ _
 have hg : ∀ r, r ∈ (tbR l k).1 → r.length = (abcL.take (nxV l k 4).toNat).length ∧ ∀ c, c ∈ r → c.good := fun r hr => by
  obtain ⟨a, b⟩ := aF6 _ _ _ _ r hr
  refine ⟨?_, b⟩
  rw [a, tbK, aL0, List.length_take]
  have : abcL.length = 3 := rfl
  omega
 refine ⟨?_, fun r hr c hc => (hg r hr).2 c hc⟩
 have ht : cQ (abcL.take (nxV l k 4).toNat) (tbR l k).1 = true := by
  refine aAZ ?_ ?_ (aIG _ (by omega)) fun r hr => ⟨(hg r hr).1, fun c hc => ⟨((hg r hr).2 c hc).kind, ((hg r hr).2 c hc).right⟩⟩
  rw [List.length_take]; have : abcL.length = 3 := rfl; omega
  rw [hl]; omega
 simp [aX, aV, tbM, ht, cE]
theorem aFQ (l : List Int) (k kind : Int) : aX (vlM l k kind).1 = true ∧ (vlM l k kind).1.fit := by
 unfold vlM; split
 obtain ⟨a, b⟩ := tb_good l k
 refine ⟨a, ⟨?_, ?_, ?_⟩⟩
 simp [tbM]
 intro t ht
 have : ∀ t, t ∈ abcL → t.length ≤ 1 := by decide
 have := this t (List.mem_of_mem_take ht)
 unfold maxLen; omega
 intro r hr c hc
 have := (b r hr c hc).len
 unfold maxLen; omega
 have h := aG4 l k kind
 refine ⟨?_, ?_, ?_, ?_⟩
 have : (cvM l k kind).1.toV.kind = (cvM l k kind).1.kind := rfl
 have e : aX (cvM l k kind).1.toV = aV false (cvM l k kind).1.toV := by
  simp only [aX, aV, this, if_neg h.kind]
 rw [e]; exact h.right
 have : (cvM l k kind).1.toV.s = (cvM l k kind).1.s := rfl
 rw [this]; have := h.len; unfold maxLen; omega
 intro t ht; cases ht
 intro t ht; cases ht
theorem kW (l : List Int) : aX (aM l) = true := (aFQ _ _ _).1
theorem aCA (l : List Int) : (aM l).fit := (aFQ _ _ _).2
end Go.Proofs.YtmpgfchkkemngaaGreatDoor
namespace Go.Proofs.YtmpgfchkkemngaaGreatDoor
open Go.RowKit Go.V
open Go.Eng (inR byteAt u8 bH)
def cV (l : List UInt8) : Nat := l.foldl (fun a c => 10 * a + (c.toNat - 48)) 0
def bA (c : UInt8) : Bool := decide (48 ≤ c.toNat) && decide (c.toNat ≤ 57)
theorem j6 (l : List UInt8) (c : UInt8) : cV (l ++ [c]) = 10 * cV l + (c.toNat - 48) := by simp [cV]
theorem aJU {k : Nat} (h : k < 10) : (u8 (48 + (k : Int))).toNat = 48 + k := by
 have : ((48 + (k : Int)) % 256).toNat = 48 + k := by omega
 rw [u8, this, UInt8.toNat_ofNat']; omega
theorem tT : ∀ n : Nat, cV (jZ n) = n ∧ (jZ n).all bA = true := by
 intro n
 induction n using Nat.strongRecOn with
 | ind n ih =>
  by_cases h : n = 0
  subst h; rw [fF]; exact ⟨rfl, rfl⟩
  obtain ⟨h1, h2⟩ := ih (n / 10) (by omega)
  have hd := aJU (k := n % 10) (by omega)
  rw [f7 h, j6, h1, hd]
  refine ⟨by omega, ?_⟩
  rw [List.all_append, h2]
  simp only [List.all_cons, List.all_nil, bA, hd, Bool.and_true, Bool.true_and, Bool.and_eq_true, decide_eq_true_eq]; omega
theorem dS (n : Nat) : cV (bD n) = n ∧ (bD n).all bA = true := by
 unfold bD
 split
 rename_i h; subst h; exact ⟨rfl, rfl⟩
 exact tT n
theorem natT_ne (n : Nat) : bD n ≠ [] := fun h => by have := l4 n; rw [h] at this; simp at this
theorem oF (l : List UInt8) : ∀ k : Nat, cV (List.replicate k 48 ++ l) = cV l
 | 0 => rfl
 | k + 1 => by
  have ih := oF l k
  rw [List.replicate_succ, List.cons_append]
  unfold cV at ih ⊢
  rw [List.foldl_cons]
  exact ih
theorem vS (k : Nat) : (List.replicate k (48 : UInt8)).all bA = true := by
 rw [List.all_eq_true]; intro x hx; rw [(List.mem_replicate.1 hx).2]; rfl
theorem jX (a s : Nat) : cV (eN a s) = a ∧ (eN a s).all bA = true := by
 unfold eN
 rw [oF, List.all_append, (dS a).2, vS]
 exact ⟨(dS a).1, rfl⟩
theorem dI {x k : Int} (h0 : 0 ≤ x) (h1 : x ≤ 99999) (hk : k ≤ 5) : cV (dB 5 x k []) = x.toNat ∧ (dB 5 x k []).all bA = true := by
 rw [pK 5 x k [] h0 (by omega) (by omega), List.append_nil, oF, List.all_append, vS, (tT _).2]
 exact ⟨(tT _).1, rfl⟩
theorem fI {x k : Int} (h0 : 0 ≤ x) (h : (k = 2 ∧ x < 100) ∨ (k = 4 ∧ x < 10000)) : (dB 5 x k []).length = k.toNat := by
 rw [pK 5 x k [] h0 (by omega) (by omega), List.append_nil, List.length_append, List.length_replicate]
 have : (jZ x.toNat).length ≤ k.toNat := by
  rcases h with ⟨rfl, h⟩ | ⟨rfl, h⟩
  exact o7 (k := 2) (by omega)
  exact o7 (k := 4) (by omega)
 omega
theorem jL {α : Type} {p : α → Bool} {l r : List α} (h : l.all p = true) (hr : r = [] ∨ ∃ x t, r = x :: t ∧ p x = false) : (l ++ r).takeWhile p = l ∧ (l ++ r).dropWhile p = r := by
 induction l with
 | nil =>
  rcases hr with rfl | ⟨x, t, rfl, hx⟩
  simp
  simp [List.takeWhile_cons, List.dropWhile_cons, hx]
 | cons y l ih =>
  simp only [List.all_cons, Bool.and_eq_true] at h
  obtain ⟨h1, h2⟩ := ih h.2
  simp [List.takeWhile_cons, List.dropWhile_cons, h.1, h1, h2]
def mO (a s : Nat) : List UInt8 := bD (a / 10 ^ s) ++ (if s = 0 then [] else 46 :: l6 s a)
theorem aCB (a s : Nat) : (l6 s a).all bA = true := by
 have h := (jX a s).2
 rw [iB, List.all_append, Bool.and_eq_true] at h
 exact h.2
theorem vD (a s : Nat) : (mO a s).takeWhile bA = bD (a / 10 ^ s) ∧ ((mO a s).dropWhile bA).drop 1 = l6 s a := by
 unfold mO
 by_cases h : s = 0
 rw [if_pos h]
 obtain ⟨h1, h2⟩ := jL (dS (a / 10 ^ s)).2 (.inl rfl)
 rw [h1, h2]; subst h; exact ⟨rfl, rfl⟩
 rw [if_neg h]
 obtain ⟨h1, h2⟩ := jL (r := 46 :: l6 s a) (dS (a / 10 ^ s)).2 (.inr ⟨46, _, rfl, rfl⟩)
 rw [h1, h2]; exact ⟨rfl, rfl⟩
theorem j8 {n s : Int} (h : 0 ≤ s) : bV n s = (if n < 0 then [45] else []) ++ mO n.natAbs s.toNat := by
 unfold bV mO
 by_cases h0 : s > 0
 rw [if_pos h0, if_neg (show ¬ s.toNat = 0 by omega), tR]; simp
 rw [if_neg h0, if_pos (show s.toNat = 0 by omega)]; simp
theorem xS (a s : Nat) : ∃ c t, mO a s = c :: t ∧ bA c = true := by
 unfold mO
 cases h : bD (a / 10 ^ s) with
 | nil => exact absurd h (natT_ne _)
 | cons c t =>
  have := (dS (a / 10 ^ s)).2
  rw [h, List.all_cons, Bool.and_eq_true] at this
  exact ⟨c, _, rfl, this.1⟩
def aJK (l : List UInt8) : Nat × Nat := (cV (l.takeWhile bA ++ (l.dropWhile bA).drop 1), ((l.dropWhile bA).drop 1).length)
theorem aHE (a s : Nat) : aJK (mO a s) = (a, s) := by
 unfold aJK
 rw [(vD a s).1, (vD a s).2, ← iB, (jX a s).1, gX]
def mH (l : List UInt8) : Int × Int := match l with
 | [] => (0, 0)
 | c :: t => if c = 45 then (-((aJK t).1 : Int), ((aJK t).2 : Int)) else (((aJK (c :: t)).1 : Int), ((aJK (c :: t)).2 : Int))
theorem aC0 {n s : Int} (h : 0 ≤ s) : mH (bV n s) = (n, s) := by
 rw [j8 h]
 by_cases hn : n < 0
 rw [if_pos hn]
 simp only [List.singleton_append, mH, if_true, aHE]
 ext <;> simp <;> omega
 rw [if_neg hn, List.nil_append]
 obtain ⟨c, t, hc, hd⟩ := xS n.natAbs s.toNat
 have hc45 : ¬ c = 45 := by rintro rfl; simp [bA] at hd
 rw [hc]
 simp only [mH, if_neg hc45]
 rw [← hc, aHE]
 ext <;> simp <;> omega
def oK (l : List UInt8) : Int := eR (cV (l.take 4)) (cV ((l.drop 5).take 2)) (cV (l.drop 8))
theorem xH {n : Int} (h0 : 0 ≤ n) (h1 : n ≤ 3652058) : oK (aS n) = n := by
 obtain ⟨a, b, c, d, e, f⟩ := oM h0 h1
 have ly := fI (x := (civ n).1) (k := 4) (by omega) (.inr ⟨rfl, by omega⟩)
 have lm := fI (x := (civ n).2.1) (k := 2) (by omega) (.inl ⟨rfl, by omega⟩)
 have ld := fI (x := (civ n).2.2) (k := 2) (by omega) (.inl ⟨rfl, by omega⟩)
 have vy := (dI (x := (civ n).1) (k := 4) (by omega) (by omega) (by decide)).1
 have vm := (dI (x := (civ n).2.1) (k := 2) (by omega) (by omega) (by decide)).1
 have vd := (dI (x := (civ n).2.2) (k := 2) (by omega) (by omega) (by decide)).1
 have hT : aS n = dB 5 (civ n).1 4 [] ++ [45] ++ dB 5 (civ n).2.1 2 [] ++ [45] ++ dB 5 (civ n).2.2 2 [] := rfl
 generalize dB 5 (civ n).1 4 [] = Y at *
 generalize dB 5 (civ n).2.1 2 [] = M at *
 generalize dB 5 (civ n).2.2 2 [] = X at *
 unfold oK
 have e1 : (aS n).take 4 = Y := by rw [hT]; simp [List.take_append, ly]
 have e2 : ((aS n).drop 5).take 2 = M := by rw [hT]; simp [List.drop_append, List.take_append, ly, lm]
 have e3 : (aS n).drop 8 = X := by
  have l1 : Y.length = 4 := ly
  have l2 : M.length = 2 := lm
  rw [hT, List.drop_left' (by simp [l1, l2])]
 rw [e1, e2, e3, vy, vm, vd]
 have s := (kA h0 h1).2
 have q1 : (((civ n).1.toNat : Nat) : Int) = (civ n).1 := by omega
 have q2 : (((civ n).2.1.toNat : Nat) : Int) = (civ n).2.1 := by omega
 have q3 : (((civ n).2.2.toNat : Nat) : Int) = (civ n).2.2 := by omega
 rw [q1, q2, q3]; exact s
def aL (c : UInt8) : Bool := !(c == 44 || c == 59 || c == 93 || c == 124)
theorem gY {c : UInt8} (h : bA c = true) : aL c = true := by
 simp only [bA, Bool.and_eq_true, decide_eq_true_eq] at h
 simp only [aL, Bool.not_eq_true', Bool.or_eq_false_iff, beq_eq_false_iff_ne, ne_eq]
 refine ⟨⟨⟨?_, ?_⟩, ?_⟩, ?_⟩ <;> rintro rfl <;> simp at h
theorem dW {p q : UInt8 → Bool} (h : ∀ c, p c = true → q c = true) {l : List UInt8} (hl : l.all p = true) : l.all q = true := by
 rw [List.all_eq_true] at hl ⊢; exact fun c hc => h c (hl c hc)
theorem xE {n s : Int} (h : 0 ≤ s) : (bV n s).all aL = true := by
 rw [j8 h, mO]
 have h1 := dW (fun c => gY) (dS (n.natAbs / 10 ^ s.toNat)).2
 have h2 := dW (fun c => gY) (aCB n.natAbs s.toNat)
 have h45 : aL 45 = true := by decide
 have h46 : aL 46 = true := by decide
 split <;> split <;> simp [List.all_append, h1, h2, h45, h46]
theorem nU {n : Int} (h0 : 0 ≤ n) (h1 : n ≤ 3652058) : (aS n).all aL = true := by
 obtain ⟨a, b, c, d, e, f⟩ := oM h0 h1
 have vy := dW (fun c => gY) (dI (x := (civ n).1) (k := 4) (by omega) (by omega) (by decide)).2
 have vm := dW (fun c => gY) (dI (x := (civ n).2.1) (k := 2) (by omega) (by omega) (by decide)).2
 have vd := dW (fun c => gY) (dI (x := (civ n).2.2) (k := 2) (by omega) (by omega) (by decide)).2
 have h45 : aL 45 = true := by decide
 unfold aS
 simp [List.all_append, vy, vm, vd, h45]
theorem pM {n : Int} (h0 : 0 ≤ n) (h1 : n ≤ 99) : dec2 n = bD n.toNat := by
 have : ∀ k : Nat, k < 100 → dec2 (k : Int) = bD k := by
  intro k hk
  have h := aM6 (i := k) hk
  rw [← h, tS]
 have h := this n.toNat (by omega)
 rw [← h]; congr 1; omega
def kE (r : List UInt8) : Prop := r = [] ∨ ∃ x t, r = x :: t ∧ aL x = false
theorem fC {w r : List UInt8} (h : w.all aL = true) (hr : kE r) : (w ++ r).takeWhile aL = w ∧ (w ++ r).dropWhile aL = r := jL h hr
def unq : List UInt8 → List UInt8 × List UInt8
 | [] => ([], [])
 | c :: t => if c = 39 then (match t with
   | [] => ([], [])
   | d :: u => if d = 39 then (39 :: (unq u).1, (unq u).2) else ([], d :: u))
  else (c :: (unq t).1, (unq t).2)
theorem aJT {c : UInt8} {t : List UInt8} (h : ¬ c = 39) : unq (c :: t) = (c :: (unq t).1, (unq t).2) := by
 rw [unq.eq_def]; simp [h]
theorem aJS {r : List UInt8} (hr : kE r) : ∀ s : List UInt8, unq (bU s ++ 39 :: r) = (s, r)
 | [] => by
  rw [show bU [] = [] from rfl, List.nil_append]
  rcases hr with rfl | ⟨x, t, rfl, hx⟩
  simp [unq]
  have : ¬ x = 39 := by rintro rfl; simp [aL] at hx
  simp [unq, this]
 | c :: s => by
  have ih := aJS hr s
  have e : bU (c :: s) = mE c ++ bU s := by simp [bU]
  rw [e, mE]
  by_cases h : c = 39
  subst h
  rw [if_pos rfl]
  simp [unq, ih]
  rw [if_neg h]
  rw [List.singleton_append, List.cons_append, aJT h, ih]
def clP : List UInt8 → Cl × List UInt8
 | [] => (Cl.z, [])
 | x :: t => if x = 39 then (⟨1, (unq t).1, 0, 0, 0⟩, (unq t).2)
  else (if x = 33 then ⟨0, [], 0, 0, cV (t.takeWhile aL)⟩ else if x = 35 then ⟨2, [], (mH (t.takeWhile aL)).1, (mH (t.takeWhile aL)).2, 0⟩ else if x = 64 then ⟨3, [], 0, 0, oK (t.takeWhile aL)⟩ else ⟨4, [], 0, 0, cV (t.takeWhile aL)⟩, t.dropWhile aL)
theorem eG {T : Bool} {v : Vl} (h : aV T v = true) : (¬ v.kind = 1 → v.s = []) ∧ (¬ v.kind = 2 → v.dn = 0 ∧ v.ds = 0) ∧ (v.kind = 1 ∨ v.kind = 2 ∨ v.kind = 5 → v.n = 0) ∧ (¬ v.kind = 5 → v.cols = [] ∧ v.rows = []) ∧ 0 ≤ v.kind ∧ v.kind ≤ 5 ∧ (v.kind = 0 → 0 ≤ v.n ∧ v.n ≤ 99) ∧ (v.kind = 2 → dC v.dn v.ds = true) ∧ (v.kind = 3 → 0 ≤ v.n ∧ v.n ≤ 3652058) ∧ (v.kind = 4 → v.n = 0 ∨ v.n = 1) ∧ (v.kind = 5 → T = true) := by
 unfold aV cE at h
 obtain ⟨k, s, dn, ds, n, cols, rows⟩ := v
 by_cases h0 : k = 0
 subst h0; simp at h; simp_all
 by_cases h1 : k = 1
 subst h1; simp at h; simp_all
 by_cases h2 : k = 2
 subst h2; simp at h; simp_all
 by_cases h3 : k = 3
 subst h3; simp at h; simp_all
 by_cases h4 : k = 4
 subst h4; simp at h; simp_all
 by_cases h5 : k = 5
 subst h5; simp at h; simp_all
 simp [h0, h1, h2, h3, h4, h5] at h
theorem clP_of {c : Cl} (hk : ¬ c.kind = 5) (h : aV false c.toV = true) {r : List UInt8} (hr : kE r) : clP (bC c ++ r) = (c, r) := by
 obtain ⟨a1, a2, a3, _, a5, a6, a7, a8, a9, a10, _⟩ := eG h
 obtain ⟨k, s, dn, ds, n⟩ := c
 simp only [Cl.toV] at *
 unfold bC gC
 simp only
 have hk : k = 0 ∨ k = 1 ∨ k = 2 ∨ k = 3 ∨ k = 4 := by omega
 rcases hk with rfl | rfl | rfl | rfl | rfl
 have hn := a7 rfl
 have hw := fC (dW (fun c => gY) (dS n.toNat).2) hr
 simp only [if_true, List.cons_append, clP, show ¬ (33 : UInt8) = 39 by decide, if_false, pM hn.1 hn.2, hw.1, hw.2, (dS n.toNat).1]
 have := a1 (by decide); have := a2 (by decide)
 simp_all; omega
 have e : n6 s ++ r = 39 :: (bU s ++ 39 :: r) := by simp [n6]
 simp only [show ¬ (1 : Int) = 0 by decide, if_false, if_true, e, clP, aJS hr]
 have := a2 (by decide); have := a3 (by decide)
 simp_all
 have hd := fJ (a8 rfl)
 have hw := fC (xE (n := dn) hd.1) hr
 simp only [show ¬ (2 : Int) = 0 by decide, show ¬ (2 : Int) = 1 by decide, if_false, if_true, List.cons_append, clP, show ¬ (35 : UInt8) = 39 by decide, show ¬ (35 : UInt8) = 33 by decide, hw.1, hw.2, aC0 hd.1]
 have := a1 (by decide); have := a3 (by decide)
 simp_all
 have hn := a9 rfl
 have hw := fC (nU hn.1 hn.2) hr
 simp only [show ¬ (3 : Int) = 0 by decide, show ¬ (3 : Int) = 1 by decide, show ¬ (3 : Int) = 2 by decide, if_false, if_true, List.cons_append, clP, show ¬ (64 : UInt8) = 39 by decide, show ¬ (64 : UInt8) = 33 by decide, show ¬ (64 : UInt8) = 35 by decide, hw.1, hw.2, xH hn.1 hn.2]
 have := a1 (by decide); have := a2 (by decide)
 simp_all
 have hn := a10 rfl
 have hw := fC (dW (fun c => gY) (dS n.toNat).2) hr
 simp only [show ¬ (4 : Int) = 0 by decide, show ¬ (4 : Int) = 1 by decide, show ¬ (4 : Int) = 2 by decide, show ¬ (4 : Int) = 3 by decide, if_false, List.cons_append, clP, show ¬ (63 : UInt8) = 39 by decide, show ¬ (63 : UInt8) = 33 by decide, show ¬ (63 : UInt8) = 35 by decide, show ¬ (63 : UInt8) = 64 by decide, pM (n := n) (by omega) (by omega), hw.1, hw.2, (dS n.toNat).1]
 have := a1 (by decide); have := a2 (by decide)
 simp_all; omega
def vR (c : Cl) : Prop := ¬ c.kind = 5 ∧ aV false c.toV = true
theorem k7 {x : UInt8} {t : List UInt8} (h : aL x = false) : kE (x :: t) := .inr ⟨x, t, rfl, h⟩
theorem oC {l : List UInt8} (h : bZ l = true) : l.all aL = true ∧ ∃ c t, l = c :: t ∧ aL c = true := by
 have e : bs (S l) = l := by simp [bs, S]
 simp only [sJ, bZ, dK, Bool.and_eq_true, e] at h
 have ha : l.all aL = true := by
  rw [List.all_eq_true] at h ⊢
  intro c hc
  have hh := h.2 c hc
  simp only [aL, Bool.not_eq_true', Bool.or_eq_false_iff, beq_eq_false_iff_ne, ne_eq]
  refine ⟨⟨⟨?_, ?_⟩, ?_⟩, ?_⟩ <;> rintro rfl <;> revert hh <;> decide
 refine ⟨ha, ?_⟩
 cases l with
 | nil => simp at h
 | cons c t => simp only [List.all_cons, Bool.and_eq_true] at ha; exact ⟨c, t, rfl, ha.1⟩
def EndsT (r : List UInt8) : Prop := ∃ x t, r = x :: t ∧ (x = 59 ∨ x = 93)
theorem EndsT.w {r : List UInt8} (h : EndsT r) : kE r := by
 obtain ⟨x, t, rfl, h | h⟩ := h <;> subst h <;> exact k7 rfl
theorem qZ {cols : List (List UInt8)} {rows : List (List Cl)} (h : cQ cols rows = true) : (∀ x, x ∈ cols → bZ x = true) ∧ ∀ r, r ∈ rows → r.length = cols.length ∧ ∀ c, c ∈ r → vR c := by
 simp only [cQ, Bool.and_eq_true] at h
 refine ⟨fun x hx => ?_, fun r hr => ?_⟩
 obtain ⟨i, hi, rfl⟩ := List.mem_iff_getElem.1 hx
 have h1 := g0 h.1.2 hi
 simp only [nameAt, Bool.and_eq_true] at h1
 have : cols.getD i [] = cols[i] := by simp [hi]
 rw [this] at h1; exact h1.1
 obtain ⟨i, hi, rfl⟩ := List.mem_iff_getElem.1 hr
 have h1 := g0 h.2 hi
 have e : rows.getD i [] = rows[i] := by simp [hi]
 simp only [rowAt, Bool.and_eq_true, decide_eq_true_eq, e] at h1
 refine ⟨h1.1, fun c hc => ?_⟩
 obtain ⟨j, hj, rfl⟩ := List.mem_iff_getElem.1 hc
 have h2 := g0 h1.2 hj
 have e2 : rows[i].getD j Cl.z = rows[i][j] := by simp [hj]
 simp only [cellAt, Bool.and_eq_true, Bool.not_eq_true', decide_eq_false_iff_not, e2] at h2
 exact h2
def Vl.cl (v : Vl) : Cl := ⟨v.kind, v.s, v.dn, v.ds, v.n⟩
theorem o3 {v : Vl} (hk : ¬ v.kind = 5) (h : aX v = true) : v.cl.toV = v ∧ vR v.cl ∧ cO v = bC v.cl := by
 obtain ⟨_, _, _, a4, _⟩ := eG h
 obtain ⟨k, s, dn, ds, n, cols, rows⟩ := v
 obtain ⟨rfl, rfl⟩ := a4 hk
 simp only at hk
 refine ⟨rfl, ⟨hk, ?_⟩, ?_⟩
 have : aV (cQ [] []) (⟨k, s, dn, ds, n, [], []⟩ : Vl) = aV false ⟨k, s, dn, ds, n, [], []⟩ := by simp [aV, hk]
 rw [show (Vl.cl ⟨k, s, dn, ds, n, [], []⟩).toV = (⟨k, s, dn, ds, n, [], []⟩ : Vl) from rfl, ← this]
 exact h
 simp [cO, hk, bC, Vl.cl]
theorem aI8 {c : Cl} (hk : ¬ c.kind = 5) : ∃ x t, bC c = x :: t ∧ ¬ x = 91 := by
 unfold bC gC
 split
 exact ⟨33, _, rfl, by decide⟩
 split
 exact ⟨39, _, rfl, by decide⟩
 split
 exact ⟨35, _, rfl, by decide⟩
 split
 exact ⟨64, _, rfl, by decide⟩
 exact ⟨63, _, rfl, by decide⟩
theorem kM {v : Vl} (hk : v.kind = 5) (h : aX v = true) (r : List UInt8) : cO v ++ r = 91 :: (joinL [44] v.cols ++ (v.rows.flatMap f4 ++ 93 :: r)) := by
 simp [cO, hk]
end Go.Proofs.YtmpgfchkkemngaaGreatDoor
namespace Go.Proofs.YtmpgfchkkemngaaGreatDoor
open Go.RowKit Go.V
open Go.Eng (inR byteAt u8 bH)
variable {g : Gv}
theorem jE (l : List UInt8) : (S l).data.toList = l := by simp [S]
theorem aI0 (w : World) (n : Nat) : Below w.heap.size w (w.drewN n) := ⟨rfl, rfl, rfl, Nat.le_refl _, fun _ _ => rfl⟩
abbrev y34 (a0 : ByteArray) (a1 : Bool) : SV := .tup [(false, [cS a0]), (false, [cB a1])]
theorem pQ (s p : List UInt8) : SpG g 205 [.c (cS (S s)), .c (cS (S p))] [] (y34 (S (Lib.trimPrefix s p)) (Lib.hasPrefix s p)) [] := by
 refine tO (args := [.string (S s), .string (S p)]) rfl rfl rfl fun w => ?_
 have := Tryz.strings_CutPrefix (S s) (S p) w
 rw [jE, jE] at this
 exact this.mono fun _ _ ⟨a, b⟩ => ⟨a, b.symm⟩
theorem cut_ok' (s p : List UInt8) (hs : s.length < 4294967281) : SpG g 206 [.c (cS (S s)), .c (cS (S p))] [] (.tup [(false, [cS (S (Lib.cut s p).1)]), (false, [cS (S (Lib.cut s p).2.1)]), (false, [.d (.b (Lib.cut s p).2.2)])]) [] := by
 refine gO (args := [.string (S s), .string (S p)]) rfl rfl rfl fun w hG => ?_
 obtain ⟨ty, fz, h0⟩ := hG 0 [.int .i64 g.maxLen] (by simp [Gl])
 have := Tryz.strings_Cut (S s) (S p) g.maxLen w (by rw [aD]; omega) (by rw [Lib.cell_of_heap h0]; rfl)
 rw [jE, jE] at this
 exact this.mono fun _ _ ⟨x, n, y⟩ => ⟨x, by rw [y]; exact aI0 _ _⟩
def gG (w : List UInt8) : Bool := dC (mH w).1 (mH w).2 && decide (bV (mH w).1 (mH w).2 = w)
def iY (w : List UInt8) : Int := if gG w then (mH w).1 else 0
def iX (w : List UInt8) : Int := if gG w then (mH w).2 else 0
theorem mG {n s : Int} {w : List UInt8} (h : dC n s = true) (e : bV n s = w) : gG w = true ∧ iY w = n ∧ iX w = s := by
 have h1 := aC0 (n := n) (s := s) (fJ h).1
 rw [e] at h1
 have hk : gG w = true := by rw [gG, h1]; simp [h, e]
 exact ⟨hk, by rw [iY, if_pos hk, h1], by rw [iX, if_pos hk, h1]⟩
theorem nE {w : List UInt8} (h : ∀ n s, dC n s = true → bV n s = w → False) : gG w = false ∧ iY w = 0 ∧ iX w = 0 := by
 have hk : gG w = false := by
  cases hb : gG w with
  | false => rfl
  | true =>
   simp only [gG, Bool.and_eq_true, decide_eq_true_eq] at hb
   exact (h _ _ hb.1 hb.2).elim
 exact ⟨hk, by rw [iY, hk]; rfl, by rw [iX, hk]; rfl⟩
theorem aFA {c : UInt8} (h : bA c = true) : ¬ c = 45 ∧ ¬ c = 46 := by
 refine ⟨?_, ?_⟩ <;> rintro rfl <;> simp [bA] at h
theorem vE (a s : Nat) : mO a s = bD (a / 10 ^ s) ++ (if s = 0 then [] else 46 :: l6 s a) := rfl
theorem aEI {n s : Int} (h : 0 ≤ s) : Lib.hasPrefix (bV n s) [45] = decide (n < 0) ∧ Lib.trimPrefix (bV n s) [45] = mO n.natAbs s.toNat := by
 rw [j8 h]
 by_cases hn : n < 0
 have e : Lib.hasPrefix ((if n < 0 then [45] else []) ++ mO n.natAbs s.toNat) [45] = true := by
  rw [if_pos hn]; simp [Lib.hasPrefix]
 rw [Lib.trimPrefix, e, if_pos rfl, if_pos hn]
 simp [hn]
 obtain ⟨c, t, hc, hd⟩ := xS n.natAbs s.toNat
 have e : Lib.hasPrefix ((if n < 0 then [45] else []) ++ mO n.natAbs s.toNat) [45] = false := by
  rw [if_neg hn, hc]
  simp only [Lib.hasPrefix, List.nil_append, List.isPrefixOf, Bool.and_true]
  have := (aFA hd).1
  simpa using fun h => this h.symm
 rw [Lib.trimPrefix, e, if_neg hn]
 simp [hn]
theorem aEU {l r : List UInt8} {c : UInt8} (h : ∀ x, x ∈ l → ¬ x = c) : Lib.index (l ++ c :: r) [c] = (l.length : Int) := by
 induction l with
 | nil => simp [Lib.index, List.isPrefixOf]
 | cons x l ih =>
  have h1 := ih (fun y hy => h y (by simp [hy]))
  have h2 : ¬ c = x := fun e => h x (by simp) e.symm
  have h3 : (c == x) = false := by simpa using h2
  simp only [List.cons_append, Lib.index, List.isPrefixOf, h3, Bool.false_and, h1]
  have h4 : ((l.length : Int) == -1) = false := by rw [beq_eq_false_iff_ne]; omega
  simp [h4]
theorem index_none {l : List UInt8} {c : UInt8} (h : ∀ x, x ∈ l → ¬ x = c) : Lib.index l [c] = -1 := by
 induction l with
 | nil => rfl
 | cons x l ih =>
  have h1 := ih (fun y hy => h y (by simp [hy]))
  have h2 : ¬ c = x := fun e => h x (by simp) e.symm
  have h3 : (c == x) = false := by simpa using h2
  simp only [Lib.index, List.isPrefixOf, h3, Bool.false_and, h1]
  rfl
theorem aGM (q : Nat) (c : UInt8) (hc : c = 45 ∨ c = 46) : ∀ x, x ∈ bD q → ¬ x = c := by
 intro x hx e
 have := aFA (List.all_eq_true.1 (dS q).2 x hx)
 rcases hc with rfl | rfl
 exact this.1 e
 exact this.2 e
theorem cut_abs (a s : Nat) : (Lib.cut (mO a s) [46]).1 = bD (a / 10 ^ s) ∧ (Lib.cut (mO a s) [46]).2.1 = l6 s a := by
 rw [vE]
 by_cases h : s = 0
 rw [if_pos h, List.append_nil, Lib.cut, index_none (aGM _ 46 (.inr rfl)), if_neg (by decide)]
 subst h; exact ⟨rfl, rfl⟩
 rw [if_neg h, Lib.cut, aEU (aGM _ 46 (.inr rfl)), if_pos (by omega)]
 simp
theorem aFC {n s : Int} (h : dC n s = true) : (bV n s).length ≤ 18 := by
 obtain ⟨h0, h1, h2, h3, _⟩ := fJ h
 rw [j8 h0, vE]
 have hs : s.toNat ≤ 6 := by omega
 have hl : (bD (n.natAbs / 10 ^ s.toNat)).length ≤ 16 - s.toNat := by
  apply gW
  apply Nat.div_lt_of_lt_mul
  rw [← Nat.pow_add, show s.toNat + (16 - s.toNat) = 16 by omega]; omega
  omega
 have h5 : (if n < 0 then ([45] : List UInt8) else []).length ≤ 1 := by split <;> simp
 rw [List.length_append, List.length_append]
 by_cases h4 : s.toNat = 0
 rw [if_pos h4]; simp only [List.length_nil]; omega
 rw [if_neg h4, List.length_cons, gX]; omega
theorem aCQ {n s : Int} (h : dC n s = true) : eB (decide (n < 0)) n.natAbs s = n ∧ eA n.natAbs s = s ∧ eJ n.natAbs s = true := by
 obtain ⟨h0, h1, h2, h3, h4⟩ := fJ h
 have ht : s = 0 ∨ ¬ n % 10 = 0 := h4.imp id fun hh hm => hh (by rw [← Int.dvd_iff_tmod_eq_zero]; exact Int.dvd_of_emod_eq_zero hm)
 have hL : fX n.natAbs s.toNat = (n.natAbs, s.toNat) := fH h0 (by omega)
 have hB : eJ n.natAbs s = true := by unfold eJ; rw [hL]; simp; omega
 refine ⟨?_, ?_, hB⟩
 rw [eB, hB, if_pos rfl, hL]
 by_cases hn : n < 0
 simp only [hn, decide_true, if_true]; omega
 simp only [hn, decide_false, Bool.false_eq_true, if_false]; omega
 rw [eA, hB, if_pos rfl, hL]; simp only; omega
theorem nC {l : List UInt8} {k : Nat} (h : k < l.length) : cV (l.take (k + 1)) = 10 * cV (l.take k) + ((l.getD k 0).toNat - 48) := by
 have e : l.take (k + 1) = l.take k ++ [l.getD k 0] := by
  rw [List.take_add_one, List.getD_eq_getElem?_getD, List.getElem?_eq_getElem h]; rfl
 rw [e, j6]
theorem sF {l : List UInt8} (h : l.all bA = true) : cV l < 10 ^ l.length := by
 induction l using oY with
 | h0 => simp [cV]
 | h1 l x ih =>
  rw [List.all_append, Bool.and_eq_true] at h
  have h1 := ih h.1
  have h2 := h.2
  simp only [List.all_cons, List.all_nil, bA, Bool.and_true, Bool.and_eq_true, decide_eq_true_eq] at h2
  rw [j6, List.length_append, Nat.pow_add]; simp; omega
theorem u9 {l : List UInt8} {k : Nat} (h : k < l.length) (h1 : (l.take k).all bA = true) (h2 : bA (l.getD k 0) = true) : (l.take (k + 1)).all bA = true := by
 have e : l.take (k + 1) = l.take k ++ [l.getD k 0] := by
  rw [List.take_add_one, List.getD_eq_getElem?_getD, List.getElem?_eq_getElem h]; rfl
 rw [e, List.all_append, h1]; simp only [List.all_cons, List.all_nil, h2]; rfl
theorem pG {l : List UInt8} {k : Nat} (h1 : ¬ byteAt (S l) (k : Int) < 48) (h2 : ¬ byteAt (S l) (k : Int) > 57) : bA (l.getD k 0) = true ∧ IntKind.wrap .i64 (IntKind.wrap .u8 (byteAt (S l) (k : Int) - 48)) = (((l.getD k 0).toNat - 48 : Nat) : Int) := by
 have e := cT l (k : Int)
 rw [Int.toNat_natCast] at e
 rw [e] at h1 h2 ⊢
 have hw : IntKind.wrap .u8 (((l.getD k 0).toNat : Int) - 48) = ((l.getD k 0).toNat : Int) - 48 := by
  have := Eng.wrap_u8 (((l.getD k 0).toNat : Int) - 48)
  rw [this, lQ]; omega
 rw [hw, wrap64 (by unfold inR; omega)]
 refine ⟨?_, by omega⟩
 simp only [bA, Bool.and_eq_true, decide_eq_true_eq]; omega
def ppB (w : List UInt8) : List UInt8 := (Lib.cut (Lib.trimPrefix w [45]) [46]).1 ++ (Lib.cut (Lib.trimPrefix w [45]) [46]).2.1
def ppA (w : List UInt8) : List UInt8 := (Lib.cut (Lib.trimPrefix w [45]) [46]).2.1
def ppN (w : List UInt8) : Int := if Lib.hasPrefix w [45] then -(cV (ppB w) : Int) else (cV (ppB w) : Int)
theorem pp_of {n s : Int} (h : dC n s = true) : ppB (bV n s) = eN n.natAbs s.toNat ∧ (ppA (bV n s)).length = s.toNat ∧ ppN (bV n s) = n := by
 have h0 := (fJ h).1
 obtain ⟨p1, p2⟩ := aEI (n := n) h0
 obtain ⟨c1, c2⟩ := cut_abs n.natAbs s.toNat
 have e1 : ppB (bV n s) = eN n.natAbs s.toNat := by rw [ppB, p2, c1, c2, iB]
 refine ⟨e1, by rw [ppA, p2, c2, gX], ?_⟩
 rw [ppN, p1, e1, (jX _ _).1]
 by_cases hn : n < 0
 simp only [hn, decide_true, if_true]; omega
 simp only [hn, decide_false, Bool.false_eq_true, if_false]; omega
theorem aNC (l : List UInt8) (c : UInt8) : (Lib.cut l [c]).1.length + (Lib.cut l [c]).2.1.length ≤ l.length := by
 unfold Lib.cut
 split
 simp only [List.length_take, List.length_drop]; omega
 simp
theorem vZ (l p : List UInt8) : (Lib.trimPrefix l p).length ≤ l.length := by
 unfold Lib.trimPrefix; split
 simp
 exact Nat.le_refl _
theorem tdiv10 (a : Int) : Int.tmod a 10 = 0 ↔ a.natAbs % 10 = 0 := by
 rw [← Int.dvd_iff_tmod_eq_zero]
 constructor
 intro h; omega
 intro h; omega
theorem uO (n s : Int) (h0 : -72000000000000000000 ≤ n) (h0b : inR n) (h2 : 0 ≤ s) (h3 : s ≤ 18) :
  SpG g 207 [.c (cI n), .c (cI s)] [] (y6 (eB (decide (n < 0)) n.natAbs s) (eA n.natAbs s) (eJ n.natAbs s)) [] := by
 unfold inR at h0b
 refine aF 35 Tryz.func207 (by kernel_rfl) fun fr hG => ?_
 refine zC hG [] [1, 0, 1] ((decide ((s : Int) < 0)) || (decide ((s : Int) > 18))) (⟨[zI 0 n, zI 1 s, zX 4 100 0, zB 5 false], [(100, .box 26 [cI 0, cI 0])]⟩) aA (fun hc1 => ?_) (fun hc1 => ?_)
 (try simp only [blS] at hc1)
 exfalso; omega
 (try simp only [blS] at hc1)
 refine zL hG [] [0, 0, 1, 1] (fun (zz : Int × Int) => match zz with | (a, t) => (t.toNat, ⟨[zI 0 a, zI 1 t, zX 4 100 0, zB 5 false], [(100, .box 26 [cI 0, cI 0])]⟩, a.natAbs ≤ n.natAbs ∧ (a < 0 ↔ n < 0 ∧ a ≠ 0) ∧ 0 ≤ t ∧ t ≤ s ∧ fX a.natAbs t.toNat = fX n.natAbs s.toNat ∧ (n < 0 → a ≤ 0))) (n, s) aA ?_ ?_
 exact ⟨Nat.le_refl _, by omega, h2, Int.le_refl _, rfl, by omega⟩
 rintro ⟨a, t⟩ ⟨ha, hsg, ht0, ht1, hf, hng⟩
 have htm := tdiv10 a
 have hta : (Int.tdiv a 10).natAbs = a.natAbs / 10 := Int.natAbs_tdiv a 10
 refine zc hG [] [1, 0] ((decide ((t : Int) > 0)) && (decide ((Int.tmod a 10 : Int) = 0))) (aC (by intros; first | omega | decide | (unfold inR; omega) : (decide ((t : Int) > 0)) = true → 10 ≠ (0 : Int))) (fun hc3 => ?_) (fun hc3 => ?_)
 (try simp only [blS] at hc3)
 refine zD hG [] (Int.tdiv a 10, t - 1) (aB (by intros; first | omega | decide | (unfold inR; omega) : 10 ≠ (0 : Int) ∧ inR (Int.tdiv a 10)) (aC (by intros; first | omega | decide | (unfold inR; omega) : inR (t - 1)))) ?_ ?_
 (try dsimp only); omega
 have hz := htm.1 hc3.2
 have hsn : (Int.tdiv a 10 < 0 ↔ a < 0 ∧ Int.tdiv a 10 ≠ 0) ∧ (a ≤ 0 → Int.tdiv a 10 ≤ 0) := by
  rcases Int.lt_or_le a 0 with h | h
  have := Int.tdiv_nonneg (a := -a) (b := 10) (by omega) (by decide)
  rw [Int.neg_tdiv] at this; omega
  have := Int.tdiv_nonneg (a := a) (b := 10) h (by decide)
  rw [Int.tdiv_eq_ediv_of_nonneg h] at *; omega
 refine ⟨by omega, by omega, by omega, by omega, ?_, by omega⟩
 rw [hta, ← hf, w4 (by omega) hz]
 (try simp only [blS] at hc3)
 refine zE hG [] (.exit 0) (⟨[zI 0 a, zI 1 t, zX 4 100 0, zB 5 false], [(100, .box 26 [cI 0, cI 0])]⟩) aA rfl ?_
 refine zc hG [(6, 4, kB (decide ((-1000000000000000 : Int) ≤ a) && decide (a ≤ (1000000000000000 : Int))))] [1, 0, 1, 1, 1] ((decide ((t : Int) > 6)) || (!(decide ((-1000000000000000 : Int) ≤ a) && decide (a ≤ (1000000000000000 : Int))))) (aC (fun (hg1 : (decide ((t : Int) > 6)) = false) => (sN a : SpG g _ _ _ _ _))) (fun hc4 => ?_) (fun hc4 => ?_)
 (try simp only [blS] at hc4)
 refine zR hG [] [] (y8) [] aA ?_ ?_
 have hL : fX a.natAbs t.toNat = (a.natAbs, t.toNat) := fH ht0 (by omega)
 rw [hf] at hL
 have hb : eJ n.natAbs s = false := by unfold eJ; rw [hL]; simp; omega
 rw [eB, eA, hb]; rfl
 rfl
 (try simp only [blS] at hc4)
 refine zR hG [] [] (y9 a t) [] aA ?_ ?_
 have hL : fX a.natAbs t.toNat = (a.natAbs, t.toNat) := fH ht0 (by omega)
 rw [hf] at hL
 have hb : eJ n.natAbs s = true := by unfold eJ; rw [hL]; simp; omega
 have e1 : eB (decide (n < 0)) n.natAbs s = a := by
  rw [eB, hb, if_pos rfl, hL]
  by_cases hn : n < 0
  simp only [hn, decide_true, if_true]; omega
  simp only [hn, decide_false, Bool.false_eq_true, if_false]; omega
 have e2 : eA n.natAbs s = t := by rw [eA, hb, if_pos rfl, hL]; simp only; omega
 rw [e1, e2, hb]
 rfl
theorem sI {l : List UInt8} {k : Nat} (h : l.all bA = true) (hk : k < l.length) : 48 ≤ byteAt (S l) (k : Int) ∧ byteAt (S l) (k : Int) ≤ 57 := by
 have e := cT l (k : Int)
 rw [Int.toNat_natCast, List.getD_eq_getElem?_getD, List.getElem?_eq_getElem hk] at e
 have := List.all_eq_true.1 h _ (List.getElem_mem hk)
 rw [e]; simp only [Option.getD_some]
 simp only [bA, Bool.and_eq_true, decide_eq_true_eq] at this; omega
theorem wN {n s : Int} {w : List UInt8} (hb : dC n s = true) (he : bV n s = w) : eJ (ppN w).natAbs ((ppA w).length : Int) = true ∧ bV (eB (decide (ppN w < 0)) (ppN w).natAbs ((ppA w).length : Int)) (eA (ppN w).natAbs ((ppA w).length : Int)) = w := by
 obtain ⟨p1, p2, p3⟩ := pp_of hb
 rw [he] at p1 p2 p3
 have h0 := (fJ hb).1
 obtain ⟨f1, f2, f3⟩ := aCQ hb
 rw [p3, p2, Int.toNat_of_nonneg h0, f1, f2]
 exact ⟨f3, he⟩
def eV := And.intro @dX (And.intro @xT (And.intro @aD (@blS)))
def jK := And.intro @aD (@maxLen.eq_1)
theorem aCZ (w : List UInt8) (hw : w.length < 4294967281) :
  SpG g 179 [.c (cS (S w))] [] (y6 (iY w) (iX w) (gG w)) [] := by
 have hcz := aNC (Lib.trimPrefix w [45]) 46
 have htz := vZ w [45]
 have hpl : (ppB w).length = (Lib.cut (Lib.trimPrefix w [45]) [46]).1.length + (Lib.cut (Lib.trimPrefix w [45]) [46]).2.1.length := by rw [ppB, List.length_append]
 have hpa : (ppA w).length = (Lib.cut (Lib.trimPrefix w [45]) [46]).2.1.length := rfl
 refine aF 76 Tryz.func179 (by kernel_rfl) fun fr hG => ?_
 refine zC hG [] [1, 0, 1] (decide ((((S w).size : Int) : Int) > 18)) (⟨[zS 0 (S w), zX 2 100 0, zB 3 false], [(100, .box 26 [cI 0, cI 0])]⟩) aA (fun hc1 => ?_) (fun hc1 => ?_)
 (try simp only [eV, ByteArray.size_append] at hc1)
 refine zR hG [] [] (y8) [] aA ?_ ?_
 have hno : ∀ n s, dC n s = true → bV n s = w → False := by
  intro n s hb he
  have := aFC hb; rw [he] at this; omega
 obtain ⟨r1, r2, r3⟩ := nE hno
 rw [r1, r2, r3]
 rfl
 (try simp only [eV, ByteArray.size_append] at hc1)
 refine zL hG [(3, 1, kC (y34 (S (Lib.trimPrefix (w) [45])) (Lib.hasPrefix (w) [45]))), (4, 1, kC (.tup [(false, [cS (S (Lib.cut (Lib.trimPrefix (w) [45]) [46]).1)]), (false, [cS (S (Lib.cut (Lib.trimPrefix (w) [45]) [46]).2.1)]), (false, [cB ((Lib.cut (Lib.trimPrefix (w) [45]) [46]).2.2)])]))] [0, 1, 0, 1, 1, 1, 1, 1, 1] (fun (zz : Nat × Int × ByteArray) => match zz with | (k, v, bs) => ((ppB w).length - k, ⟨[zS 0 (S w), zX 2 100 0, zB 3 false, zS 4 bs, zB 5 (Lib.hasPrefix (w) [45]), zS 7 (S (Lib.cut (Lib.trimPrefix (w) [45]) [46]).2.1), zI 9 v, zI 32 (((S (Lib.cut (Lib.trimPrefix (w) [45]) [46]).1) ++ (S (Lib.cut (Lib.trimPrefix (w) [45]) [46]).2.1)).size : Int), zI 33 (k : Int)], [(100, .box 26 [cI 0, cI 0])]⟩, bs = S (ppB w) ∧ k ≤ (ppB w).length ∧ ((ppB w).take k).all bA = true ∧ v = (cV ((ppB w).take k) : Int))) (0, 0, (S (Lib.cut (Lib.trimPrefix (w) [45]) [46]).1) ++ (S (Lib.cut (Lib.trimPrefix (w) [45]) [46]).2.1)) (aB (pQ (w) [45] : SpG g _ _ _ _ _) (aB (cut_ok' (Lib.trimPrefix (w) [45]) [46] (by omega) : SpG g _ _ _ _ _) (aC (by intros; (try simp only [jK, ByteArray.size_append] at *); first | omega | decide | (unfold inR; omega) : (S (Lib.cut (Lib.trimPrefix (w) [45]) [46]).1).size + (S (Lib.cut (Lib.trimPrefix (w) [45]) [46]).2.1).size ≤ maxLen)))) ?_ ?_
 exact ⟨by rw [aZ]; rfl, Nat.zero_le _, rfl, rfl⟩
 rintro ⟨k, v, bs⟩ ⟨hbs, hk, hd, hv⟩
 have hbz : bs.size = (ppB w).length := by rw [hbs, aD]
 have hdl := sF hd
 rw [List.length_take, Nat.min_eq_left hk] at hdl
 have hp : 10 ^ k ≤ 10 ^ 18 := Nat.pow_le_pow_right (by decide) (by omega)
 have hp2 : k < (ppB w).length → 10 ^ k ≤ 10 ^ 17 := fun h => Nat.pow_le_pow_right (by decide) (by omega)
 have hcs : ¬ byteAt bs (k : Int) < 48 → ¬ byteAt bs (k : Int) > 57 → bA ((ppB w).getD k 0) = true ∧ IntKind.wrap .i64 (IntKind.wrap .u8 (byteAt bs (k : Int) - 48)) = ((((ppB w).getD k 0).toNat - 48 : Nat) : Int) := by rw [hbs]; exact fun a b => pG a b
 have hcl : ∀ b : UInt8, bA b = true → 0 ≤ (b.toNat : Int) - 48 ∧ b.toNat - 48 ≤ 9 := by intro b hb; simp only [bA, Bool.and_eq_true, decide_eq_true_eq] at hb; omega
 refine zc hG [] [0, 1] (decide (((k : Int) : Int) < (((S (Lib.cut (Lib.trimPrefix (w) [45]) [46]).1) ++ (S (Lib.cut (Lib.trimPrefix (w) [45]) [46]).2.1)).size : Int))) aA (fun hc3 => ?_) (fun hc3 => ?_)
 (try simp only [eV, ByteArray.size_append] at hc3)
 refine zC hG [] [1, 0, 1, 0, 0, 1, 1] ((decide ((byteAt (bs) (k : Int) : Int) < 48)) || (decide ((byteAt (bs) (k : Int) : Int) > 57))) (⟨[zS 0 (S w), zX 2 100 0, zB 3 false, zS 4 bs, zB 5 (Lib.hasPrefix (w) [45]), zS 7 (S (Lib.cut (Lib.trimPrefix (w) [45]) [46]).2.1), zI 9 v, zI 10 (k : Int), zI 32 (((S (Lib.cut (Lib.trimPrefix (w) [45]) [46]).1) ++ (S (Lib.cut (Lib.trimPrefix (w) [45]) [46]).2.1)).size : Int), zI 33 (k : Int)], [(100, .box 26 [cI 0, cI 0])]⟩) (aB (by intros; (try simp only [jK, ByteArray.size_append] at *); first | omega | decide | (unfold inR; omega) : (0 : Int) ≤ (k : Int) ∧ (k : Int) < ((bs).size : Int)) (aC (by intros; (try simp only [jK, ByteArray.size_append] at *); first | omega | decide | (unfold inR; omega) : (decide ((byteAt (bs) (k : Int) : Int) < 48)) = false → (0 : Int) ≤ (k : Int) ∧ (k : Int) < ((bs).size : Int)))) (fun hc4 => ?_) (fun hc4 => ?_)
 (try simp only [eV, ByteArray.size_append] at hc4)
 refine zE hG [] .ret (⟨[zS 0 (S w), zX 2 100 0, zB 3 false, zB 5 (Lib.hasPrefix (w) [45]), zS 7 (S (Lib.cut (Lib.trimPrefix (w) [45]) [46]).2.1), zI 9 v], [(100, .box 26 [cI 0, cI 0])]⟩) aA rfl ?_
 refine zR hG [] [] (y8) [] aA ?_ ?_
 have hno : ∀ n s, dC n s = true → bV n s = w → False := by
  intro n s hb he
  have hal := (jX n.natAbs s.toNat).2
  rw [← (pp_of hb).1, he] at hal
  have hag := sI (k := k) hal (by omega)
  rw [← hbs] at hag; omega
 obtain ⟨r1, r2, r3⟩ := nE hno
 rw [r1, r2, r3]
 rfl
 (try simp only [eV, ByteArray.size_append] at hc4)
 obtain ⟨q1, q2⟩ := hcs (by omega) (by omega)
 have q3 := hcl _ q1
 have hp4 := hp2 (by omega)
 refine zD hG [] (k + 1, v * 10 + IntKind.wrap .i64 (IntKind.wrap .u8 (byteAt bs (k : Int) - 48)), bs) (aB (by intros; (try simp only [jK, ByteArray.size_append] at *); first | omega | decide | (unfold inR; omega) : inR (v * 10)) (aB (by intros; (try simp only [jK, ByteArray.size_append] at *); first | omega | decide | (unfold inR; omega) : (0 : Int) ≤ (k : Int) ∧ (k : Int) < ((bs).size : Int)) (aB (by intros; (try simp only [jK, ByteArray.size_append] at *); first | omega | decide | (unfold inR; omega) : inR ((v * 10) + (IntKind.wrap .i64 (IntKind.wrap .u8 ((byteAt (bs) (k : Int)) - 48))))) (aC (by intros; (try simp only [jK, ByteArray.size_append] at *); first | omega | decide | (unfold inR; omega) : inR ((k : Int) + 1)))))) ?_ ?_
 (try dsimp only); omega
 refine ⟨hbs, by omega, u9 (by omega) hd q1, ?_⟩
 rw [q2, nC (by omega), hv]; push_cast; omega
 (try simp only [eV, ByteArray.size_append] at hc3)
 have hvv : v = (cV (ppB w) : Int) := by rw [hv, List.take_of_length_le (by omega)]
 have hkl : k = (ppB w).length := by omega
 have hp3 : (10 : Nat) ^ k ≤ 10 ^ 18 := hp
 have hbsz : (S (Lib.cut (Lib.trimPrefix w [45]) [46]).2.1).size = (ppA w).length := by rw [aD]; rfl
 refine zE hG [] (.exit 0) (⟨[zS 0 (S w), zX 2 100 0, zB 3 false, zB 5 (Lib.hasPrefix (w) [45]), zS 7 (S (Lib.cut (Lib.trimPrefix (w) [45]) [46]).2.1), zI 9 v], [(100, .box 26 [cI 0, cI 0])]⟩) aA rfl ?_
 refine zC hG [] [1, 0, 1, 1, 1, 1, 1, 1, 1] (Lib.hasPrefix (w) [45]) (⟨[zS 0 (S w), zX 2 100 0, zB 3 false, zS 7 (S (Lib.cut (Lib.trimPrefix (w) [45]) [46]).2.1), zI 9 v], [(100, .box 26 [cI 0, cI 0])]⟩) aA (fun hc5 => ?_) (fun hc5 => ?_)
 (try simp only [eV, ByteArray.size_append] at hc5)
 have hpn : IntKind.wrap .i64 (0 - v) = ppN w := by
  rw [wrap64 (by unfold inR; omega), ppN, if_pos hc5]; omega
 have hpb : -1000000000000000000 ≤ ppN w ∧ ppN w ≤ 1000000000000000000 := by
  rw [← hpn, wrap64 (by unfold inR; omega)]; omega
 refine zC hG [(16, 3, kC (y6 (eB (decide ((IntKind.wrap .i64 (0 - v)) < 0)) (IntKind.wrap .i64 (0 - v)).natAbs ((S (Lib.cut (Lib.trimPrefix (w) [45]) [46]).2.1).size : Int)) (eA (IntKind.wrap .i64 (0 - v)).natAbs ((S (Lib.cut (Lib.trimPrefix (w) [45]) [46]).2.1).size : Int)) (eJ (IntKind.wrap .i64 (0 - v)).natAbs ((S (Lib.cut (Lib.trimPrefix (w) [45]) [46]).2.1).size : Int)))), (17, 4, kS (S (bV (eB (decide ((IntKind.wrap .i64 (0 - v)) < 0)) (IntKind.wrap .i64 (0 - v)).natAbs ((S (Lib.cut (Lib.trimPrefix (w) [45]) [46]).2.1).size : Int)) (eA (IntKind.wrap .i64 (0 - v)).natAbs ((S (Lib.cut (Lib.trimPrefix (w) [45]) [46]).2.1).size : Int)))))] [1, 0, 1, 1, 1, 1, 1, 1, 1, 1, 1] ((!(eJ (IntKind.wrap .i64 (0 - v)).natAbs ((S (Lib.cut (Lib.trimPrefix (w) [45]) [46]).2.1).size : Int))) || (!((S (bV (eB (decide ((IntKind.wrap .i64 (0 - v)) < 0)) (IntKind.wrap .i64 (0 - v)).natAbs ((S (Lib.cut (Lib.trimPrefix (w) [45]) [46]).2.1).size : Int)) (eA (IntKind.wrap .i64 (0 - v)).natAbs ((S (Lib.cut (Lib.trimPrefix (w) [45]) [46]).2.1).size : Int)))).toList == (S w).toList))) (⟨[zX 2 100 0, zB 3 false, zX 11 1707 0], [(100, .box 26 [cI 0, cI 0]), (1707, .box 26 [cI (eB (decide ((IntKind.wrap .i64 (0 - v)) < 0)) (IntKind.wrap .i64 (0 - v)).natAbs ((S (Lib.cut (Lib.trimPrefix (w) [45]) [46]).2.1).size : Int)), cI (eA (IntKind.wrap .i64 (0 - v)).natAbs ((S (Lib.cut (Lib.trimPrefix (w) [45]) [46]).2.1).size : Int))])]⟩) (aB (uO (IntKind.wrap .i64 (0 - v)) ((S (Lib.cut (Lib.trimPrefix (w) [45]) [46]).2.1).size : Int) (by omega) (by unfold inR; omega) (by omega) (by omega) : SpG g _ _ _ _ _) (aC (fun (hg1 : (!(eJ (IntKind.wrap .i64 (0 - v)).natAbs ((S (Lib.cut (Lib.trimPrefix (w) [45]) [46]).2.1).size : Int))) = false) => (lB (eB (decide ((IntKind.wrap .i64 (0 - v)) < 0)) (IntKind.wrap .i64 (0 - v)).natAbs ((S (Lib.cut (Lib.trimPrefix (w) [45]) [46]).2.1).size : Int)) (eA (IntKind.wrap .i64 (0 - v)).natAbs ((S (Lib.cut (Lib.trimPrefix (w) [45]) [46]).2.1).size : Int)) (gK _ _ _) : SpG g _ _ _ _ _)))) (fun hc6 => ?_) (fun hc6 => ?_)
 (try simp only [eV, ByteArray.size_append] at hc6)
 refine zR hG [] [] (y8) [] aA ?_ ?_
 have hno : ∀ n s, dC n s = true → bV n s = w → False := by
  intro n s hb he
  obtain ⟨m1, m2⟩ := wN hb he
  rw [← hpn] at m1 m2
  rcases hc6 with h | h
  exact absurd (h.symm.trans m1) (by decide)
  exact h m2
 obtain ⟨r1, r2, r3⟩ := nE hno
 rw [r1, r2, r3]
 rfl
 (try simp only [eV, ByteArray.size_append] at hc6)
 refine zR hG [] [] (y9 (eB (decide ((IntKind.wrap .i64 (0 - v)) < 0)) (IntKind.wrap .i64 (0 - v)).natAbs ((S (Lib.cut (Lib.trimPrefix (w) [45]) [46]).2.1).size : Int)) (eA (IntKind.wrap .i64 (0 - v)).natAbs ((S (Lib.cut (Lib.trimPrefix (w) [45]) [46]).2.1).size : Int))) [] aA ?_ ?_
 obtain ⟨r1, r2, r3⟩ := mG (gK _ _ _) (hc6.2)
 rw [r1, r2, r3]; simp only [aD]
 rfl
 (try simp only [eV, ByteArray.size_append] at hc5)
 have hpn : v = ppN w := by
  rw [ppN, if_neg (by rw [hc5]; decide)]; exact hvv
 have hpb : -1000000000000000000 ≤ ppN w ∧ ppN w ≤ 1000000000000000000 := by omega
 refine zC hG [(16, 3, kC (y6 (eB (decide (v < 0)) (v).natAbs ((S (Lib.cut (Lib.trimPrefix (w) [45]) [46]).2.1).size : Int)) (eA (v).natAbs ((S (Lib.cut (Lib.trimPrefix (w) [45]) [46]).2.1).size : Int)) (eJ (v).natAbs ((S (Lib.cut (Lib.trimPrefix (w) [45]) [46]).2.1).size : Int)))), (17, 4, kS (S (bV (eB (decide (v < 0)) (v).natAbs ((S (Lib.cut (Lib.trimPrefix (w) [45]) [46]).2.1).size : Int)) (eA (v).natAbs ((S (Lib.cut (Lib.trimPrefix (w) [45]) [46]).2.1).size : Int)))))] [1, 0, 1, 1, 1, 1, 1, 1, 1, 1, 1] ((!(eJ (v).natAbs ((S (Lib.cut (Lib.trimPrefix (w) [45]) [46]).2.1).size : Int))) || (!((S (bV (eB (decide (v < 0)) (v).natAbs ((S (Lib.cut (Lib.trimPrefix (w) [45]) [46]).2.1).size : Int)) (eA (v).natAbs ((S (Lib.cut (Lib.trimPrefix (w) [45]) [46]).2.1).size : Int)))).toList == (S w).toList))) (⟨[zX 2 100 0, zB 3 false, zX 11 1707 0], [(100, .box 26 [cI 0, cI 0]), (1707, .box 26 [cI (eB (decide (v < 0)) (v).natAbs ((S (Lib.cut (Lib.trimPrefix (w) [45]) [46]).2.1).size : Int)), cI (eA (v).natAbs ((S (Lib.cut (Lib.trimPrefix (w) [45]) [46]).2.1).size : Int))])]⟩) (aB (uO v ((S (Lib.cut (Lib.trimPrefix (w) [45]) [46]).2.1).size : Int) (by omega) (by unfold inR; omega) (by omega) (by omega) : SpG g _ _ _ _ _) (aC (fun (hg1 : (!(eJ (v).natAbs ((S (Lib.cut (Lib.trimPrefix (w) [45]) [46]).2.1).size : Int))) = false) => (lB (eB (decide (v < 0)) (v).natAbs ((S (Lib.cut (Lib.trimPrefix (w) [45]) [46]).2.1).size : Int)) (eA (v).natAbs ((S (Lib.cut (Lib.trimPrefix (w) [45]) [46]).2.1).size : Int)) (gK _ _ _) : SpG g _ _ _ _ _)))) (fun hc7 => ?_) (fun hc7 => ?_)
 (try simp only [eV, ByteArray.size_append] at hc7)
 refine zR hG [] [] (y8) [] aA ?_ ?_
 have hno : ∀ n s, dC n s = true → bV n s = w → False := by
  intro n s hb he
  obtain ⟨m1, m2⟩ := wN hb he
  rw [← hpn] at m1 m2
  rcases hc7 with h | h
  exact absurd (h.symm.trans m1) (by decide)
  exact h m2
 obtain ⟨r1, r2, r3⟩ := nE hno
 rw [r1, r2, r3]
 rfl
 (try simp only [eV, ByteArray.size_append] at hc7)
 refine zR hG [] [] (y9 (eB (decide (v < 0)) (v).natAbs ((S (Lib.cut (Lib.trimPrefix (w) [45]) [46]).2.1).size : Int)) (eA (v).natAbs ((S (Lib.cut (Lib.trimPrefix (w) [45]) [46]).2.1).size : Int))) [] aA ?_ ?_
 obtain ⟨r1, r2, r3⟩ := mG (gK _ _ _) (hc7.2)
 rw [r1, r2, r3]; simp only [aD]
 rfl
end Go.Proofs.YtmpgfchkkemngaaGreatDoor
namespace Go.Proofs.YtmpgfchkkemngaaGreatDoor
open Go.RowKit Go.V
open Go.Eng (inR byteAt u8 bH)
variable {g : Gv}
def scL : Bool → Bool × List UInt8 × Bool × Int → List UInt8 → Option (Bool × List UInt8 × Bool × Int)
 | _, st, [] => some st
 | f, (ng, ds, dt, k), c :: r =>
  if f = true ∧ c = 45 then scL false (true, ds, dt, k) r
  else if c = 46 ∧ dt = false then scL false (ng, ds, true, k) r
  else if bA c = true then scL false (ng, ds ++ [c], dt, if dt then k + 1 else k) r
  else none
theorem aA5 (l r : List UInt8) (h : l.all bA = true) (hl : 0 < l.length) (f ng : Bool) (ds : List UInt8) (dt : Bool) (k : Int) :
  scL f (ng, ds, dt, k) (l ++ r) = scL false (ng, ds ++ l, dt, if dt then k + l.length else k) r := by
 induction l generalizing f ds k with
 | nil => simp at hl
 | cons c l ih =>
  rw [List.all_cons, Bool.and_eq_true] at h
  have hc := aFA h.1
  rw [List.cons_append, scL, if_neg (fun x => hc.1 x.2), if_neg (fun x => hc.2 x.1), if_pos h.1]
  cases l with
  | nil => cases dt <;> simp
  | cons d l =>
   rw [ih h.2 (by simp)]
   cases dt
   simp
   simp only [if_true, List.append_assoc, List.singleton_append, List.length_cons]
   congr 4; push_cast; omega
theorem aA4 {n s : Int} (h : dC n s = true) : scL true (false, [], false, 0) (bV n s) = some (decide (n < 0), eN n.natAbs s.toNat, decide (¬ s = 0), s) := by
 have h0 := (fJ h).1
 have key : ∀ f ng, scL f (ng, [], false, 0) (mO n.natAbs s.toNat) = some (ng, eN n.natAbs s.toNat, decide (¬ s = 0), s) := by
  intro f ng
  have hd := (jX n.natAbs s.toNat).2
  rw [iB, List.all_append, Bool.and_eq_true] at hd
  rw [vE, aA5 _ _ hd.1 (l4 _), iB]
  by_cases hs : s = 0
  subst hs
  simp [scL, l6]
  have hs' : ¬ s.toNat = 0 := by omega
  have e : (l6 s.toNat n.natAbs) = l6 s.toNat n.natAbs ++ [] := by simp
  rw [if_neg hs', scL, if_neg (by decide), if_pos ⟨rfl, rfl⟩, e, aA5 _ _ hd.2 (by rw [gX]; omega), scL]
  simp only [List.append_nil, List.nil_append, if_true, gX, hs, not_false_eq_true, decide_true, Bool.false_eq_true, if_false]
  congr 4; omega
 rw [j8 h0]
 by_cases hn : n < 0
 rw [if_pos hn, List.singleton_append, scL, if_pos ⟨rfl, rfl⟩, key]; simp [hn]
 rw [if_neg hn, List.nil_append, key]; simp [hn]
theorem aJ6 {f : Bool} {w : List UInt8} {i : Nat} (hi : i < w.length) (ng : Bool) (ds : List UInt8) (dt : Bool) (k : Int) :
    scL f (ng, ds, dt, k) (w.drop i) =
      (if f = true ∧ w.getD i 0 = 45 then scL false (true, ds, dt, k) (w.drop (i + 1))
       else if w.getD i 0 = 46 ∧ dt = false then scL false (ng, ds, true, k) (w.drop (i + 1))
       else if bA (w.getD i 0) = true then scL false (ng, ds ++ [w.getD i 0], dt, if dt then k + 1 else k) (w.drop (i + 1))
       else none) := by
  have e : w.drop i = w.getD i 0 :: w.drop (i + 1) := by
    rw [List.getD_eq_getElem?_getD, List.getElem?_eq_getElem hi]; exact List.drop_eq_getElem_cons hi
  rw [e, scL]
theorem at_eq {w : List UInt8} {i : Nat} {c : UInt8} : (byteAt (S w) (i : Int) = (c.toNat : Int)) = (w.getD i 0 = c) := by
 have e := cT w (i : Int)
 rw [Int.toNat_natCast] at e
 rw [e]
 apply propext
 constructor
 intro h; exact UInt8.toNat_inj.1 (by omega)
 rintro h; rw [h]
theorem aJF {w : List UInt8} {i : Nat} : (byteAt (S w) (i : Int) = 45) = (w.getD i 0 = 45) := at_eq (c := 45)
theorem at46 {w : List UInt8} {i : Nat} : (byteAt (S w) (i : Int) = 46) = (w.getD i 0 = 46) := at_eq (c := 46)
theorem aNT {w : List UInt8} {i : Nat} : bA (w.getD i 0) = decide (48 ≤ byteAt (S w) (i : Int) ∧ byteAt (S w) (i : Int) ≤ 57) := by
 have e := cT w (i : Int)
 rw [Int.toNat_natCast] at e
 rw [e, bA]
 apply Bool.eq_iff_iff.2
 simp only [Bool.and_eq_true, decide_eq_true_eq]; omega
theorem aM5 {l : List UInt8} (h : l.all bA = true) {k : Nat} (hk : k < l.length) : IntKind.wrap .i64 (IntKind.wrap .u8 (byteAt (S l) (k : Int) - 48)) = (((l.getD k 0).toNat - 48 : Nat) : Int) := by
 have := sI h hk
 exact (pG (by omega) (by omega)).2
theorem nb_dval {l : List UInt8} (h : l.all bA = true) : (nb (cV l)).length ≤ l.length :=
 gJ (Nat.lt_of_lt_of_le (sF h) (Nat.pow_le_pow_left (by decide) _))
theorem nb_lt (n : Nat) : n < 256 ^ (nb n).length := by
 rcases Nat.lt_or_ge n (256 ^ (nb n).length) with h | h
 exact h
 have := qH h; omega
theorem nb_mul1 (m : Nat) : (nb (m * 10)).length ≤ (nb m).length + 1 :=
 gJ (by have := nb_lt m; rw [Nat.pow_succ]; omega)
theorem aK9 (x : Int) (n : Nat) (h : x = n) (hn : n ≤ 1000) : SpG g 136 [.c (cI x)] [] (.c (cS (S (nb n)))) [] := by
 subst h; exact lF _ ⟨by omega, by omega⟩
theorem tG (w : List UInt8) (hw : w.length ≤ 100000000) :
  SpG g 94 [.c (cS (S w))] [] (y6 (iY w) (iX w) (gG w)) [] := by
 refine aF 94 Tryz.func94 (by kernel_rfl) fun fr hG => ?_
 refine zL hG [] [0, 1, 0, 1, 1, 1, 1] (fun (zz : Nat × Bool × List UInt8 × ByteArray × Bool × Int) => match zz with | (i, ng, ds, dv, dt, sc) => (w.length - i, ⟨[zS 0 (S w), zX 2 100 0, zB 3 false, zX 4 201 0, zS 5 dv, zB 6 dt, zI 7 (i : Int)], [(100, .box 26 [cI 0, cI 0]), (201, .box 123 [cB ng, cS (S []), cI sc])]⟩, dv = S ds ∧ i ≤ w.length ∧ ds.length ≤ i ∧ 0 ≤ sc ∧ sc ≤ i ∧ ds.all bA = true ∧ scL true (false, [], false, 0) w = scL (decide (i = 0)) (ng, ds, dt, sc) (w.drop i))) (0, false, [], S [], false, 0) aA ?_ ?_
 exact ⟨rfl, Nat.zero_le _, Nat.le_refl _, Int.le_refl _, Int.le_refl _, rfl, rfl⟩
 rintro ⟨i, ng, ds, dv, dt, sc⟩ ⟨hdv, hi, hdl, hs0, hs1, hda, hsc⟩
 have hds : dv.size = ds.length := by rw [hdv, aD]
 have hst : i < w.length → _ := fun h => aJ6 (f := decide (i = 0)) h ng ds dt sc
 refine zc hG [] [1, 0] (decide (((i : Int) : Int) < ((S w).size : Int))) aA (fun hc2 => ?_) (fun hc2 => ?_)
 (try simp only [eV] at hc2)
 refine zc hG [] [1, 0, 0, 0, 1] ((decide (((i : Int) : Int) = 0)) && (decide ((byteAt (S w) (i : Int) : Int) = 45))) (aC (by intros; (try simp only [jK, ByteArray.size_append, ByteArray.size_extract] at *); first | omega | decide | (unfold inR; omega) : (decide (((i : Int) : Int) = 0)) = true → (0 : Int) ≤ (i : Int) ∧ (i : Int) < ((S w).size : Int))) (fun hc3 => ?_) (fun hc3 => ?_)
 (try simp only [eV] at hc3)
 have h45 : (decide (i = 0) = true ∧ w.getD i 0 = 45) := by rw [decide_eq_true_eq, ← aJF]; omega
 refine zD hG [] (i + 1, true, ds, dv, dt, sc) (aC (by intros; (try simp only [jK, ByteArray.size_append, ByteArray.size_extract] at *); first | omega | decide | (unfold inR; omega) : inR ((i : Int) + 1))) ?_ ?_
 (try dsimp only); omega
 refine ⟨?_, by omega, by (try simp only [dG]); omega, by omega, by omega, ?_, ?_⟩
 first | exact hdv | (rw [hdv, d4 (by omega), aZ])
 first | exact hda | (rw [List.all_append, hda]; simp only [List.all_cons, List.all_nil, hdg]; rfl)
 have hz : decide (i + 1 = 0) = false := by simp
 rw [hsc, hst (by omega), hz]
 first | rw [if_pos h45] | rw [if_neg h45, if_pos h46] | (rw [if_neg h45, if_neg h46, if_pos hdg]; simp only [hdt, if_true, Bool.false_eq_true, if_false])
 (try simp only [eV] at hc3)
 have h45 : ¬ (decide (i = 0) = true ∧ w.getD i 0 = 45) := by rw [decide_eq_true_eq, ← aJF]; omega
 refine zc hG [] [1, 1, 1, 0, 0, 0, 1] ((decide ((byteAt (S w) (i : Int) : Int) = 46)) && !dt) (aC (by intros; (try simp only [jK, ByteArray.size_append, ByteArray.size_extract] at *); first | omega | decide | (unfold inR; omega) : (0 : Int) ≤ (i : Int) ∧ (i : Int) < ((S w).size : Int))) (fun hc4 => ?_) (fun hc4 => ?_)
 (try simp only [eV] at hc4)
 have h46 : w.getD i 0 = 46 ∧ dt = false := by rw [← at46]; exact hc4
 refine zD hG [] (i + 1, ng, ds, dv, true, sc) (aC (by intros; (try simp only [jK, ByteArray.size_append, ByteArray.size_extract] at *); first | omega | decide | (unfold inR; omega) : inR ((i : Int) + 1))) ?_ ?_
 (try dsimp only); omega
 refine ⟨?_, by omega, by (try simp only [dG]); omega, by omega, by omega, ?_, ?_⟩
 first | exact hdv | (rw [hdv, d4 (by omega), aZ])
 first | exact hda | (rw [List.all_append, hda]; simp only [List.all_cons, List.all_nil, hdg]; rfl)
 have hz : decide (i + 1 = 0) = false := by simp
 rw [hsc, hst (by omega), hz]
 first | rw [if_pos h45] | rw [if_neg h45, if_pos h46] | (rw [if_neg h45, if_neg h46, if_pos hdg]; simp only [hdt, if_true, Bool.false_eq_true, if_false])
 (try simp only [eV] at hc4)
 have h46 : ¬ (w.getD i 0 = 46 ∧ dt = false) := by
  rw [← at46]; rintro ⟨a, b⟩; rcases hc4 with h | h
  exact h a
  rw [b] at h; cases h
 refine zc hG [] [1, 1, 1, 1, 1, 0, 0, 0, 1] ((decide ((byteAt (S w) (i : Int) : Int) ≥ 48)) && (decide ((byteAt (S w) (i : Int) : Int) ≤ 57))) (aB (by intros; (try simp only [jK, ByteArray.size_append, ByteArray.size_extract] at *); first | omega | decide | (unfold inR; omega) : (0 : Int) ≤ (i : Int) ∧ (i : Int) < ((S w).size : Int)) (aC (by intros; (try simp only [jK, ByteArray.size_append, ByteArray.size_extract] at *); first | omega | decide | (unfold inR; omega) : (decide ((byteAt (S w) (i : Int) : Int) ≥ 48)) = true → (0 : Int) ≤ (i : Int) ∧ (i : Int) < ((S w).size : Int)))) (fun hc5 => ?_) (fun hc5 => ?_)
 (try simp only [eV] at hc5)
 have hdg : bA (w.getD i 0) = true := by rw [aNT, decide_eq_true_eq]; omega
 refine zC hG [] [1, 1, 0, 1, 1, 1, 1, 1, 0, 0, 0, 1] (dt) (⟨[zS 0 (S w), zX 2 100 0, zB 3 false, zX 4 201 0, zS 5 (dv ++ ((S w).extract i ((i : Int) + 1 : Int).toNat)), zB 6 dt, zI 7 (i : Int)], [(100, .box 26 [cI 0, cI 0]), (201, .box 123 [cB ng, cS (S []), cI sc])]⟩) (aB (by intros; (try simp only [jK, ByteArray.size_append, ByteArray.size_extract] at *); first | omega | decide | (unfold inR; omega) : inR ((i : Int) + 1)) (aB (by intros; (try simp only [jK, ByteArray.size_append, ByteArray.size_extract] at *); first | omega | decide | (unfold inR; omega) : (0 : Int) ≤ (i : Int) ∧ ((i : Int) : Int) ≤ ((i : Int) + 1) ∧ ((i : Int) + 1) ≤ ((S w).size : Int)) (aC (by intros; (try simp only [jK, ByteArray.size_append, ByteArray.size_extract] at *); first | omega | decide | (unfold inR; omega) : (dv).size + ((S w).extract i ((i : Int) + 1 : Int).toNat).size ≤ maxLen)))) (fun hc6 => ?_) (fun hc6 => ?_)
 (try simp only [eV] at hc6)
 have hdt := hc6
 refine zD hG [] (i + 1, ng, ds ++ [w.getD i 0], dv ++ ((S w).extract i ((i : Int) + 1 : Int).toNat), dt, sc + 1) (aB (by intros; (try simp only [jK, ByteArray.size_append, ByteArray.size_extract] at *); first | omega | decide | (unfold inR; omega) : inR (sc + 1)) (aC (by intros; (try simp only [jK, ByteArray.size_append, ByteArray.size_extract] at *); first | omega | decide | (unfold inR; omega) : inR ((i : Int) + 1)))) ?_ ?_
 (try dsimp only); omega
 refine ⟨?_, by omega, by (try simp only [dG]); omega, by omega, by omega, ?_, ?_⟩
 first | exact hdv | (rw [hdv, d4 (by omega), aZ])
 first | exact hda | (rw [List.all_append, hda]; simp only [List.all_cons, List.all_nil, hdg]; rfl)
 have hz : decide (i + 1 = 0) = false := by simp
 rw [hsc, hst (by omega), hz]
 first | rw [if_pos h45] | rw [if_neg h45, if_pos h46] | (rw [if_neg h45, if_neg h46, if_pos hdg]; simp only [hdt, if_true, Bool.false_eq_true, if_false])
 (try simp only [eV] at hc6)
 have hdt := hc6
 refine zD hG [] (i + 1, ng, ds ++ [w.getD i 0], dv ++ ((S w).extract i ((i : Int) + 1 : Int).toNat), dt, sc) (aC (by intros; (try simp only [jK, ByteArray.size_append, ByteArray.size_extract] at *); first | omega | decide | (unfold inR; omega) : inR ((i : Int) + 1))) ?_ ?_
 (try dsimp only); omega
 refine ⟨?_, by omega, by (try simp only [dG]); omega, by omega, by omega, ?_, ?_⟩
 first | exact hdv | (rw [hdv, d4 (by omega), aZ])
 first | exact hda | (rw [List.all_append, hda]; simp only [List.all_cons, List.all_nil, hdg]; rfl)
 have hz : decide (i + 1 = 0) = false := by simp
 rw [hsc, hst (by omega), hz]
 first | rw [if_pos h45] | rw [if_neg h45, if_pos h46] | (rw [if_neg h45, if_neg h46, if_pos hdg]; simp only [hdt, if_true, Bool.false_eq_true, if_false])
 (try simp only [eV] at hc5)
 have hdg : ¬ bA (w.getD i 0) = true := by rw [aNT, decide_eq_true_eq]; omega
 refine zE hG [] .ret (⟨[zS 0 (S w), zX 2 100 0, zB 3 false, zX 4 201 0, zS 5 dv], [(100, .box 26 [cI 0, cI 0]), (201, .box 123 [cB ng, cS (S []), cI sc])]⟩) aA rfl ?_
 refine zR hG [] [] (y8) [] aA ?_ ?_
 have hno : ∀ n s, dC n s = true → bV n s = w → False := by
  intro n s hb he
  have e := aA4 hb
  rw [he, hsc, hst (by omega), if_neg h45, if_neg h46, if_neg hdg] at e
  cases e
 obtain ⟨r1, r2, r3⟩ := nE hno
 rw [r1, r2, r3]
 rfl
 (try simp only [eV] at hc2)
 refine zE hG [] (.exit 0) (⟨[zS 0 (S w), zX 2 100 0, zB 3 false, zX 4 201 0, zS 5 dv], [(100, .box 26 [cI 0, cI 0]), (201, .box 123 [cB ng, cS (S []), cI sc])]⟩) aA rfl ?_
 refine zL hG [] [0, 1, 0, 1, 1, 1, 1, 1] (fun (zz : Nat × Nat) => match zz with | (k, m) => (ds.length - k, ⟨[zS 0 (S w), zX 2 100 0, zB 3 false, zX 4 201 0, zS 5 dv, zI 8 (k : Int)], [(100, .box 26 [cI 0, cI 0]), (201, y7 ng (S (nb m)) sc)]⟩, k ≤ ds.length ∧ m = cV (ds.take k))) (0, 0) aA ?_ ?_
 exact ⟨Nat.zero_le _, rfl⟩
 rintro ⟨k, m⟩ ⟨hk, hm⟩
 have hdk : (ds.take k).all bA = true := by
  rw [List.all_eq_true]; exact fun x hx => List.all_eq_true.1 hda x (List.mem_of_mem_take hx)
 have hnl := nb_dval hdk
 rw [List.length_take, Nat.min_eq_left hk, ← hm] at hnl
 have hds : dv.size = ds.length := by rw [hdv, aD]
 have hdw : k < ds.length → IntKind.wrap .i64 (IntKind.wrap .u8 (byteAt dv (k : Int) - 48)) = (((ds.getD k 0).toNat - 48 : Nat) : Int) := fun h => by rw [hdv]; exact aM5 hda h
 have hdl9 : k < ds.length → (ds.getD k 0).toNat - 48 ≤ 9 := fun h => by have := sI hda h; have e := cT ds (k : Int); rw [Int.toNat_natCast] at e; omega
 have hn9 : k < ds.length → (nb ((ds.getD k 0).toNat - 48)).length ≤ 1 := fun h => gJ (by have := hdl9 h; omega)
 have hnm := nb_mul1 m
 have h10 := aLJ
 refine zc hG [] [1, 0] (decide (((k : Int) : Int) < ((dv).size : Int))) aA (fun hc8 => ?_) (fun hc8 => ?_)
 (try simp only [eV] at hc8)
 refine zD hG [(19, 2, kS (S (nb 10))), (19, 3, kS (S (nb (m * 10)))), (19, 9, kS (S (nb ((ds.getD k 0).toNat - 48)))), (19, 10, kS (S (nb ((m * 10) + ((ds.getD k 0).toNat - 48)))))] (k + 1, m * 10 + ((ds.getD k 0).toNat - 48)) (aB (aK9 10 10 rfl (by decide) : SpG g _ _ _ _ _) (aB (aLN m 10 (by omega) (by omega) (by omega) : SpG g _ _ _ _ _) (aB (by intros; (try simp only [jK, ByteArray.size_append, ByteArray.size_extract] at *); first | omega | decide | (unfold inR; omega) : (0 : Int) ≤ (k : Int) ∧ (k : Int) < ((dv).size : Int)) (aB (aK9 (IntKind.wrap .i64 (IntKind.wrap .u8 ((byteAt (dv) (k : Int)) - 48))) ((ds.getD k 0).toNat - 48) (hdw (by omega)) (by have := hdl9 (by omega); omega) : SpG g _ _ _ _ _) (aB (aAI (m * 10) ((ds.getD k 0).toNat - 48) (by omega) (by omega) : SpG g _ _ _ _ _) (aC (by intros; (try simp only [jK, ByteArray.size_append, ByteArray.size_extract] at *); first | omega | decide | (unfold inR; omega) : inR ((k : Int) + 1)))))))) ?_ ?_
 (try dsimp only); omega
 exact ⟨by omega, by rw [nC (by omega), hm, Nat.mul_comm]⟩
 (try simp only [eV] at hc8)
 refine zE hG [] (.exit 3) (⟨[zS 0 (S w), zX 2 100 0, zB 3 false, zX 4 201 0], [(100, .box 26 [cI 0, cI 0]), (201, y7 ng (S (nb m)) sc)]⟩) aA rfl ?_
 refine zC hG [(20, 1, kC (y6 (eB (ng) m sc) (eA m sc) (eJ m sc))), (21, 4, kS (S (bV (eB (ng) m sc) (eA m sc))))] [1, 0, 1, 1, 1, 1, 1, 1, 1] ((!(eJ m sc)) || (!((S (bV (eB (ng) m sc) (eA m sc))).toList == (S w).toList))) (⟨[zX 2 100 0, zB 3 false, zX 9 2105 0], [(100, .box 26 [cI 0, cI 0]), (2105, .box 26 [cI (eB (ng) m sc), cI (eA m sc)])]⟩) (aB (aMF (ng) m sc (by omega) (by omega) (by omega) : SpG g _ _ _ _ _) (aC (fun (hg1 : (!(eJ m sc)) = false) => (nT (eB (ng) m sc) (eA m sc) (gK _ _ _) : SpG g _ _ _ _ _)))) (fun hc9 => ?_) (fun hc9 => ?_)
 (try simp only [eV] at hc9)
 refine zR hG [] [] (y8) [] aA ?_ ?_
 have hno : ∀ n s, dC n s = true → bV n s = w → False := by
  intro n s hb he
  have e := aA4 hb
  rw [he, hsc, show w.drop i = [] from List.drop_eq_nil_iff.2 (by omega), scL] at e
  obtain ⟨e1, e2, e3, e4⟩ : ng = decide (n < 0) ∧ ds = eN n.natAbs s.toNat ∧ dt = decide (¬ s = 0) ∧ sc = s := by
   simp only [Option.some.injEq, Prod.mk.injEq] at e; exact e
  have hmm : m = n.natAbs := by rw [hm, List.take_of_length_le (by omega), e2, (jX _ _).1]
  obtain ⟨f1, f2, f3⟩ := aCQ hb
  rw [e1, hmm, e4, f1, f2, f3] at hc9
  rcases hc9 with h | h
  cases h
  exact h he
 obtain ⟨r1, r2, r3⟩ := nE hno
 rw [r1, r2, r3]
 rfl
 (try simp only [eV] at hc9)
 refine zR hG [] [] (y9 (eB (ng) m sc) (eA m sc)) [] aA ?_ ?_
 obtain ⟨r1, r2, r3⟩ := mG (gK _ _ _) (hc9.2)
 rw [r1, r2, r3]
 rfl
end Go.Proofs.YtmpgfchkkemngaaGreatDoor
namespace Go.Proofs.YtmpgfchkkemngaaGreatDoor
open Go.RowKit Go.V
open Go.Eng (inR byteAt u8 bH)
variable {g : Gv}
noncomputable def eK (w : List UInt8) : Bool := decide (0 ≤ oK w ∧ oK w ≤ 3652058) && decide (aS (oK w) = w)
noncomputable def fB (w : List UInt8) : Int := if eK w then oK w else 0
theorem nF {n : Int} {w : List UInt8} (h0 : 0 ≤ n) (h1 : n ≤ 3652058) (e : aS n = w) : eK w = true ∧ fB w = n := by
 have hp := xH h0 h1
 rw [e] at hp
 have hk : eK w = true := by rw [eK, hp]; simp [h0, h1, e]
 exact ⟨hk, by rw [fB, if_pos hk, hp]⟩
theorem j9 {w : List UInt8} (h : ∀ n, 0 ≤ n → n ≤ 3652058 → aS n = w → False) : eK w = false ∧ fB w = 0 := by
 have hk : eK w = false := by
  cases hb : eK w with
  | false => rfl
  | true =>
   simp only [eK, Bool.and_eq_true, decide_eq_true_eq] at hb
   exact (h _ hb.1.1 hb.1.2 hb.2).elim
 exact ⟨hk, by rw [fB, hk]; rfl⟩
theorem oJ {n : Int} {w : List UInt8} (h0 : 0 ≤ n) (h1 : n ≤ 3652058) (e : aS n = w) :
  w = w.take 4 ++ 45 :: ((w.drop 5).take 2 ++ 45 :: w.drop 8) ∧ w.length = 10 ∧ (w.take 4).all bA = true ∧ ((w.drop 5).take 2).all bA = true ∧ (w.drop 8).all bA = true ∧
  (cV (w.take 4) : Int) = (civ n).1 ∧ (cV ((w.drop 5).take 2) : Int) = (civ n).2.1 ∧ (cV (w.drop 8) : Int) = (civ n).2.2 := by
 obtain ⟨a, b, c, d, e', f⟩ := oM h0 h1
 have ly := fI (x := (civ n).1) (k := 4) (by omega) (.inr ⟨rfl, by omega⟩)
 have lm := fI (x := (civ n).2.1) (k := 2) (by omega) (.inl ⟨rfl, by omega⟩)
 have ld := fI (x := (civ n).2.2) (k := 2) (by omega) (.inl ⟨rfl, by omega⟩)
 have vy := dI (x := (civ n).1) (k := 4) (by omega) (by omega) (by decide)
 have vm := dI (x := (civ n).2.1) (k := 2) (by omega) (by omega) (by decide)
 have vd := dI (x := (civ n).2.2) (k := 2) (by omega) (by omega) (by decide)
 have hT : w = dB 5 (civ n).1 4 [] ++ [45] ++ dB 5 (civ n).2.1 2 [] ++ [45] ++ dB 5 (civ n).2.2 2 [] := e.symm
 generalize dB 5 (civ n).1 4 [] = Y at *
 generalize dB 5 (civ n).2.1 2 [] = M at *
 generalize dB 5 (civ n).2.2 2 [] = X at *
 have e1 : w.take 4 = Y := by rw [hT]; simp [List.take_append, ly]
 have e2 : (w.drop 5).take 2 = M := by rw [hT]; simp [List.drop_append, List.take_append, ly, lm]
 have e3 : w.drop 8 = X := by
  have l1 : Y.length = 4 := ly
  have l2 : M.length = 2 := lm
  rw [hT, List.drop_left' (by simp [l1, l2])]
 rw [e1, e2, e3]
 refine ⟨by rw [hT]; simp, by rw [hT]; simp [ly, lm, ld], vy.2, vm.2, vd.2, by rw [vy.1]; omega, by rw [vm.1]; omega, by rw [vd.1]; omega⟩
theorem uM : ∀ {a b : List UInt8}, a.length = b.length → a.all bA = true → b.all bA = true → cV a = cV b → a = b := by
 intro a
 induction a using oY with
 | h0 => intro b hl _ _ _; exact (List.length_eq_zero_iff.1 (by simpa using hl.symm)).symm
 | h1 a x ih =>
  intro b
  induction b using oY with
  | h0 => intro hl; simp at hl
  | h1 b y _ =>
   intro hl ha hb hv
   rw [List.all_append, Bool.and_eq_true] at ha hb
   have hx := ha.2
   have hy := hb.2
   simp only [List.all_cons, List.all_nil, bA, Bool.and_true, Bool.and_eq_true, decide_eq_true_eq] at hx hy
   rw [j6, j6] at hv
   have e1 : x = y := UInt8.toNat_inj.1 (by omega)
   rw [ih (by simpa using hl) ha.1 hb.1 (by omega), e1]
theorem aI5 {w : List UInt8} (hl : w.length = 10) (h4 : w.getD 4 0 = 45) (h7 : w.getD 7 0 = 45) (hy : (w.take 4).all bA = true) (hm : ((w.take 7).drop 5).all bA = true) (hd : (w.drop 8).all bA = true)
  (hv : vld (cV (w.take 4)) (cV ((w.take 7).drop 5)) (cV (w.drop 8))) : aS (eR (cV (w.take 4)) (cV ((w.take 7).drop 5)) (cV (w.drop 8))) = w := by
 have hvv := hv
 obtain ⟨a, b, c, d, e, f⟩ := hv
 have hdi := iE (cV (w.take 4)) (cV ((w.take 7).drop 5))
 rw [aS, uX hvv rfl]
 have ly := fI (x := (cV (w.take 4) : Int)) (k := 4) (by omega) (.inr ⟨rfl, by omega⟩)
 have lm := fI (x := (cV ((w.take 7).drop 5) : Int)) (k := 2) (by omega) (.inl ⟨rfl, by omega⟩)
 have ld := fI (x := (cV (w.drop 8) : Int)) (k := 2) (by omega) (.inl ⟨rfl, by omega⟩)
 have vy := dI (x := (cV (w.take 4) : Int)) (k := 4) (by omega) (by omega) (by decide)
 have vm := dI (x := (cV ((w.take 7).drop 5) : Int)) (k := 2) (by omega) (by omega) (by decide)
 have vd := dI (x := (cV (w.drop 8) : Int)) (k := 2) (by omega) (by omega) (by decide)
 rw [uM (by rw [ly]; simp [hl]) vy.2 hy (by rw [vy.1, Int.toNat_natCast]), uM (by rw [lm]; simp [hl]) vm.2 hm (by rw [vm.1, Int.toNat_natCast]), uM (by rw [ld]; simp [hl]) vd.2 hd (by rw [vd.1, Int.toNat_natCast])]
 match w, hl with
 | [c0, c1, c2, c3, c4, c5, c6, c7, c8, c9], _ =>
  simp only [List.getD_cons_succ, List.getD_cons_zero] at h4 h7
  subst h4; subst h7; rfl
theorem aGK {y m d : Int} (h : vld y m d) : 0 ≤ eR y m d ∧ eR y m d ≤ 3652058 := by
 obtain ⟨a, b, c, d1, e, f⟩ := h
 have h1 := oI y a (by omega)
 have h2 := iZ y 1 m (by omega) c
 have h3 := iZ y (m + 1) 13 (by omega) (by omega)
 have h4 := mI y a
 have h5 := oI (y + 1) (by omega) (by omega)
 have h6 := eP y m c
 rw [uS] at h2
 rw [qW] at h3
 unfold eR; omega
def eH (l : List UInt8) : Int := if l.all bA then (cV l : Int) else 0
theorem numR_nn (l : List UInt8) : 0 ≤ eH l := by unfold eH; split <;> omega
theorem iC {l : List UInt8} (h : l.all bA = true) : eH l = (cV l : Int) := by rw [eH, h]; rfl
theorem take7 (w : List UInt8) : (w.take 7).drop 5 = (w.drop 5).take 2 := by rw [List.drop_take]
theorem aCK {a b : List UInt8} {c : UInt8} {k : Nat} (h : a.length = k) : (a ++ c :: b).getD k 0 = c := by
 subst h; simp
theorem aI6 {w : List UInt8} (p0 : w = w.take 4 ++ 45 :: ((w.drop 5).take 2 ++ 45 :: w.drop 8)) (p1 : w.length = 10) : w.getD 4 0 = 45 ∧ w.getD 7 0 = 45 := by
 have e : w.take 4 ++ 45 :: ((w.drop 5).take 2 ++ 45 :: w.drop 8) = (w.take 4 ++ 45 :: ((w.drop 5).take 2)) ++ 45 :: w.drop 8 := by simp
 have q := p0.trans e
 exact ⟨(congrArg (fun x => List.getD x 4 0) p0).trans (aCK (by simp [p1])), (congrArg (fun x => List.getD x 7 0) q).trans (aCK (by simp [p1]))⟩
theorem at4 {w : List UInt8} (h : byteAt (S w) 4 = 45) : w.getD 4 0 = 45 := Eq.mp (aJF (w := w) (i := 4)) h
theorem at7 {w : List UInt8} (h : byteAt (S w) 7 = 45) : w.getD 7 0 = 45 := Eq.mp (aJF (w := w) (i := 7)) h
theorem at4' {w : List UInt8} (h : w.getD 4 0 = 45) : byteAt (S w) 4 = 45 := Eq.mpr (aJF (w := w) (i := 4)) h
theorem at7' {w : List UInt8} (h : w.getD 7 0 = 45) : byteAt (S w) 7 = 45 := Eq.mpr (aJF (w := w) (i := 7)) h
theorem aHG (y m d : Int) :
  SpG g 231 [.c (cI y), .c (cI m), .c (cI d)] [] (.c (cB (eX y m d))) [] := by
 refine aF 30 Tryz.func231 (by kernel_rfl) fun fr hG => ?_
 refine zC hG [] [1, 0, 1] ((((decide ((y : Int) < 1)) || (decide ((y : Int) > 9999))) || (decide ((m : Int) < 1))) || (decide ((m : Int) > 12))) (⟨[zI 0 y, zI 1 m, zI 2 d, zB 6 false], []⟩) aA (fun hc1 => ?_) (fun hc1 => ?_)
 (try simp only [blS] at hc1)
 refine zR hG [] [] (.c (cB false)) [] aA ?_ ?_
 ·first | rfl | (show SV.c (C.d (D.b _)) = SV.c (C.d (D.b _)); congr 3; simp only [eX]; rw [Bool.eq_iff_iff]; simp; done) | (show SV.c (C.d (D.b _)) = SV.c (C.d (D.b _)); congr 3; simp only [eX]; rw [Bool.eq_iff_iff]; simp; omega)
 rfl
 (try simp only [blS] at hc1)
 refine zR hG [(3, 6, kI (dM y m))] [] (.c (cB ((decide ((d : Int) ≥ 1)) && (decide ((d : Int) ≤ (dM y m)))))) [] (aC (fun (hg1 : (decide ((d : Int) ≥ 1)) = true) => (pO y m (by omega) (by omega) (by omega) : SpG g _ _ _ _ _))) ?_ ?_
 ·first | rfl | (show SV.c (C.d (D.b _)) = SV.c (C.d (D.b _)); congr 3; simp only [eX]; rw [Bool.eq_iff_iff]; simp; done) | (show SV.c (C.d (D.b _)) = SV.c (C.d (D.b _)); congr 3; simp only [eX]; rw [Bool.eq_iff_iff]; simp; omega)
 rfl
theorem yE (y m d : Int) (h0 : 0 ≤ y) :
  SpG g 182 [.c (cI y), .c (cI m), .c (cI d)] [] (.c (cB (eX y m d))) [] := by
 refine aF 32 Tryz.func182 (by kernel_rfl) fun fr hG => ?_
 refine zR hG [(1, 22, kI (dM y m))] [] (.c (cB ((((((decide ((y : Int) ≥ 1)) && (decide ((y : Int) ≤ 9999))) && (decide ((m : Int) ≥ 1))) && (decide ((m : Int) ≤ 12))) && (decide ((d : Int) ≥ 1))) && (decide ((d : Int) ≤ (dM y m)))))) [] (aC (fun (hg1 : (((((decide ((y : Int) ≥ 1)) && (decide ((y : Int) ≤ 9999))) && (decide ((m : Int) ≥ 1))) && (decide ((m : Int) ≤ 12))) && (decide ((d : Int) ≥ 1))) = true) => (jG y m (by omega) : SpG g _ _ _ _ _))) ?_ ?_
 ·first | rfl | (show SV.c (C.d (D.b _)) = SV.c (C.d (D.b _)); congr 3; simp only [eX]; rw [Bool.eq_iff_iff]; simp; done) | (show SV.c (C.d (D.b _)) = SV.c (C.d (D.b _)); congr 3; simp only [eX]; rw [Bool.eq_iff_iff]; simp; omega)
 rfl
theorem aEM (y m d : Int) (h1 : 1 ≤ y) (h2 : y ≤ 9999) (h3 : 1 ≤ m) (h4 : m ≤ 12) (h5 : 1 ≤ d) (h6 : d ≤ 31) :
  SpG g 232 [.c (cI y), .c (cI m), .c (cI d)] [] (.c (cI (eR y m d))) [] := by
 have hdb := oI y h1 (by omega)
 refine aF 25 Tryz.func232 (by kernel_rfl) fun fr hG => ?_
 refine zL hG [(1, 1, kI (dby y))] [0, 1, 0, 1, 1] (fun (zz : Int × Int) => match zz with | (t, k) => ((m - k).toNat, ⟨[zI 0 y, zI 1 m, zI 6 0, zI 7 t, zI 8 k], []⟩, 1 ≤ k ∧ k ≤ m ∧ t = dby y + d - 1 + cum y k)) (dby y + d - 1, 1) (aB (oN y (by omega) (by omega) : SpG g _ _ _ _ _) (aB (by intros; first | omega | decide | (simp only [zq0] at *; omega) : inR ((dby y) + d)) (aC (by intros; first | omega | decide | (simp only [zq0] at *; omega) : inR (((dby y) + d) - 1))))) ?_ ?_
 exact ⟨by omega, by omega, by rw [uS]; omega⟩
 rintro ⟨t, k⟩ ⟨hk1, hk2, ht⟩
 have hcb := uR y k hk1 (by omega)
 have hdl := iE y k
 have hcs := eP y k hk1
 refine zp hG [] [1, 0] ((k : Int) < m) aA (fun hc2 => ?_) (fun hc2 => ?_)
 skip
 refine zD hG [(5, 3, kI (dM y k))] (t + dM y k, k + 1) (aB (pO y k (by omega) (by omega) (by omega) : SpG g _ _ _ _ _) (aB (by intros; first | omega | decide | (simp only [zq0] at *; omega) : inR (t + (dM y k))) (aC (by intros; first | omega | decide | (simp only [zq0] at *; omega) : inR (k + 1))))) ?_ ?_
 (try dsimp only); omega
 exact ⟨by omega, by omega, by omega⟩
 skip
 refine zE hG [] (.exit 0) (⟨[zI 6 0, zI 7 t], []⟩) aA rfl ?_
 refine zR hG [] [] (.c (cI t)) [] aA ?_ ?_
 obtain rfl : k = m := by omega
 rw [ht]; rfl
 rfl
theorem aCV (y m d : Int) :
  SpG g 225 [.c (cI y), .c (cI m), .c (cI d)] [] (y2 (if eX y m d then eR y m d else 0) (eX y m d)) [] := by
 refine aF 17 Tryz.func225 (by kernel_rfl) fun fr hG => ?_
 refine zC hG [(1, 3, kB (eX y m d))] [1, 0, 1] (!(eX y m d)) (⟨[zI 0 y, zI 1 m, zI 2 d, zI 6 0, zB 7 false], []⟩) (aC (aHG y m d : SpG g _ _ _ _ _)) (fun hc1 => ?_) (fun hc1 => ?_)
 (try simp only [blS] at hc1)
 refine zR hG [] [] (y3) [] aA ?_ ?_
 rw [hc1]; rfl
 rfl
 (try simp only [blS] at hc1)
 have hv := xX hc1
 have hdl := iE y m
 refine zR hG [(3, 3, kI (eR y m d))] [] (y4 (eR y m d)) [] (aC (aEM y m d hv.1 hv.2.1 hv.2.2.1 hv.2.2.2.1 hv.2.2.2.2.1 (by have := hv.2.2.2.2.2; omega) : SpG g _ _ _ _ _)) ?_ ?_
 rw [hc1]; rfl
 rfl
theorem vM (y m d : Int) (h0 : 0 ≤ y) :
  SpG g 153 [.c (cI y), .c (cI m), .c (cI d)] [] (y2 (if eX y m d then eR y m d else 0) (eX y m d)) [] := by
 refine aF 33 Tryz.func153 (by kernel_rfl) fun fr hG => ?_
 refine zC hG [(1, 3, kB (eX y m d))] [1, 0, 1, 1] (!(eX y m d)) (⟨[zI 0 y, zI 1 m, zI 2 d, zI 6 0, zB 7 false], []⟩) (aC (yE y m d (by omega) : SpG g _ _ _ _ _)) (fun hc1 => ?_) (fun hc1 => ?_)
 (try simp only [blS] at hc1)
 refine zR hG [] [] (y3) [] aA ?_ ?_
 rw [hc1]; rfl
 rfl
 (try simp only [blS] at hc1)
 have hv := xX hc1
 obtain ⟨g1, g2, g3, g4, g5, g6⟩ := hv
 have hdl := iE y m
 have hdb := oI y g1 (by omega)
 refine zL hG [(4, 1, kI (dby y))] [0, 1, 0, 1, 1, 1, 1] (fun (zz : Int × Int) => match zz with | (t, k) => ((m - k).toNat, ⟨[zI 0 y, zI 1 m, zI 6 0, zB 7 false, zI 9 t, zI 10 k], []⟩, 1 ≤ k ∧ k ≤ m ∧ t = dby y + d - 1 + cum y k)) (dby y + d - 1, 1) (aB (kR y (by omega) (by omega) : SpG g _ _ _ _ _) (aB (by intros; first | omega | decide | (simp only [zq0] at *; omega) : inR ((dby y) + d)) (aC (by intros; first | omega | decide | (simp only [zq0] at *; omega) : inR (((dby y) + d) - 1))))) ?_ ?_
 exact ⟨by omega, by omega, by rw [uS]; omega⟩
 rintro ⟨t, k⟩ ⟨hk1, hk2, ht⟩
 have hcb := uR y k hk1 (by omega)
 have hdl2 := iE y k
 have hcs := eP y k hk1
 refine zp hG [] [1, 0] ((k : Int) < m) aA (fun hc3 => ?_) (fun hc3 => ?_)
 skip
 refine zD hG [(8, 3, kI (dM y k))] (t + dM y k, k + 1) (aB (jG y k (by omega) : SpG g _ _ _ _ _) (aB (by intros; first | omega | decide | (simp only [zq0] at *; omega) : inR (t + (dM y k))) (aC (by intros; first | omega | decide | (simp only [zq0] at *; omega) : inR (k + 1))))) ?_ ?_
 (try dsimp only); omega
 exact ⟨by omega, by omega, by omega⟩
 skip
 refine zE hG [] (.exit 0) (⟨[zI 6 0, zB 7 false, zI 9 t], []⟩) aA rfl ?_
 refine zR hG [] [] (y4 t) [] aA ?_ ?_
 obtain rfl : k = m := by omega
 rw [hc1, ht]; rfl
 rfl
theorem wH (l : List UInt8) (hl : l.length ≤ 4) :
  SpG g 152 [.c (cS (S l))] [] (y2 (eH l) (l.all bA && decide (0 < l.length))) [] := by
 refine aF 39 Tryz.func152 (by kernel_rfl) fun fr hG => ?_
 refine zL hG [] [0, 1, 0, 1, 1] (fun (zz : Nat × Int) => match zz with | (k, v) => (l.length - k, ⟨[zS 0 (S l), zI 2 0, zB 3 false, zI 4 v, zI 5 (k : Int)], []⟩, k ≤ l.length ∧ (l.take k).all bA = true ∧ v = (cV (l.take k) : Int))) (0, 0) aA ?_ ?_
 exact ⟨Nat.zero_le _, rfl, rfl⟩
 rintro ⟨k, v⟩ ⟨hk, hd, hv⟩
 have hdl := sF hd
 rw [List.length_take, Nat.min_eq_left hk] at hdl
 have hp : 10 ^ k ≤ 10 ^ 4 := Nat.pow_le_pow_right (by decide) (by omega)
 have hcl : ∀ b : UInt8, bA b = true → 0 ≤ (b.toNat : Int) - 48 ∧ b.toNat - 48 ≤ 9 := by intro b hb; simp only [bA, Bool.and_eq_true, decide_eq_true_eq] at hb; omega
 refine zc hG [] [1, 0] (decide (((k : Int) : Int) < ((S l).size : Int))) aA (fun hc2 => ?_) (fun hc2 => ?_)
 (try simp only [eW] at hc2)
 refine zc hG [] [1, 0, 0, 0, 1] ((decide ((byteAt (S l) (k : Int) : Int) < 48)) || (decide ((byteAt (S l) (k : Int) : Int) > 57))) (aB (by intros; (try simp only [aD] at *); first | omega | decide | (simp only [inR] at *; omega) : (0 : Int) ≤ (k : Int) ∧ (k : Int) < ((S l).size : Int)) (aC (by intros; (try simp only [aD] at *); first | omega | decide | (simp only [inR] at *; omega) : (decide ((byteAt (S l) (k : Int) : Int) < 48)) = false → (0 : Int) ≤ (k : Int) ∧ (k : Int) < ((S l).size : Int)))) (fun hc3 => ?_) (fun hc3 => ?_)
 (try simp only [eW] at hc3)
 refine zE hG [] .ret (⟨[zS 0 (S l), zI 2 0, zB 3 false, zI 4 v], []⟩) aA rfl ?_
 refine zR hG [] [] (y3) [] aA ?_ ?_
 have hno : l.all bA = false := by
  cases hb : l.all bA with
  | false => rfl
  | true => have := sI (k := k) hb (by omega); exfalso; omega
 rw [eH, hno]; rfl
 rfl
 (try simp only [eW] at hc3)
 obtain ⟨q1, q2⟩ := pG (l := l) (k := k) (by omega) (by omega)
 have q3 := hcl _ q1
 refine zD hG [] (k + 1, 10 * v + IntKind.wrap .i64 (IntKind.wrap .u8 (byteAt (S l) (k : Int) - 48))) (aB (by intros; (try simp only [aD] at *); first | omega | decide | (simp only [inR] at *; omega) : inR (10 * v)) (aB (by intros; (try simp only [aD] at *); first | omega | decide | (simp only [inR] at *; omega) : (0 : Int) ≤ (k : Int) ∧ (k : Int) < ((S l).size : Int)) (aB (by intros; (try simp only [aD] at *); first | omega | decide | (simp only [inR] at *; omega) : inR ((10 * v) + (IntKind.wrap .i64 (IntKind.wrap .u8 ((byteAt (S l) (k : Int)) - 48))))) (aC (by intros; (try simp only [aD] at *); first | omega | decide | (simp only [inR] at *; omega) : inR ((k : Int) + 1)))))) ?_ ?_
 (try dsimp only); omega
 refine ⟨by omega, u9 (by omega) hd q1, ?_⟩
 rw [q2, nC (by omega), hv]; push_cast; omega
 (try simp only [eW] at hc2)
 refine zE hG [] (.exit 0) (⟨[zS 0 (S l), zI 2 0, zB 3 false, zI 4 v], []⟩) aA rfl ?_
 refine zR hG [] [] (y2 v ((decide ((((S l).size : Int) : Int) > 0)) && (decide ((((S l).size : Int) : Int) < 5)))) [] aA ?_ ?_
 rw [List.take_of_length_le (by omega)] at hd hv
 rw [eH, hd, hv]; simp only [aD, if_true, Bool.true_and]
 have e : (decide ((l.length : Int) > 0) && decide ((l.length : Int) < 5)) = decide (0 < l.length) := by rw [Bool.eq_iff_iff]; simp; omega
 rw [e]
 rfl
theorem tF (w : List UInt8) (a b : Nat) (h : b ≤ a + 4) : SpG g 152 [.c (cS ((S w).extract a b))] [] (y2 (eH ((w.take b).drop a)) (((w.take b).drop a).all bA && decide (0 < ((w.take b).drop a).length))) [] := by
 rw [hO]; exact wH _ (by simp; omega)
theorem aBJ (w : List UInt8) (a : Nat) (h : w.length ≤ a + 4) : SpG g 152 [.c (cS ((S w).extract a (S w).size))] [] (y2 (eH (w.drop a)) ((w.drop a).all bA && decide (0 < (w.drop a).length))) [] := by
 rw [eC]; exact wH _ (by simp; omega)
def aJN := And.intro @aD (And.intro @decide_eq_false_iff_not (@decide_eq_true_eq))
theorem r4 (w : List UInt8) (hw : w.length < 4294967281) :
  SpG g 95 [.c (cS (S w))] [] (y2 (fB w) (eK w)) [] := by
 refine aF 65 Tryz.func95 (by kernel_rfl) fun fr hG => ?_
 refine zC hG [] [1, 0, 1] (((!decide ((((S w).size : Int) : Int) = 10)) || (!decide ((byteAt (S w) 4 : Int) = 45))) || (!decide ((byteAt (S w) 7 : Int) = 45))) (⟨[zS 0 (S w), zI 2 0, zB 3 false], []⟩) (aB (by intros; (try simp only [aJN, Bool.not_eq_false', beq_iff_eq, Bool.or_eq_false_iff, Bool.not_eq_true] at *); first | omega | decide | (simp only [inR] at *; omega) : (!decide ((((S w).size : Int) : Int) = 10)) = false → (0 : Int) ≤ 4 ∧ 4 < ((S w).size : Int)) (aC (by intros; (try simp only [aJN, Bool.not_eq_false', beq_iff_eq, Bool.or_eq_false_iff, Bool.not_eq_true] at *); first | omega | decide | (simp only [inR] at *; omega) : ((!decide ((((S w).size : Int) : Int) = 10)) || (!decide ((byteAt (S w) 4 : Int) = 45))) = false → (0 : Int) ≤ 7 ∧ 7 < ((S w).size : Int)))) (fun hc1 => ?_) (fun hc1 => ?_)
 (try simp only [eW] at hc1)
 refine zR hG [] [] (y3) [] aA ?_ ?_
 have hno : ∀ n, 0 ≤ n → n ≤ 3652058 → aS n = w → False := by
  intro n h0 h1 he
  obtain ⟨p0, p1, p2, p3, p4, p5, p6, p7⟩ := oJ h0 h1 he
  have g := aI6 p0 p1
  have g4 := at4' g.1
  have g7 := at7' g.2
  omega
 obtain ⟨r1, r2⟩ := j9 hno
 rw [r1, r2]
 rfl
 (try simp only [eW] at hc1)
 refine zC hG [(3, 2, kC (y2 (eH ((w.take 4).drop 0)) (((w.take 4).drop 0).all bA && decide (0 < ((w.take 4).drop 0).length)))), (4, 2, kC (y2 (eH ((w.take 7).drop 5)) (((w.take 7).drop 5).all bA && decide (0 < ((w.take 7).drop 5).length)))), (5, 2, kC (y2 (eH (w.drop 8)) ((w.drop 8).all bA && decide (0 < (w.drop 8).length)))), (6, 3, kC (y2 (if eX (eH ((w.take 4).drop 0)) (eH ((w.take 7).drop 5)) (eH (w.drop 8)) then eR (eH ((w.take 4).drop 0)) (eH ((w.take 7).drop 5)) (eH (w.drop 8)) else 0) (eX (eH ((w.take 4).drop 0)) (eH ((w.take 7).drop 5)) (eH (w.drop 8)))))] [1, 0, 1, 1, 1, 1, 1, 1] ((((!(((w.take 4).drop 0).all bA && decide (0 < ((w.take 4).drop 0).length))) || (!(((w.take 7).drop 5).all bA && decide (0 < ((w.take 7).drop 5).length)))) || (!((w.drop 8).all bA && decide (0 < (w.drop 8).length)))) || (!(eX (eH ((w.take 4).drop 0)) (eH ((w.take 7).drop 5)) (eH (w.drop 8))))) (⟨[zI 2 0, zB 3 false, zI 10 (if eX (eH ((w.take 4).drop 0)) (eH ((w.take 7).drop 5)) (eH (w.drop 8)) then eR (eH ((w.take 4).drop 0)) (eH ((w.take 7).drop 5)) (eH (w.drop 8)) else 0)], []⟩) (aB (by intros; (try simp only [aJN, Bool.not_eq_false', beq_iff_eq, Bool.or_eq_false_iff, Bool.not_eq_true] at *); first | omega | decide | (simp only [inR] at *; omega) : (0 : Int) ≤ 0 ∧ (0 : Int) ≤ 4 ∧ 4 ≤ ((S w).size : Int)) (aB (tF w 0 4 (by decide) : SpG g _ _ _ _ _) (aB (by intros; (try simp only [aJN, Bool.not_eq_false', beq_iff_eq, Bool.or_eq_false_iff, Bool.not_eq_true] at *); first | omega | decide | (simp only [inR] at *; omega) : (0 : Int) ≤ 5 ∧ (5 : Int) ≤ 7 ∧ 7 ≤ ((S w).size : Int)) (aB (tF w 5 7 (by decide) : SpG g _ _ _ _ _) (aB (by intros; (try simp only [aJN, Bool.not_eq_false', beq_iff_eq, Bool.or_eq_false_iff, Bool.not_eq_true] at *); first | omega | decide | (simp only [inR] at *; omega) : (0 : Int) ≤ 8 ∧ (8 : Int) ≤ ((S w).size : Int) ∧ ((S w).size : Int) ≤ ((S w).size : Int)) (aB (aBJ w 8 (by omega) : SpG g _ _ _ _ _) (aC (vM (eH ((w.take 4).drop 0)) (eH ((w.take 7).drop 5)) (eH (w.drop 8)) (numR_nn _) : SpG g _ _ _ _ _)))))))) (fun hc2 => ?_) (fun hc2 => ?_)
 (try simp only [eW] at hc2)
 refine zR hG [] [] (y3) [] aA ?_ ?_
 have hno : ∀ n, 0 ≤ n → n ≤ 3652058 → aS n = w → False := by
  intro n h0 h1 he
  obtain ⟨p0, p1, p2, p3, p4, p5, p6, p7⟩ := oJ h0 h1 he
  have v := aDV (kA h0 h1).1
  rw [← p5, ← p6, ← p7, ← iC p2, ← iC p3, ← iC p4] at v
  simp only [List.drop_zero, take7, p2, p3, p4, v, Bool.true_and, List.length_take, List.length_drop, p1] at hc2
  simp at hc2
 obtain ⟨r1, r2⟩ := j9 hno
 rw [r1, r2]
 rfl
 (try simp only [eW] at hc2)
 refine zR hG [] [] (y4 (if eX (eH ((w.take 4).drop 0)) (eH ((w.take 7).drop 5)) (eH (w.drop 8)) then eR (eH ((w.take 4).drop 0)) (eH ((w.take 7).drop 5)) (eH (w.drop 8)) else 0)) [] aA ?_ ?_
 simp only [List.drop_zero] at hc2
 obtain ⟨⟨⟨⟨a1, a2⟩, b1, b2⟩, c1, c2⟩, v⟩ := hc2
 obtain ⟨⟨s1, s2⟩, s3⟩ := hc1
 have v2 := v
 rw [iC a1, iC b1, iC c1] at v2
 have hv := xX v2
 have nb := aGK hv
 obtain ⟨r1, r2⟩ := nF nb.1 nb.2 (aI5 (by omega) (at4 s2) (at7 s3) a1 b1 c1 hv)
 rw [r1, r2]
 simp only [List.drop_zero, v2, if_true, iC a1, iC b1, iC c1]
 rfl
end Go.Proofs.YtmpgfchkkemngaaGreatDoor
namespace Go.Proofs.YtmpgfchkkemngaaGreatDoor
open Go.RowKit Go.V
open Go.Eng (inR byteAt u8 bH)
variable {g : Gv}
def ldN : Nat → List UInt8 → Nat
 | 0, _ => 0
 | _ + 1, [] => 0
 | k + 1, c :: r => if bA c then ldN k r + 1 else 0
theorem aGR (k : Nat) : ldN k [] = 0 := by cases k <;> rfl
theorem aLZ : ∀ (k : Nat) (l : List UInt8), ldN k l ≤ k ∧ ldN k l ≤ l.length
 | 0, l => ⟨Nat.le_refl _, Nat.zero_le _⟩
 | k + 1, [] => ⟨Nat.zero_le _, Nat.zero_le _⟩
 | k + 1, c :: r => by
  have ih := aLZ k r
  unfold ldN; split
  simp only [List.length_cons]; omega
  omega
theorem aLY {k i : Nat} {l : List UInt8} (hi : i < l.length) (hk : i < k) (hd : bA (l.getD i 0) = true) : ldN (k - i) (l.drop i) = ldN (k - (i + 1)) (l.drop (i + 1)) + 1 := by
 have e : l.drop i = l.getD i 0 :: l.drop (i + 1) := by
  rw [List.getD_eq_getElem?_getD, List.getElem?_eq_getElem hi]; exact List.drop_eq_getElem_cons hi
 rw [e, show k - i = (k - (i + 1)) + 1 by omega, ldN, if_pos hd]
theorem aLX {k i : Nat} {l : List UInt8} (h : l.length ≤ i ∨ k ≤ i ∨ ¬ bA (l.getD i 0) = true) : ldN (k - i) (l.drop i) = 0 := by
 rcases h with h | h | h
 rw [List.drop_eq_nil_iff.2 h, aGR]
 rw [show k - i = 0 by omega]; rfl
 rcases Nat.lt_or_ge i l.length with hi | hi
 have e : l.drop i = l.getD i 0 :: l.drop (i + 1) := by
  rw [List.getD_eq_getElem?_getD, List.getElem?_eq_getElem hi]; exact List.drop_eq_getElem_cons hi
 rw [e]
 cases k - i with
 | zero => rfl
 | succ j => rw [ldN, if_neg h]
 rw [List.drop_eq_nil_iff.2 hi, aGR]
def dgC (s : ByteArray) (k : Nat) : Int := ldN k s.data.toList
def dgV (s : ByteArray) (k : Nat) : Int := cV (s.data.toList.take (ldN k s.data.toList))
def dgR (s : ByteArray) (k : Nat) : ByteArray := s.extract (dgC s k).toNat s.size
theorem qT (s : ByteArray) (k : Nat) : 0 ≤ dgC s k ∧ dgC s k ≤ s.size := by
 have := (aLZ k s.data.toList).2
 have e : s.data.toList.length = s.size := by rw [← aD, aDR]
 unfold dgC; omega
def rs1 (w : List UInt8) : ByteArray := dgR (S w) 4
def rs2 (w : List UInt8) : ByteArray := S (Lib.trimPrefix (rs1 w).data.toList [45])
def rs3 (w : List UInt8) : ByteArray := dgR (rs2 w) 2
def rs4 (w : List UInt8) : ByteArray := S (Lib.trimPrefix (rs3 w).data.toList [45])
def rs5 (w : List UInt8) : ByteArray := dgR (rs4 w) 2
def rdY (w : List UInt8) : Int := dgV (S w) 4
def rdM (w : List UInt8) : Int := dgV (rs2 w) 2
def rdD (w : List UInt8) : Int := dgV (rs4 w) 2
def rpA (w : List UInt8) : Bool := Lib.hasPrefix (rs1 w).data.toList [45]
def rpB (w : List UInt8) : Bool := Lib.hasPrefix (rs3 w).data.toList [45]
theorem aCW (s : ByteArray) (k : Nat) : (dgR s k).size ≤ s.size := by
 unfold dgR; rw [ByteArray.size_extract]; omega
theorem aFU (s : ByteArray) (p : List UInt8) : (S (Lib.trimPrefix s.data.toList p)).size ≤ s.size := by
 have h := vZ s.data.toList p
 have e : s.data.toList.length = s.size := by rw [← aD, aDR]
 rw [aD]; omega
theorem rsz1 (w : List UInt8) : (rs1 w).size ≤ w.length := by have := aCW (S w) 4; rw [aD] at this; exact this
theorem rsz2 (w : List UInt8) : (rs2 w).size ≤ w.length := Nat.le_trans (aFU _ _) (rsz1 w)
theorem rsz3 (w : List UInt8) : (rs3 w).size ≤ w.length := Nat.le_trans (aCW _ _) (rsz2 w)
theorem rsz4 (w : List UInt8) : (rs4 w).size ≤ w.length := Nat.le_trans (aFU _ _) (rsz3 w)
theorem aGS : ∀ {l r : List UInt8}, l.all bA = true → ldN l.length (l ++ r) = l.length
 | [], r, _ => rfl
 | c :: l, r, h => by
  rw [List.all_cons, Bool.and_eq_true] at h
  rw [List.cons_append, List.length_cons, ldN, if_pos h.1, aGS h.2]
theorem aFB {l r : List UInt8} {k : Nat} (h : l.all bA = true) (hk : l.length = k) : dgV (S (l ++ r)) k = cV l ∧ dgR (S (l ++ r)) k = S r := by
 subst hk
 have e := aGS (r := r) h
 unfold dgV dgR dgC
 rw [jE, e]
 refine ⟨by simp, ?_⟩
 rw [Int.toNat_natCast, eC]; simp
theorem r7 (r : List UInt8) : Lib.trimPrefix (S (45 :: r)).data.toList [45] = r ∧ Lib.hasPrefix (S (45 :: r)).data.toList [45] = true := by
 rw [jE]
 have h : Lib.hasPrefix (45 :: r) [45] = true := by simp [Lib.hasPrefix]
 exact ⟨by rw [Lib.trimPrefix, h]; rfl, h⟩
theorem kT {n : Int} {w : List UInt8} (h0 : 0 ≤ n) (h1 : n ≤ 3652058) (e : aS n = w) : rpA w = true ∧ rpB w = true ∧ rdY w = (civ n).1 ∧ rdM w = (civ n).2.1 ∧ rdD w = (civ n).2.2 := by
 obtain ⟨p0, p1, p2, p3, p4, p5, p6, p7⟩ := oJ h0 h1 e
 generalize hY : w.take 4 = Y at *
 generalize hM : (w.drop 5).take 2 = M at *
 generalize hX : w.drop 8 = X at *
 have l1 : Y.length = 4 := by rw [← hY]; simp [p1]
 have l2 : M.length = 2 := by rw [← hM]; simp [p1]
 have l3 : X.length = 2 := by rw [← hX]; simp [p1]
 have a1 := aFB (r := 45 :: (M ++ 45 :: X)) p2 l1
 rw [← p0] at a1
 have e1 : rs1 w = S (45 :: (M ++ 45 :: X)) := a1.2
 have e2 : rs2 w = S (M ++ 45 :: X) := by rw [rs2, e1, (r7 _).1]
 have a2 := aFB (r := 45 :: X) p3 l2
 have e3 : rs3 w = S (45 :: X) := by rw [rs3, e2]; exact a2.2
 have e4 : rs4 w = S X := by rw [rs4, e3, (r7 _).1]
 have a3 := aFB (r := []) p4 l3
 rw [List.append_nil] at a3
 refine ⟨by rw [rpA, e1]; exact (r7 _).2, by rw [rpB, e3]; exact (r7 _).2, ?_, ?_, ?_⟩
 rw [← p5]; exact a1.1
 rw [← p6, rdM, e2]; exact a2.1
 rw [← p7, rdD, e4]; exact a3.1
theorem sC (y m d : Int) : 0 ≤ (if eX y m d then eR y m d else 0) ∧ (if eX y m d then eR y m d else 0) ≤ 3652058 := by
 split
 exact aGK (xX (by assumption))
 decide
theorem aKM (w : List UInt8) : rpA w = false ∨ (rpA w = true ∧ rpB w = false) ∨ (rpA w = true ∧ rpB w = true) := by
 cases rpA w <;> cases rpB w <;> simp
abbrev y35 (a0 : Int) (a1 : Int) : SV := .tup [(false, [cI a0]), (false, [cI a1])]
theorem aM3 (l : List UInt8) (k : Nat) (hk : k ≤ 5) (hl : l.length < 4294967281) :
  SpG g 224 [.c (cS (S l)), .c (cI (k : Int))] [] (y35 (cV (l.take (ldN k l))) (ldN k l)) [] := by
 refine aF 36 Tryz.func224 (by kernel_rfl) fun fr hG => ?_
 refine zL hG [] [0, 0, 1] (fun (zz : Nat × Int) => match zz with | (i, v) => (l.length - i, ⟨[zS 0 (S l), zI 1 (k : Int), zI 4 v, zI 5 (i : Int)], []⟩, i ≤ l.length ∧ i ≤ k ∧ (l.take i).all bA = true ∧ v = (cV (l.take i) : Int) ∧ ldN k l = i + ldN (k - i) (l.drop i))) (0, 0) aA ?_ ?_
 exact ⟨Nat.zero_le _, Nat.zero_le _, rfl, rfl, by simp⟩
 rintro ⟨i, v⟩ ⟨hi, hik, hd, hv, hn⟩
 have hdl := sF hd
 rw [List.length_take, Nat.min_eq_left hi] at hdl
 have hp : 10 ^ i ≤ 10 ^ 5 := Nat.pow_le_pow_right (by decide) (by omega)
 have hcl : ∀ b : UInt8, bA b = true → 0 ≤ (b.toNat : Int) - 48 ∧ b.toNat - 48 ≤ 9 := by intro b hb; simp only [bA, Bool.and_eq_true, decide_eq_true_eq] at hb; omega
 refine zc hG [] [1, 0] (((decide (((i : Int) : Int) < (if ((k : Int) : Int) < ((S l).size : Int) then (k : Int) else ((S l).size : Int)))) && (decide ((byteAt (S l) (i : Int) : Int) ≥ 48))) && (decide ((byteAt (S l) (i : Int) : Int) ≤ 57))) (aB (by intros; (try simp only [sJ, Bool.and_eq_true] at *); first | omega | decide | (simp only [inR] at *; omega) | (split at * <;> first | omega | (simp only [inR] at *; omega)) : (decide (((i : Int) : Int) < (if ((k : Int) : Int) < ((S l).size : Int) then (k : Int) else ((S l).size : Int)))) = true → (0 : Int) ≤ (i : Int) ∧ (i : Int) < ((S l).size : Int)) (aC (by intros; (try simp only [sJ, Bool.and_eq_true] at *); first | omega | decide | (simp only [inR] at *; omega) | (split at * <;> first | omega | (simp only [inR] at *; omega)) : ((decide (((i : Int) : Int) < (if ((k : Int) : Int) < ((S l).size : Int) then (k : Int) else ((S l).size : Int)))) && (decide ((byteAt (S l) (i : Int) : Int) ≥ 48))) = true → (0 : Int) ≤ (i : Int) ∧ (i : Int) < ((S l).size : Int)))) (fun hc2 => ?_) (fun hc2 => ?_)
 (try simp only [eW] at hc2)
 have hmn : i < l.length ∧ i < k := by have := hc2.1.1; split at this <;> omega
 obtain ⟨q1, q2⟩ := pG (l := l) (k := i) (by omega) (by omega)
 have q3 := hcl _ q1
 refine zD hG [] (i + 1, v * 10 + IntKind.wrap .i64 (IntKind.wrap .u8 (byteAt (S l) (i : Int) - 48))) (aB (by intros; (try simp only [sJ, Bool.and_eq_true] at *); first | omega | decide | (simp only [inR] at *; omega) | (split at * <;> first | omega | (simp only [inR] at *; omega)) : inR (v * 10)) (aB (by intros; (try simp only [sJ, Bool.and_eq_true] at *); first | omega | decide | (simp only [inR] at *; omega) | (split at * <;> first | omega | (simp only [inR] at *; omega)) : (0 : Int) ≤ (i : Int) ∧ (i : Int) < ((S l).size : Int)) (aB (by intros; (try simp only [sJ, Bool.and_eq_true] at *); first | omega | decide | (simp only [inR] at *; omega) | (split at * <;> first | omega | (simp only [inR] at *; omega)) : inR ((v * 10) + (IntKind.wrap .i64 (IntKind.wrap .u8 ((byteAt (S l) (i : Int)) - 48))))) (aC (by intros; (try simp only [sJ, Bool.and_eq_true] at *); first | omega | decide | (simp only [inR] at *; omega) | (split at * <;> first | omega | (simp only [inR] at *; omega)) : inR ((i : Int) + 1)))))) ?_ ?_
 (try dsimp only); omega
 refine ⟨by omega, by omega, u9 (by omega) hd q1, ?_, ?_⟩
 rw [q2, nC (by omega), hv]; push_cast; omega
 rw [hn, aLY (by omega) (by omega) q1]; omega
 (try simp only [eW] at hc2)
 refine zE hG [] (.exit 0) (⟨[zI 4 v, zI 5 (i : Int)], []⟩) aA rfl ?_
 refine zR hG [] [] (y35 v (i : Int)) [] aA ?_ ?_
 have hz : ldN (k - i) (l.drop i) = 0 := aLX (by
  rcases Nat.lt_or_ge i l.length with h1 | h1
  rcases Nat.lt_or_ge i k with h2 | h2
  right; right; intro hd2
  rw [aNT, decide_eq_true_eq] at hd2
  rcases hc2 with (h | h) | h
  split at h <;> omega
  omega
  omega
  exact .inr (.inl h2)
  exact .inl h1)
 rw [hz, Nat.add_zero] at hn
 rw [hn, hv]
 rfl
theorem qQ (s : ByteArray) (k : Nat) (hk : k ≤ 5) (hl : s.size < 4294967281) : SpG g 224 [.c (cS s), .c (cI (k : Int))] [] (y35 (dgV s k) (dgC s k)) [] := by
 have := aM3 (g := g) s.data.toList k hk (by have := aD s.data.toList; rw [aDR] at this; omega)
 rw [aDR] at this; exact this
theorem rR (s : ByteArray) (p : List UInt8) : SpG g 205 [.c (cS s), .c (cS (S p))] [] (y34 (S (Lib.trimPrefix s.data.toList p)) (Lib.hasPrefix s.data.toList p)) [] := by
 have := pQ (g := g) s.data.toList p
 rw [aDR] at this; exact this
theorem aKP (b4 b5 b6 b7 b8 b9 D l : Nat) (fn : FuncId) (tm : Array Value) (h4 : tm.getD 4 undef = .pointer (some ⟨b4, 0, none⟩)) (h5 : tm.getD 5 undef = .pointer (some ⟨b5, 0, none⟩)) (h6 : tm.getD 6 undef = .pointer (some ⟨b6, 0, none⟩)) (h7 : tm.getD 7 undef = .pointer (some ⟨b7, 0, none⟩)) (h8 : tm.getD 8 undef = .pointer (some ⟨b8, 0, none⟩)) (h9 : tm.getD 9 undef = .pointer (some ⟨b9, 0, none⟩)) (hn : tm.size = 80) (y m d : Int) (s : ByteArray) (hl : s.size < 4294967281) :
  cH Tryz.prog (Gl g) l [y22] [(0, zK Tryz.f208 [0, 1, 0, 1, 1, 1, 1] fn tm D l), (1, .box ⟨.c 3, some b4⟩ [cI 0]), (2, .box ⟨.c 4, some b5⟩ [cB false]), (3, .box ⟨.c 3, some b6⟩ [cI y]), (4, .box ⟨.c 3, some b7⟩ [cI m]), (5, .box ⟨.c 3, some b8⟩ [cI d]), (6, .box ⟨.c 9, some b9⟩ [cS s])] (.c (cB true)) [(0, zK Tryz.f208 [0, 1, 0, 1, 1, 1, 1] fn tm D l), (1, .box ⟨.c 3, some b4⟩ [cI 0]), (2, .box ⟨.c 4, some b5⟩ [cB false]), (3, .box ⟨.c 3, some b6⟩ [cI (dgV s 4)]), (4, .box ⟨.c 3, some b7⟩ [cI m]), (5, .box ⟨.c 3, some b8⟩ [cI d]), (6, .box ⟨.c 9, some b9⟩ [cS (dgR s 4)])] := by
 refine fS (iL := 0) (p := 25) (env0 := [zX 4 1 0, zX 5 2 0, zX 6 3 0, zX 7 4 0, zX 8 5 0, zX 9 6 0]) (n := 80) (r := (aW (aK Tryz.f208) [0, 1, 0, 1, 1, 1, 1] fn tm D)) rfl (by kernel_rfl) hn (by decide) ⟨rfl, ⟨_, _, _, rfl, rfl, h4⟩, ⟨rfl, ⟨_, _, _, rfl, rfl, h5⟩, ⟨rfl, ⟨_, _, _, rfl, rfl, h6⟩, ⟨rfl, ⟨_, _, _, rfl, rfl, h7⟩, ⟨rfl, ⟨_, _, _, rfl, rfl, h8⟩, ⟨rfl, ⟨_, _, _, rfl, rfl, h9⟩, trivial⟩⟩⟩⟩⟩⟩ rfl fun fr hG => ?_
 refine iR hG cY [] (⟨[zX 4 1 0, zX 5 2 0, zX 6 3 0, zX 7 4 0, zX 8 5 0, zX 9 6 0, zX 10 700 0], [(0, zK Tryz.f208 [0, 1, 0, 1, 1, 1, 1] fn tm D l), (1, .box ⟨.c 3, some b4⟩ [cI 0]), (2, .box ⟨.c 4, some b5⟩ [cB false]), (3, .box ⟨.c 3, some b6⟩ [cI y]), (4, .box ⟨.c 3, some b7⟩ [cI m]), (5, .box ⟨.c 3, some b8⟩ [cI d]), (6, .box ⟨.c 9, some b9⟩ [cS s]), (700, y25)]⟩) 0 (r := (aW (aK Tryz.f208) [0, 1, 0, 1, 1, 1, 1] fn tm D)) (by kernel_rfl) aA rfl rfl ?_
 refine fV hG (⟨[zX 4 1 0, zX 5 2 0, zX 6 3 0, zX 7 4 0, zX 8 5 0, zX 9 6 0, zX 10 700 0], [(0, .box ⟨.raw (.loop { (aW (aK Tryz.f208) [0, 1, 0, 1, 1, 1, 1] fn tm D) with state := .busy }), some l⟩ []), (1, .box ⟨.c 3, some b4⟩ [cI 0]), (2, .box ⟨.c 4, some b5⟩ [cB false]), (3, .box ⟨.c 3, some b6⟩ [cI y]), (4, .box ⟨.c 3, some b7⟩ [cI m]), (5, .box ⟨.c 3, some b8⟩ [cI d]), (6, .box ⟨.c 9, some b9⟩ [cS s]), (700, y25)]⟩) (by kernel_rfl) ?_
 refine zc hG [] [1, 0, 0] (false) aA (fun hc1 => absurd hc1 (by decide)) (fun _ => ?_)
 refine zC hG [(12, 5, kC (y35 (dgV s 4) (dgC s 4)))] [1, 0, 1, 1, 1, 1, 0] (true) (⟨[zX 4 1 0, zX 5 2 0, zX 6 3 0, zX 7 4 0, zX 8 5 0, zI 13 (dgV s 4), (53, [], .c (.d (.y 89)))], [(0, .box ⟨.raw (.loop { (aW (aK Tryz.f208) [0, 1, 0, 1, 1, 1, 1] fn tm D) with state := .busy }), some l⟩ []), (1, .box ⟨.c 3, some b4⟩ [cI 0]), (2, .box ⟨.c 4, some b5⟩ [cB false]), (3, .box ⟨.c 3, some b6⟩ [cI y]), (4, .box ⟨.c 3, some b7⟩ [cI m]), (5, .box ⟨.c 3, some b8⟩ [cI d]), (6, .box ⟨.c 9, some b9⟩ [cS ((s).extract (dgC s 4 : Int).toNat (s).size)])]⟩) (aB (qQ s 4 (by decide) (by first | assumption | omega) : SpG g _ _ _ _ _) (aB (by intros; have g4 := qT s 4; have g2 := qT s 2; first | decide | omega | (simp only [inR] at *; omega) : (0 : Int) ≤ (dgC s 4) ∧ (dgC s 4 : Int) ≤ ((s).size : Int) ∧ ((s).size : Int) ≤ ((s).size : Int)) (aC (by decide : (0 : Int) ≤ 0 ∧ 0 < ((S [89, 89, 89, 89]).size : Int))))) (fun _ => ?_) (fun hc2 => absurd hc2 (by decide))
 refine iQ hG cY [] [] 0 .normal [(0, .box ⟨.raw (jN { (aW (aK Tryz.f208) [0, 1, 0, 1, 1, 1, 1] fn tm D) with state := .busy } .normal), some l⟩ []), (3, .box ⟨.c 3, some b6⟩ [cI (dgV s 4)]), (1, .box ⟨.c 3, some b4⟩ [cI 0]), (2, .box ⟨.c 4, some b5⟩ [cB false]), (4, .box ⟨.c 3, some b7⟩ [cI m]), (5, .box ⟨.c 3, some b8⟩ [cI d]), (6, .box ⟨.c 9, some b9⟩ [cS ((s).extract (dgC s 4 : Int).toNat (s).size)])] (by kernel_rfl) aA ?_ ?_
 rfl
 funext i; simp only [bG, upd]; (repeat' split) <;> first | rfl | (exfalso; omega)
theorem readM (b4 b5 b6 b7 b8 b9 D l : Nat) (fn : FuncId) (tm : Array Value) (h4 : tm.getD 4 undef = .pointer (some ⟨b4, 0, none⟩)) (h5 : tm.getD 5 undef = .pointer (some ⟨b5, 0, none⟩)) (h6 : tm.getD 6 undef = .pointer (some ⟨b6, 0, none⟩)) (h7 : tm.getD 7 undef = .pointer (some ⟨b7, 0, none⟩)) (h8 : tm.getD 8 undef = .pointer (some ⟨b8, 0, none⟩)) (h9 : tm.getD 9 undef = .pointer (some ⟨b9, 0, none⟩)) (hn : tm.size = 80) (y m d : Int) (s : ByteArray) (hl : s.size < 4294967281) :
  cH Tryz.prog (Gl g) l [y27] [(0, zK Tryz.f208 [0, 1, 0, 1, 1, 1, 1] fn tm D l), (1, .box ⟨.c 3, some b4⟩ [cI 0]), (2, .box ⟨.c 4, some b5⟩ [cB false]), (3, .box ⟨.c 3, some b6⟩ [cI y]), (4, .box ⟨.c 3, some b7⟩ [cI m]), (5, .box ⟨.c 3, some b8⟩ [cI d]), (6, .box ⟨.c 9, some b9⟩ [cS s])] (.c (cB true)) [(0, zK Tryz.f208 [0, 1, 0, 1, 1, 1, 1] fn tm D l), (1, .box ⟨.c 3, some b4⟩ [cI 0]), (2, .box ⟨.c 4, some b5⟩ [cB false]), (3, .box ⟨.c 3, some b6⟩ [cI y]), (4, .box ⟨.c 3, some b7⟩ [cI (dgV s 2)]), (5, .box ⟨.c 3, some b8⟩ [cI d]), (6, .box ⟨.c 9, some b9⟩ [cS (dgR s 2)])] := by
 refine fS (iL := 0) (p := 25) (env0 := [zX 4 1 0, zX 5 2 0, zX 6 3 0, zX 7 4 0, zX 8 5 0, zX 9 6 0]) (n := 80) (r := (aW (aK Tryz.f208) [0, 1, 0, 1, 1, 1, 1] fn tm D)) rfl (by kernel_rfl) hn (by decide) ⟨rfl, ⟨_, _, _, rfl, rfl, h4⟩, ⟨rfl, ⟨_, _, _, rfl, rfl, h5⟩, ⟨rfl, ⟨_, _, _, rfl, rfl, h6⟩, ⟨rfl, ⟨_, _, _, rfl, rfl, h7⟩, ⟨rfl, ⟨_, _, _, rfl, rfl, h8⟩, ⟨rfl, ⟨_, _, _, rfl, rfl, h9⟩, trivial⟩⟩⟩⟩⟩⟩ rfl fun fr hG => ?_
 refine iR hG cY [] (⟨[zX 4 1 0, zX 5 2 0, zX 6 3 0, zX 7 4 0, zX 8 5 0, zX 9 6 0, zX 10 700 0], [(0, zK Tryz.f208 [0, 1, 0, 1, 1, 1, 1] fn tm D l), (1, .box ⟨.c 3, some b4⟩ [cI 0]), (2, .box ⟨.c 4, some b5⟩ [cB false]), (3, .box ⟨.c 3, some b6⟩ [cI y]), (4, .box ⟨.c 3, some b7⟩ [cI m]), (5, .box ⟨.c 3, some b8⟩ [cI d]), (6, .box ⟨.c 9, some b9⟩ [cS s]), (700, y28)]⟩) 0 (r := (aW (aK Tryz.f208) [0, 1, 0, 1, 1, 1, 1] fn tm D)) (by kernel_rfl) aA rfl rfl ?_
 refine fV hG (⟨[zX 4 1 0, zX 5 2 0, zX 6 3 0, zX 7 4 0, zX 8 5 0, zX 9 6 0, zX 10 700 0], [(0, .box ⟨.raw (.loop { (aW (aK Tryz.f208) [0, 1, 0, 1, 1, 1, 1] fn tm D) with state := .busy }), some l⟩ []), (1, .box ⟨.c 3, some b4⟩ [cI 0]), (2, .box ⟨.c 4, some b5⟩ [cB false]), (3, .box ⟨.c 3, some b6⟩ [cI y]), (4, .box ⟨.c 3, some b7⟩ [cI m]), (5, .box ⟨.c 3, some b8⟩ [cI d]), (6, .box ⟨.c 9, some b9⟩ [cS s]), (700, y28)]⟩) (by kernel_rfl) ?_
 refine zc hG [] [1, 0, 0] (false) aA (fun hc1 => absurd hc1 (by decide)) (fun _ => ?_)
 refine zC hG [(12, 5, kC (y35 (dgV s 2) (dgC s 2)))] [1, 0, 1, 1, 1, 1, 0] (false) (⟨[zX 4 1 0, zX 5 2 0, zX 6 3 0, zX 7 4 0, zX 8 5 0, zI 13 (dgV s 2), (53, [], .c (.d (.y 77)))], [(0, .box ⟨.raw (.loop { (aW (aK Tryz.f208) [0, 1, 0, 1, 1, 1, 1] fn tm D) with state := .busy }), some l⟩ []), (1, .box ⟨.c 3, some b4⟩ [cI 0]), (2, .box ⟨.c 4, some b5⟩ [cB false]), (3, .box ⟨.c 3, some b6⟩ [cI y]), (4, .box ⟨.c 3, some b7⟩ [cI m]), (5, .box ⟨.c 3, some b8⟩ [cI d]), (6, .box ⟨.c 9, some b9⟩ [cS ((s).extract (dgC s 2 : Int).toNat (s).size)])]⟩) (aB (qQ s 2 (by decide) (by first | assumption | omega) : SpG g _ _ _ _ _) (aB (by intros; have g4 := qT s 4; have g2 := qT s 2; first | decide | omega | (simp only [inR] at *; omega) : (0 : Int) ≤ (dgC s 2) ∧ (dgC s 2 : Int) ≤ ((s).size : Int) ∧ ((s).size : Int) ≤ ((s).size : Int)) (aC (by decide : (0 : Int) ≤ 0 ∧ 0 < ((S [77, 77]).size : Int))))) (fun hc2 => absurd hc2 (by decide)) (fun _ => ?_)
 refine zC hG [] [1, 1, 1, 0, 1, 1, 1, 1, 0] (true) (⟨[zX 4 1 0, zX 5 2 0, zX 7 4 0, zX 8 5 0, zI 13 (dgV s 2)], [(0, .box ⟨.raw (.loop { (aW (aK Tryz.f208) [0, 1, 0, 1, 1, 1, 1] fn tm D) with state := .busy }), some l⟩ []), (1, .box ⟨.c 3, some b4⟩ [cI 0]), (2, .box ⟨.c 4, some b5⟩ [cB false]), (3, .box ⟨.c 3, some b6⟩ [cI y]), (4, .box ⟨.c 3, some b7⟩ [cI m]), (5, .box ⟨.c 3, some b8⟩ [cI d]), (6, .box ⟨.c 9, some b9⟩ [cS ((s).extract (dgC s 2 : Int).toNat (s).size)])]⟩) aA (fun _ => ?_) (fun hc3 => absurd hc3 (by decide))
 refine iQ hG cY [] [] 0 .normal [(0, .box ⟨.raw (jN { (aW (aK Tryz.f208) [0, 1, 0, 1, 1, 1, 1] fn tm D) with state := .busy } .normal), some l⟩ []), (4, .box ⟨.c 3, some b7⟩ [cI (dgV s 2)]), (1, .box ⟨.c 3, some b4⟩ [cI 0]), (2, .box ⟨.c 4, some b5⟩ [cB false]), (3, .box ⟨.c 3, some b6⟩ [cI y]), (5, .box ⟨.c 3, some b8⟩ [cI d]), (6, .box ⟨.c 9, some b9⟩ [cS ((s).extract (dgC s 2 : Int).toNat (s).size)])] (by kernel_rfl) aA ?_ ?_
 rfl
 funext i; simp only [bG, upd]; (repeat' split) <;> first | rfl | (exfalso; omega)
theorem readD (b4 b5 b6 b7 b8 b9 D l : Nat) (fn : FuncId) (tm : Array Value) (h4 : tm.getD 4 undef = .pointer (some ⟨b4, 0, none⟩)) (h5 : tm.getD 5 undef = .pointer (some ⟨b5, 0, none⟩)) (h6 : tm.getD 6 undef = .pointer (some ⟨b6, 0, none⟩)) (h7 : tm.getD 7 undef = .pointer (some ⟨b7, 0, none⟩)) (h8 : tm.getD 8 undef = .pointer (some ⟨b8, 0, none⟩)) (h9 : tm.getD 9 undef = .pointer (some ⟨b9, 0, none⟩)) (hn : tm.size = 80) (y m d : Int) (s : ByteArray) (hl : s.size < 4294967281) :
  cH Tryz.prog (Gl g) l [y29] [(0, zK Tryz.f208 [0, 1, 0, 1, 1, 1, 1] fn tm D l), (1, .box ⟨.c 3, some b4⟩ [cI 0]), (2, .box ⟨.c 4, some b5⟩ [cB false]), (3, .box ⟨.c 3, some b6⟩ [cI y]), (4, .box ⟨.c 3, some b7⟩ [cI m]), (5, .box ⟨.c 3, some b8⟩ [cI d]), (6, .box ⟨.c 9, some b9⟩ [cS s])] (.c (cB true)) [(0, zK Tryz.f208 [0, 1, 0, 1, 1, 1, 1] fn tm D l), (1, .box ⟨.c 3, some b4⟩ [cI 0]), (2, .box ⟨.c 4, some b5⟩ [cB false]), (3, .box ⟨.c 3, some b6⟩ [cI y]), (4, .box ⟨.c 3, some b7⟩ [cI m]), (5, .box ⟨.c 3, some b8⟩ [cI (dgV s 2)]), (6, .box ⟨.c 9, some b9⟩ [cS (dgR s 2)])] := by
 refine fS (iL := 0) (p := 25) (env0 := [zX 4 1 0, zX 5 2 0, zX 6 3 0, zX 7 4 0, zX 8 5 0, zX 9 6 0]) (n := 80) (r := (aW (aK Tryz.f208) [0, 1, 0, 1, 1, 1, 1] fn tm D)) rfl (by kernel_rfl) hn (by decide) ⟨rfl, ⟨_, _, _, rfl, rfl, h4⟩, ⟨rfl, ⟨_, _, _, rfl, rfl, h5⟩, ⟨rfl, ⟨_, _, _, rfl, rfl, h6⟩, ⟨rfl, ⟨_, _, _, rfl, rfl, h7⟩, ⟨rfl, ⟨_, _, _, rfl, rfl, h8⟩, ⟨rfl, ⟨_, _, _, rfl, rfl, h9⟩, trivial⟩⟩⟩⟩⟩⟩ rfl fun fr hG => ?_
 refine iR hG cY [] (⟨[zX 4 1 0, zX 5 2 0, zX 6 3 0, zX 7 4 0, zX 8 5 0, zX 9 6 0, zX 10 700 0], [(0, zK Tryz.f208 [0, 1, 0, 1, 1, 1, 1] fn tm D l), (1, .box ⟨.c 3, some b4⟩ [cI 0]), (2, .box ⟨.c 4, some b5⟩ [cB false]), (3, .box ⟨.c 3, some b6⟩ [cI y]), (4, .box ⟨.c 3, some b7⟩ [cI m]), (5, .box ⟨.c 3, some b8⟩ [cI d]), (6, .box ⟨.c 9, some b9⟩ [cS s]), (700, y30)]⟩) 0 (r := (aW (aK Tryz.f208) [0, 1, 0, 1, 1, 1, 1] fn tm D)) (by kernel_rfl) aA rfl rfl ?_
 refine fV hG (⟨[zX 4 1 0, zX 5 2 0, zX 6 3 0, zX 7 4 0, zX 8 5 0, zX 9 6 0, zX 10 700 0], [(0, .box ⟨.raw (.loop { (aW (aK Tryz.f208) [0, 1, 0, 1, 1, 1, 1] fn tm D) with state := .busy }), some l⟩ []), (1, .box ⟨.c 3, some b4⟩ [cI 0]), (2, .box ⟨.c 4, some b5⟩ [cB false]), (3, .box ⟨.c 3, some b6⟩ [cI y]), (4, .box ⟨.c 3, some b7⟩ [cI m]), (5, .box ⟨.c 3, some b8⟩ [cI d]), (6, .box ⟨.c 9, some b9⟩ [cS s]), (700, y30)]⟩) (by kernel_rfl) ?_
 refine zc hG [] [1, 0, 0] (false) aA (fun hc1 => absurd hc1 (by decide)) (fun _ => ?_)
 refine zC hG [(12, 5, kC (y35 (dgV s 2) (dgC s 2)))] [1, 0, 1, 1, 1, 1, 0] (false) (⟨[zX 4 1 0, zX 5 2 0, zX 6 3 0, zX 7 4 0, zX 8 5 0, zI 13 (dgV s 2), (53, [], .c (.d (.y 68)))], [(0, .box ⟨.raw (.loop { (aW (aK Tryz.f208) [0, 1, 0, 1, 1, 1, 1] fn tm D) with state := .busy }), some l⟩ []), (1, .box ⟨.c 3, some b4⟩ [cI 0]), (2, .box ⟨.c 4, some b5⟩ [cB false]), (3, .box ⟨.c 3, some b6⟩ [cI y]), (4, .box ⟨.c 3, some b7⟩ [cI m]), (5, .box ⟨.c 3, some b8⟩ [cI d]), (6, .box ⟨.c 9, some b9⟩ [cS ((s).extract (dgC s 2 : Int).toNat (s).size)])]⟩) (aB (qQ s 2 (by decide) (by first | assumption | omega) : SpG g _ _ _ _ _) (aB (by intros; have g4 := qT s 4; have g2 := qT s 2; first | decide | omega | (simp only [inR] at *; omega) : (0 : Int) ≤ (dgC s 2) ∧ (dgC s 2 : Int) ≤ ((s).size : Int) ∧ ((s).size : Int) ≤ ((s).size : Int)) (aC (by decide : (0 : Int) ≤ 0 ∧ 0 < ((S [68, 68]).size : Int))))) (fun hc2 => absurd hc2 (by decide)) (fun _ => ?_)
 refine zC hG [] [1, 1, 1, 0, 1, 1, 1, 1, 0] (false) (⟨[zX 4 1 0, zX 5 2 0, zX 7 4 0, zX 8 5 0, zI 13 (dgV s 2)], [(0, .box ⟨.raw (.loop { (aW (aK Tryz.f208) [0, 1, 0, 1, 1, 1, 1] fn tm D) with state := .busy }), some l⟩ []), (1, .box ⟨.c 3, some b4⟩ [cI 0]), (2, .box ⟨.c 4, some b5⟩ [cB false]), (3, .box ⟨.c 3, some b6⟩ [cI y]), (4, .box ⟨.c 3, some b7⟩ [cI m]), (5, .box ⟨.c 3, some b8⟩ [cI d]), (6, .box ⟨.c 9, some b9⟩ [cS ((s).extract (dgC s 2 : Int).toNat (s).size)])]⟩) aA (fun hc3 => absurd hc3 (by decide)) (fun _ => ?_)
 refine iQ hG cY [] [] 0 .normal [(0, .box ⟨.raw (jN { (aW (aK Tryz.f208) [0, 1, 0, 1, 1, 1, 1] fn tm D) with state := .busy } .normal), some l⟩ []), (5, .box ⟨.c 3, some b8⟩ [cI (dgV s 2)]), (1, .box ⟨.c 3, some b4⟩ [cI 0]), (2, .box ⟨.c 4, some b5⟩ [cB false]), (3, .box ⟨.c 3, some b6⟩ [cI y]), (4, .box ⟨.c 3, some b7⟩ [cI m]), (6, .box ⟨.c 9, some b9⟩ [cS ((s).extract (dgC s 2 : Int).toNat (s).size)])] (by kernel_rfl) aA ?_ ?_
 rfl
 funext i; simp only [bG, upd]; (repeat' split) <;> first | rfl | (exfalso; omega)
theorem readS (b4 b5 b6 b7 b8 b9 D l : Nat) (fn : FuncId) (tm : Array Value) (h4 : tm.getD 4 undef = .pointer (some ⟨b4, 0, none⟩)) (h5 : tm.getD 5 undef = .pointer (some ⟨b5, 0, none⟩)) (h6 : tm.getD 6 undef = .pointer (some ⟨b6, 0, none⟩)) (h7 : tm.getD 7 undef = .pointer (some ⟨b7, 0, none⟩)) (h8 : tm.getD 8 undef = .pointer (some ⟨b8, 0, none⟩)) (h9 : tm.getD 9 undef = .pointer (some ⟨b9, 0, none⟩)) (hn : tm.size = 80) (y m d : Int) (s : ByteArray) (hl : s.size < 4294967281) (hp : Lib.hasPrefix s.data.toList [45] = true) :
  cH Tryz.prog (Gl g) l [y26] [(0, zK Tryz.f208 [0, 1, 0, 1, 1, 1, 1] fn tm D l), (1, .box ⟨.c 3, some b4⟩ [cI 0]), (2, .box ⟨.c 4, some b5⟩ [cB false]), (3, .box ⟨.c 3, some b6⟩ [cI y]), (4, .box ⟨.c 3, some b7⟩ [cI m]), (5, .box ⟨.c 3, some b8⟩ [cI d]), (6, .box ⟨.c 9, some b9⟩ [cS s])] (.c (cB true)) [(0, zK Tryz.f208 [0, 1, 0, 1, 1, 1, 1] fn tm D l), (1, .box ⟨.c 3, some b4⟩ [cI 0]), (2, .box ⟨.c 4, some b5⟩ [cB false]), (3, .box ⟨.c 3, some b6⟩ [cI y]), (4, .box ⟨.c 3, some b7⟩ [cI m]), (5, .box ⟨.c 3, some b8⟩ [cI d]), (6, .box ⟨.c 9, some b9⟩ [cS (S (Lib.trimPrefix s.data.toList [45]))])] := by
 refine fS (iL := 0) (p := 25) (env0 := [zX 4 1 0, zX 5 2 0, zX 6 3 0, zX 7 4 0, zX 8 5 0, zX 9 6 0]) (n := 80) (r := (aW (aK Tryz.f208) [0, 1, 0, 1, 1, 1, 1] fn tm D)) rfl (by kernel_rfl) hn (by decide) ⟨rfl, ⟨_, _, _, rfl, rfl, h4⟩, ⟨rfl, ⟨_, _, _, rfl, rfl, h5⟩, ⟨rfl, ⟨_, _, _, rfl, rfl, h6⟩, ⟨rfl, ⟨_, _, _, rfl, rfl, h7⟩, ⟨rfl, ⟨_, _, _, rfl, rfl, h8⟩, ⟨rfl, ⟨_, _, _, rfl, rfl, h9⟩, trivial⟩⟩⟩⟩⟩⟩ rfl fun fr hG => ?_
 refine iR hG cY [] (⟨[zX 4 1 0, zX 5 2 0, zX 6 3 0, zX 7 4 0, zX 8 5 0, zX 9 6 0, zX 10 700 0], [(0, zK Tryz.f208 [0, 1, 0, 1, 1, 1, 1] fn tm D l), (1, .box ⟨.c 3, some b4⟩ [cI 0]), (2, .box ⟨.c 4, some b5⟩ [cB false]), (3, .box ⟨.c 3, some b6⟩ [cI y]), (4, .box ⟨.c 3, some b7⟩ [cI m]), (5, .box ⟨.c 3, some b8⟩ [cI d]), (6, .box ⟨.c 9, some b9⟩ [cS s]), (700, y31)]⟩) 0 (r := (aW (aK Tryz.f208) [0, 1, 0, 1, 1, 1, 1] fn tm D)) (by kernel_rfl) aA rfl rfl ?_
 refine fV hG (⟨[zX 4 1 0, zX 5 2 0, zX 6 3 0, zX 7 4 0, zX 8 5 0, zX 9 6 0, zX 10 700 0], [(0, .box ⟨.raw (.loop { (aW (aK Tryz.f208) [0, 1, 0, 1, 1, 1, 1] fn tm D) with state := .busy }), some l⟩ []), (1, .box ⟨.c 3, some b4⟩ [cI 0]), (2, .box ⟨.c 4, some b5⟩ [cB false]), (3, .box ⟨.c 3, some b6⟩ [cI y]), (4, .box ⟨.c 3, some b7⟩ [cI m]), (5, .box ⟨.c 3, some b8⟩ [cI d]), (6, .box ⟨.c 9, some b9⟩ [cS s]), (700, y31)]⟩) (by kernel_rfl) ?_
 refine zc hG [] [1, 0, 0] (true) aA (fun _ => ?_) (fun hc1 => absurd hc1 (by decide))
 refine zC hG [(8, 3, kC (y34 (S (Lib.trimPrefix (s).data.toList [45])) (Lib.hasPrefix (s).data.toList [45])))] [1, 0, 1, 0, 1, 0, 0] (!(Lib.hasPrefix (s).data.toList [45])) (⟨[zX 4 1 0, zX 5 2 0, zX 6 3 0, zX 7 4 0, zX 8 5 0, zX 9 6 0, zX 10 700 0, zS 11 (S (Lib.trimPrefix (s).data.toList [45]))], [(0, .box ⟨.raw (.loop { (aW (aK Tryz.f208) [0, 1, 0, 1, 1, 1, 1] fn tm D) with state := .busy }), some l⟩ []), (1, .box ⟨.c 3, some b4⟩ [cI 0]), (2, .box ⟨.c 4, some b5⟩ [cB false]), (3, .box ⟨.c 3, some b6⟩ [cI y]), (4, .box ⟨.c 3, some b7⟩ [cI m]), (5, .box ⟨.c 3, some b8⟩ [cI d]), (6, .box ⟨.c 9, some b9⟩ [cS s]), (700, y31)]⟩) (aC (rR (s) [45] : SpG g _ _ _ _ _)) (fun hc2 => ?_) (fun hc2 => ?_)
 (try simp only [blS] at hc2)
 exfalso; simp [hp] at hc2
 (try simp only [blS] at hc2)
 refine iQ hG cY [] [] 0 .normal [(0, .box ⟨.raw (jN { (aW (aK Tryz.f208) [0, 1, 0, 1, 1, 1, 1] fn tm D) with state := .busy } .normal), some l⟩ []), (6, .box ⟨.c 9, some b9⟩ [cS (S (Lib.trimPrefix (s).data.toList [45]))]), (1, .box ⟨.c 3, some b4⟩ [cI 0]), (2, .box ⟨.c 4, some b5⟩ [cB false]), (3, .box ⟨.c 3, some b6⟩ [cI y]), (4, .box ⟨.c 3, some b7⟩ [cI m]), (5, .box ⟨.c 3, some b8⟩ [cI d])] (by kernel_rfl) aA ?_ ?_
 rfl
 funext i; simp only [bG, upd]; (repeat' split) <;> first | rfl | (exfalso; omega)
theorem readF (b4 b5 b6 b7 b8 b9 D l : Nat) (fn : FuncId) (tm : Array Value) (h4 : tm.getD 4 undef = .pointer (some ⟨b4, 0, none⟩)) (h5 : tm.getD 5 undef = .pointer (some ⟨b5, 0, none⟩)) (h6 : tm.getD 6 undef = .pointer (some ⟨b6, 0, none⟩)) (h7 : tm.getD 7 undef = .pointer (some ⟨b7, 0, none⟩)) (h8 : tm.getD 8 undef = .pointer (some ⟨b8, 0, none⟩)) (h9 : tm.getD 9 undef = .pointer (some ⟨b9, 0, none⟩)) (hn : tm.size = 80) (y m d : Int) (s : ByteArray) (hl : s.size < 4294967281) (hp : Lib.hasPrefix s.data.toList [45] = false) :
  cH Tryz.prog (Gl g) l [y26] [(0, zK Tryz.f208 [0, 1, 0, 1, 1, 1, 1] fn tm D l), (1, .box ⟨.c 3, some b4⟩ [cI 0]), (2, .box ⟨.c 4, some b5⟩ [cB false]), (3, .box ⟨.c 3, some b6⟩ [cI y]), (4, .box ⟨.c 3, some b7⟩ [cI m]), (5, .box ⟨.c 3, some b8⟩ [cI d]), (6, .box ⟨.c 9, some b9⟩ [cS s])] (.c (cB false)) [(0, .box ⟨.raw (.loop { (aW (aK Tryz.f208) [0, 1, 0, 1, 1, 1, 1] fn tm D) with state := .done, pending := some .ret }), some l⟩ []), (1, .box ⟨.c 3, some b4⟩ [cI 0]), (2, .box ⟨.c 4, some b5⟩ [cB false]), (3, .box ⟨.c 3, some b6⟩ [cI y]), (4, .box ⟨.c 3, some b7⟩ [cI m]), (5, .box ⟨.c 3, some b8⟩ [cI d]), (6, .box ⟨.c 9, some b9⟩ [cS s])] := by
 refine fS (iL := 0) (p := 25) (env0 := [zX 4 1 0, zX 5 2 0, zX 6 3 0, zX 7 4 0, zX 8 5 0, zX 9 6 0]) (n := 80) (r := (aW (aK Tryz.f208) [0, 1, 0, 1, 1, 1, 1] fn tm D)) rfl (by kernel_rfl) hn (by decide) ⟨rfl, ⟨_, _, _, rfl, rfl, h4⟩, ⟨rfl, ⟨_, _, _, rfl, rfl, h5⟩, ⟨rfl, ⟨_, _, _, rfl, rfl, h6⟩, ⟨rfl, ⟨_, _, _, rfl, rfl, h7⟩, ⟨rfl, ⟨_, _, _, rfl, rfl, h8⟩, ⟨rfl, ⟨_, _, _, rfl, rfl, h9⟩, trivial⟩⟩⟩⟩⟩⟩ rfl fun fr hG => ?_
 refine iR hG cY [] (⟨[zX 4 1 0, zX 5 2 0, zX 6 3 0, zX 7 4 0, zX 8 5 0, zX 9 6 0, zX 10 700 0], [(0, zK Tryz.f208 [0, 1, 0, 1, 1, 1, 1] fn tm D l), (1, .box ⟨.c 3, some b4⟩ [cI 0]), (2, .box ⟨.c 4, some b5⟩ [cB false]), (3, .box ⟨.c 3, some b6⟩ [cI y]), (4, .box ⟨.c 3, some b7⟩ [cI m]), (5, .box ⟨.c 3, some b8⟩ [cI d]), (6, .box ⟨.c 9, some b9⟩ [cS s]), (700, y31)]⟩) 0 (r := (aW (aK Tryz.f208) [0, 1, 0, 1, 1, 1, 1] fn tm D)) (by kernel_rfl) aA rfl rfl ?_
 refine fV hG (⟨[zX 4 1 0, zX 5 2 0, zX 6 3 0, zX 7 4 0, zX 8 5 0, zX 9 6 0, zX 10 700 0], [(0, .box ⟨.raw (.loop { (aW (aK Tryz.f208) [0, 1, 0, 1, 1, 1, 1] fn tm D) with state := .busy }), some l⟩ []), (1, .box ⟨.c 3, some b4⟩ [cI 0]), (2, .box ⟨.c 4, some b5⟩ [cB false]), (3, .box ⟨.c 3, some b6⟩ [cI y]), (4, .box ⟨.c 3, some b7⟩ [cI m]), (5, .box ⟨.c 3, some b8⟩ [cI d]), (6, .box ⟨.c 9, some b9⟩ [cS s]), (700, y31)]⟩) (by kernel_rfl) ?_
 refine zc hG [] [1, 0, 0] (true) aA (fun _ => ?_) (fun hc1 => absurd hc1 (by decide))
 refine zC hG [(8, 3, kC (y34 (S (Lib.trimPrefix (s).data.toList [45])) (Lib.hasPrefix (s).data.toList [45])))] [1, 0, 1, 0, 1, 0, 0] (!(Lib.hasPrefix (s).data.toList [45])) (⟨[zX 4 1 0, zX 5 2 0, zX 6 3 0, zX 7 4 0, zX 8 5 0, zX 9 6 0, zX 10 700 0, zS 11 (S (Lib.trimPrefix (s).data.toList [45]))], [(0, .box ⟨.raw (.loop { (aW (aK Tryz.f208) [0, 1, 0, 1, 1, 1, 1] fn tm D) with state := .busy }), some l⟩ []), (1, .box ⟨.c 3, some b4⟩ [cI 0]), (2, .box ⟨.c 4, some b5⟩ [cB false]), (3, .box ⟨.c 3, some b6⟩ [cI y]), (4, .box ⟨.c 3, some b7⟩ [cI m]), (5, .box ⟨.c 3, some b8⟩ [cI d]), (6, .box ⟨.c 9, some b9⟩ [cS s]), (700, y31)]⟩) (aC (rR (s) [45] : SpG g _ _ _ _ _)) (fun hc2 => ?_) (fun hc2 => ?_)
 (try simp only [blS] at hc2)
 refine iQ hG cY [] [] 0 .ret [(0, .box ⟨.raw (jN { (aW (aK Tryz.f208) [0, 1, 0, 1, 1, 1, 1] fn tm D) with state := .busy } .ret), some l⟩ []), (2, .box ⟨.c 4, some b5⟩ [cB false]), (1, .box ⟨.c 3, some b4⟩ [cI 0]), (3, .box ⟨.c 3, some b6⟩ [cI y]), (4, .box ⟨.c 3, some b7⟩ [cI m]), (5, .box ⟨.c 3, some b8⟩ [cI d]), (6, .box ⟨.c 9, some b9⟩ [cS s])] (by kernel_rfl) aA ?_ ?_
 rfl
 funext i; simp only [bG, upd]; (repeat' split) <;> first | rfl | (exfalso; omega)
 (try simp only [blS] at hc2)
 exfalso; simp [hp] at hc2
noncomputable def rdO (b0 b4 b5 b6 b7 b8 b9 D l : Nat) (w : List UInt8) (fn : FuncId) (tm : Array Value) : Nat → bL
 | 0 => [(0, .box ⟨.c 9, some b0⟩ [cS (S [89, 89, 89, 89, 45, 77, 77, 45, 68, 68])]), (1, zK Tryz.f208 [0, 1, 0, 1, 1, 1, 1] fn tm D l), (2, .box ⟨.c 3, some b4⟩ [cI 0]), (3, .box ⟨.c 4, some b5⟩ [cB false]), (4, .box ⟨.c 3, some b6⟩ [cI 0]), (5, .box ⟨.c 3, some b7⟩ [cI 0]), (6, .box ⟨.c 3, some b8⟩ [cI 0]), (7, .box ⟨.c 9, some b9⟩ [cS (S w)])]
 | 1 => [(0, .box ⟨.c 9, some b0⟩ [cS (S [45, 77, 77, 45, 68, 68])]), (1, zK Tryz.f208 [0, 1, 0, 1, 1, 1, 1] fn tm D l), (2, .box ⟨.c 3, some b4⟩ [cI 0]), (3, .box ⟨.c 4, some b5⟩ [cB false]), (4, .box ⟨.c 3, some b6⟩ [cI (rdY w)]), (5, .box ⟨.c 3, some b7⟩ [cI 0]), (6, .box ⟨.c 3, some b8⟩ [cI 0]), (7, .box ⟨.c 9, some b9⟩ [cS (rs1 w)])]
 | 2 => [(0, .box ⟨.c 9, some b0⟩ [cS (S [77, 77, 45, 68, 68])]), (1, zK Tryz.f208 [0, 1, 0, 1, 1, 1, 1] fn tm D l), (2, .box ⟨.c 3, some b4⟩ [cI 0]), (3, .box ⟨.c 4, some b5⟩ [cB false]), (4, .box ⟨.c 3, some b6⟩ [cI (rdY w)]), (5, .box ⟨.c 3, some b7⟩ [cI 0]), (6, .box ⟨.c 3, some b8⟩ [cI 0]), (7, .box ⟨.c 9, some b9⟩ [cS (rs2 w)])]
 | 3 => [(0, .box ⟨.c 9, some b0⟩ [cS (S [45, 68, 68])]), (1, zK Tryz.f208 [0, 1, 0, 1, 1, 1, 1] fn tm D l), (2, .box ⟨.c 3, some b4⟩ [cI 0]), (3, .box ⟨.c 4, some b5⟩ [cB false]), (4, .box ⟨.c 3, some b6⟩ [cI (rdY w)]), (5, .box ⟨.c 3, some b7⟩ [cI (rdM w)]), (6, .box ⟨.c 3, some b8⟩ [cI 0]), (7, .box ⟨.c 9, some b9⟩ [cS (rs3 w)])]
 | 4 => [(0, .box ⟨.c 9, some b0⟩ [cS (S [68, 68])]), (1, zK Tryz.f208 [0, 1, 0, 1, 1, 1, 1] fn tm D l), (2, .box ⟨.c 3, some b4⟩ [cI 0]), (3, .box ⟨.c 4, some b5⟩ [cB false]), (4, .box ⟨.c 3, some b6⟩ [cI (rdY w)]), (5, .box ⟨.c 3, some b7⟩ [cI (rdM w)]), (6, .box ⟨.c 3, some b8⟩ [cI 0]), (7, .box ⟨.c 9, some b9⟩ [cS (rs4 w)])]
 | _ => [(0, .box ⟨.c 9, some b0⟩ [cS (S [])]), (1, zK Tryz.f208 [0, 1, 0, 1, 1, 1, 1] fn tm D l), (2, .box ⟨.c 3, some b4⟩ [cI 0]), (3, .box ⟨.c 4, some b5⟩ [cB false]), (4, .box ⟨.c 3, some b6⟩ [cI (rdY w)]), (5, .box ⟨.c 3, some b7⟩ [cI (rdM w)]), (6, .box ⟨.c 3, some b8⟩ [cI (rdD w)]), (7, .box ⟨.c 9, some b9⟩ [cS (rs5 w)])]
theorem readItA (b0 : Nat) (b4 b5 b6 b7 b8 b9 D l : Nat) (fn : FuncId) (tm : Array Value) (h4 : tm.getD 4 undef = .pointer (some ⟨b4, 0, none⟩)) (h5 : tm.getD 5 undef = .pointer (some ⟨b5, 0, none⟩)) (h6 : tm.getD 6 undef = .pointer (some ⟨b6, 0, none⟩)) (h7 : tm.getD 7 undef = .pointer (some ⟨b7, 0, none⟩)) (h8 : tm.getD 8 undef = .pointer (some ⟨b8, 0, none⟩)) (h9 : tm.getD 9 undef = .pointer (some ⟨b9, 0, none⟩)) (hn : tm.size = 80) (w : List UInt8) (hw : w.length < 4294967281) (hA : rpA w = false) :
  SpG g 172 [.c (.d (.v (.func (.yield l) #[] #[]))), .c (.bx 0 0)] [(0, .box ⟨.c 9, some b0⟩ [cS (S [89, 89, 89, 89, 45, 77, 77, 45, 68, 68])]), (1, zK Tryz.f208 [0, 1, 0, 1, 1, 1, 1] fn tm D l), (2, .box ⟨.c 3, some b4⟩ [cI 0]), (3, .box ⟨.c 4, some b5⟩ [cB false]), (4, .box ⟨.c 3, some b6⟩ [cI 0]), (5, .box ⟨.c 3, some b7⟩ [cI 0]), (6, .box ⟨.c 3, some b8⟩ [cI 0]), (7, .box ⟨.c 9, some b9⟩ [cS (S w)])] (.tup []) [(0, .box ⟨.c 9, some b0⟩ [cS (S [45, 77, 77, 45, 68, 68])]), (1, .box ⟨.raw (.loop { (aW (aK Tryz.f208) [0, 1, 0, 1, 1, 1, 1] fn tm D) with state := .done, pending := some .ret }), some l⟩ []), (2, .box ⟨.c 3, some b4⟩ [cI 0]), (3, .box ⟨.c 4, some b5⟩ [cB false]), (4, .box ⟨.c 3, some b6⟩ [cI (rdY w)]), (5, .box ⟨.c 3, some b7⟩ [cI 0]), (6, .box ⟨.c 3, some b8⟩ [cI 0]), (7, .box ⟨.c 9, some b9⟩ [cS (rs1 w)])] := by
 refine aF 17 Tryz.func172 (by kernel_rfl) fun fr hG => ?_
 refine zL hG [] [0] (fun (zz : Nat) => match zz with | k => (2 - k, ⟨[(0, [], .c (.d (.v (.func (.yield l) #[] #[])))), zX 1 0 0], rdO b0 b4 b5 b6 b7 b8 b9 D l w fn tm k⟩, k ≤ 1)) 0 aA ?_ ?_
 exact Nat.zero_le _
 rintro k hI
 rcases (by omega : k = 0 ∨ k = 1) with rfl | rfl
 skip
 refine zc hG [] [1, 0] (true) aA (fun _ => ?_) (fun hc2 => absurd hc2 (by decide))
 refine zC hG [(1, 1, kC (y22)), (2, 2, .callG (.c (cB true)) [1, 2, 3, 4, 5, 6, 7] [(0, zK Tryz.f208 [0, 1, 0, 1, 1, 1, 1] fn tm D l), (1, .box ⟨.c 3, some b4⟩ [cI 0]), (2, .box ⟨.c 4, some b5⟩ [cB false]), (3, .box ⟨.c 3, some b6⟩ [cI (rdY w)]), (4, .box ⟨.c 3, some b7⟩ [cI 0]), (5, .box ⟨.c 3, some b8⟩ [cI 0]), (6, .box ⟨.c 9, some b9⟩ [cS (rs1 w)])])] [1, 0, 1, 0, 1] (false) (⟨[(0, [], .c (.d (.v (.func (.yield l) #[] #[])))), zX 1 0 0, zX 3 202 0], [(0, .box ⟨.c 9, some b0⟩ [cS (S [89, 89, 89, 89, 45, 77, 77, 45, 68, 68])]), (1, zK Tryz.f208 [0, 1, 0, 1, 1, 1, 1] fn tm D l), (2, .box ⟨.c 3, some b4⟩ [cI 0]), (3, .box ⟨.c 4, some b5⟩ [cB false]), (4, .box ⟨.c 3, some b6⟩ [cI (rdY w)]), (5, .box ⟨.c 3, some b7⟩ [cI 0]), (6, .box ⟨.c 3, some b8⟩ [cI 0]), (7, .box ⟨.c 9, some b9⟩ [cS (rs1 w)]), (202, y25)]⟩) (aB (uI : SpG g _ _ _ _ _) (aC (aKP b4 b5 b6 b7 b8 b9 D l fn tm h4 h5 h6 h7 h8 h9 hn 0 0 0 (S w) (by rw [aD]; exact hw) : cH Tryz.prog (Gl g) _ _ _ _ _))) (fun hc3 => absurd hc3 (by decide)) (fun _ => ?_)
 refine zD hG [] 1 (aC (by decide : (0 : Int) ≤ 4 ∧ (4 : Int) ≤ ((S [89, 89, 89, 89, 45, 77, 77, 45, 68, 68]).size : Int) ∧ ((S [89, 89, 89, 89, 45, 77, 77, 45, 68, 68]).size : Int) ≤ ((S [89, 89, 89, 89, 45, 77, 77, 45, 68, 68]).size : Int))) ?_ ?_
 (try dsimp only); decide
 (try dsimp only); decide
 skip
 refine zc hG [] [1, 0] (true) aA (fun _ => ?_) (fun hc4 => absurd hc4 (by decide))
 refine zC hG [(1, 1, kC (y26)), (2, 2, .callG (.c (cB false)) [1, 2, 3, 4, 5, 6, 7] [(0, .box ⟨.raw (.loop { (aW (aK Tryz.f208) [0, 1, 0, 1, 1, 1, 1] fn tm D) with state := .done, pending := some .ret }), some l⟩ []), (1, .box ⟨.c 3, some b4⟩ [cI 0]), (2, .box ⟨.c 4, some b5⟩ [cB false]), (3, .box ⟨.c 3, some b6⟩ [cI (rdY w)]), (4, .box ⟨.c 3, some b7⟩ [cI 0]), (5, .box ⟨.c 3, some b8⟩ [cI 0]), (6, .box ⟨.c 9, some b9⟩ [cS (rs1 w)])])] [1, 0, 1, 0, 1] (true) (⟨[(0, [], .c (.d (.v (.func (.yield l) #[] #[])))), zX 1 0 0, zX 3 202 0], [(0, .box ⟨.c 9, some b0⟩ [cS (S [45, 77, 77, 45, 68, 68])]), (1, .box ⟨.raw (.loop { (aW (aK Tryz.f208) [0, 1, 0, 1, 1, 1, 1] fn tm D) with state := .done, pending := some .ret }), some l⟩ []), (2, .box ⟨.c 3, some b4⟩ [cI 0]), (3, .box ⟨.c 4, some b5⟩ [cB false]), (4, .box ⟨.c 3, some b6⟩ [cI (rdY w)]), (5, .box ⟨.c 3, some b7⟩ [cI 0]), (6, .box ⟨.c 3, some b8⟩ [cI 0]), (7, .box ⟨.c 9, some b9⟩ [cS (rs1 w)]), (202, y31)]⟩) (aB (uH : SpG g _ _ _ _ _) (aC (readF b4 b5 b6 b7 b8 b9 D l fn tm h4 h5 h6 h7 h8 h9 hn (rdY w) 0 0 (rs1 w) (Nat.lt_of_le_of_lt (rsz1 w) hw) hA : cH Tryz.prog (Gl g) _ _ _ _ _))) (fun _ => ?_) (fun hc5 => absurd hc5 (by decide))
 refine zE hG [] .ret (⟨[], [(0, .box ⟨.c 9, some b0⟩ [cS (S [45, 77, 77, 45, 68, 68])]), (1, .box ⟨.raw (.loop { (aW (aK Tryz.f208) [0, 1, 0, 1, 1, 1, 1] fn tm D) with state := .done, pending := some .ret }), some l⟩ []), (2, .box ⟨.c 3, some b4⟩ [cI 0]), (3, .box ⟨.c 4, some b5⟩ [cB false]), (4, .box ⟨.c 3, some b6⟩ [cI (rdY w)]), (5, .box ⟨.c 3, some b7⟩ [cI 0]), (6, .box ⟨.c 3, some b8⟩ [cI 0]), (7, .box ⟨.c 9, some b9⟩ [cS (rs1 w)])]⟩) aA rfl ?_
 exact zr hG [] [] aA
theorem readItB (b0 : Nat) (b4 b5 b6 b7 b8 b9 D l : Nat) (fn : FuncId) (tm : Array Value) (h4 : tm.getD 4 undef = .pointer (some ⟨b4, 0, none⟩)) (h5 : tm.getD 5 undef = .pointer (some ⟨b5, 0, none⟩)) (h6 : tm.getD 6 undef = .pointer (some ⟨b6, 0, none⟩)) (h7 : tm.getD 7 undef = .pointer (some ⟨b7, 0, none⟩)) (h8 : tm.getD 8 undef = .pointer (some ⟨b8, 0, none⟩)) (h9 : tm.getD 9 undef = .pointer (some ⟨b9, 0, none⟩)) (hn : tm.size = 80) (w : List UInt8) (hw : w.length < 4294967281) (hA : rpA w = true) (hB : rpB w = false) :
  SpG g 172 [.c (.d (.v (.func (.yield l) #[] #[]))), .c (.bx 0 0)] [(0, .box ⟨.c 9, some b0⟩ [cS (S [89, 89, 89, 89, 45, 77, 77, 45, 68, 68])]), (1, zK Tryz.f208 [0, 1, 0, 1, 1, 1, 1] fn tm D l), (2, .box ⟨.c 3, some b4⟩ [cI 0]), (3, .box ⟨.c 4, some b5⟩ [cB false]), (4, .box ⟨.c 3, some b6⟩ [cI 0]), (5, .box ⟨.c 3, some b7⟩ [cI 0]), (6, .box ⟨.c 3, some b8⟩ [cI 0]), (7, .box ⟨.c 9, some b9⟩ [cS (S w)])] (.tup []) [(0, .box ⟨.c 9, some b0⟩ [cS (S [45, 68, 68])]), (1, .box ⟨.raw (.loop { (aW (aK Tryz.f208) [0, 1, 0, 1, 1, 1, 1] fn tm D) with state := .done, pending := some .ret }), some l⟩ []), (2, .box ⟨.c 3, some b4⟩ [cI 0]), (3, .box ⟨.c 4, some b5⟩ [cB false]), (4, .box ⟨.c 3, some b6⟩ [cI (rdY w)]), (5, .box ⟨.c 3, some b7⟩ [cI (rdM w)]), (6, .box ⟨.c 3, some b8⟩ [cI 0]), (7, .box ⟨.c 9, some b9⟩ [cS (rs3 w)])] := by
 refine aF 17 Tryz.func172 (by kernel_rfl) fun fr hG => ?_
 refine zL hG [] [0] (fun (zz : Nat) => match zz with | k => (4 - k, ⟨[(0, [], .c (.d (.v (.func (.yield l) #[] #[])))), zX 1 0 0], rdO b0 b4 b5 b6 b7 b8 b9 D l w fn tm k⟩, k ≤ 3)) 0 aA ?_ ?_
 exact Nat.zero_le _
 rintro k hI
 rcases (by omega : k = 0 ∨ k = 1 ∨ k = 2 ∨ k = 3) with rfl | rfl | rfl | rfl
 skip
 refine zc hG [] [1, 0] (true) aA (fun _ => ?_) (fun hc2 => absurd hc2 (by decide))
 refine zC hG [(1, 1, kC (y22)), (2, 2, .callG (.c (cB true)) [1, 2, 3, 4, 5, 6, 7] [(0, zK Tryz.f208 [0, 1, 0, 1, 1, 1, 1] fn tm D l), (1, .box ⟨.c 3, some b4⟩ [cI 0]), (2, .box ⟨.c 4, some b5⟩ [cB false]), (3, .box ⟨.c 3, some b6⟩ [cI (rdY w)]), (4, .box ⟨.c 3, some b7⟩ [cI 0]), (5, .box ⟨.c 3, some b8⟩ [cI 0]), (6, .box ⟨.c 9, some b9⟩ [cS (rs1 w)])])] [1, 0, 1, 0, 1] (false) (⟨[(0, [], .c (.d (.v (.func (.yield l) #[] #[])))), zX 1 0 0, zX 3 202 0], [(0, .box ⟨.c 9, some b0⟩ [cS (S [89, 89, 89, 89, 45, 77, 77, 45, 68, 68])]), (1, zK Tryz.f208 [0, 1, 0, 1, 1, 1, 1] fn tm D l), (2, .box ⟨.c 3, some b4⟩ [cI 0]), (3, .box ⟨.c 4, some b5⟩ [cB false]), (4, .box ⟨.c 3, some b6⟩ [cI (rdY w)]), (5, .box ⟨.c 3, some b7⟩ [cI 0]), (6, .box ⟨.c 3, some b8⟩ [cI 0]), (7, .box ⟨.c 9, some b9⟩ [cS (rs1 w)]), (202, y25)]⟩) (aB (uI : SpG g _ _ _ _ _) (aC (aKP b4 b5 b6 b7 b8 b9 D l fn tm h4 h5 h6 h7 h8 h9 hn 0 0 0 (S w) (by rw [aD]; exact hw) : cH Tryz.prog (Gl g) _ _ _ _ _))) (fun hc3 => absurd hc3 (by decide)) (fun _ => ?_)
 refine zD hG [] 1 (aC (by decide : (0 : Int) ≤ 4 ∧ (4 : Int) ≤ ((S [89, 89, 89, 89, 45, 77, 77, 45, 68, 68]).size : Int) ∧ ((S [89, 89, 89, 89, 45, 77, 77, 45, 68, 68]).size : Int) ≤ ((S [89, 89, 89, 89, 45, 77, 77, 45, 68, 68]).size : Int))) ?_ ?_
 (try dsimp only); decide
 (try dsimp only); decide
 skip
 refine zc hG [] [1, 0] (true) aA (fun _ => ?_) (fun hc4 => absurd hc4 (by decide))
 refine zC hG [(1, 1, kC (y26)), (2, 2, .callG (.c (cB true)) [1, 2, 3, 4, 5, 6, 7] [(0, zK Tryz.f208 [0, 1, 0, 1, 1, 1, 1] fn tm D l), (1, .box ⟨.c 3, some b4⟩ [cI 0]), (2, .box ⟨.c 4, some b5⟩ [cB false]), (3, .box ⟨.c 3, some b6⟩ [cI (rdY w)]), (4, .box ⟨.c 3, some b7⟩ [cI 0]), (5, .box ⟨.c 3, some b8⟩ [cI 0]), (6, .box ⟨.c 9, some b9⟩ [cS (rs2 w)])])] [1, 0, 1, 0, 1] (false) (⟨[(0, [], .c (.d (.v (.func (.yield l) #[] #[])))), zX 1 0 0, zX 3 202 0], [(0, .box ⟨.c 9, some b0⟩ [cS (S [45, 77, 77, 45, 68, 68])]), (1, zK Tryz.f208 [0, 1, 0, 1, 1, 1, 1] fn tm D l), (2, .box ⟨.c 3, some b4⟩ [cI 0]), (3, .box ⟨.c 4, some b5⟩ [cB false]), (4, .box ⟨.c 3, some b6⟩ [cI (rdY w)]), (5, .box ⟨.c 3, some b7⟩ [cI 0]), (6, .box ⟨.c 3, some b8⟩ [cI 0]), (7, .box ⟨.c 9, some b9⟩ [cS (rs2 w)]), (202, y31)]⟩) (aB (uH : SpG g _ _ _ _ _) (aC (readS b4 b5 b6 b7 b8 b9 D l fn tm h4 h5 h6 h7 h8 h9 hn (rdY w) 0 0 (rs1 w) (Nat.lt_of_le_of_lt (rsz1 w) hw) hA : cH Tryz.prog (Gl g) _ _ _ _ _))) (fun hc5 => absurd hc5 (by decide)) (fun _ => ?_)
 refine zD hG [] 2 (aC (by decide : (0 : Int) ≤ 1 ∧ (1 : Int) ≤ ((S [45, 77, 77, 45, 68, 68]).size : Int) ∧ ((S [45, 77, 77, 45, 68, 68]).size : Int) ≤ ((S [45, 77, 77, 45, 68, 68]).size : Int))) ?_ ?_
 (try dsimp only); decide
 (try dsimp only); decide
 skip
 refine zc hG [] [1, 0] (true) aA (fun _ => ?_) (fun hc6 => absurd hc6 (by decide))
 refine zC hG [(1, 1, kC (y27)), (2, 2, .callG (.c (cB true)) [1, 2, 3, 4, 5, 6, 7] [(0, zK Tryz.f208 [0, 1, 0, 1, 1, 1, 1] fn tm D l), (1, .box ⟨.c 3, some b4⟩ [cI 0]), (2, .box ⟨.c 4, some b5⟩ [cB false]), (3, .box ⟨.c 3, some b6⟩ [cI (rdY w)]), (4, .box ⟨.c 3, some b7⟩ [cI (rdM w)]), (5, .box ⟨.c 3, some b8⟩ [cI 0]), (6, .box ⟨.c 9, some b9⟩ [cS (rs3 w)])])] [1, 0, 1, 0, 1] (false) (⟨[(0, [], .c (.d (.v (.func (.yield l) #[] #[])))), zX 1 0 0, zX 3 202 0], [(0, .box ⟨.c 9, some b0⟩ [cS (S [77, 77, 45, 68, 68])]), (1, zK Tryz.f208 [0, 1, 0, 1, 1, 1, 1] fn tm D l), (2, .box ⟨.c 3, some b4⟩ [cI 0]), (3, .box ⟨.c 4, some b5⟩ [cB false]), (4, .box ⟨.c 3, some b6⟩ [cI (rdY w)]), (5, .box ⟨.c 3, some b7⟩ [cI (rdM w)]), (6, .box ⟨.c 3, some b8⟩ [cI 0]), (7, .box ⟨.c 9, some b9⟩ [cS (rs3 w)]), (202, y28)]⟩) (aB (zO : SpG g _ _ _ _ _) (aC (readM b4 b5 b6 b7 b8 b9 D l fn tm h4 h5 h6 h7 h8 h9 hn (rdY w) 0 0 (rs2 w) (Nat.lt_of_le_of_lt (rsz2 w) hw) : cH Tryz.prog (Gl g) _ _ _ _ _))) (fun hc7 => absurd hc7 (by decide)) (fun _ => ?_)
 refine zD hG [] 3 (aC (by decide : (0 : Int) ≤ 2 ∧ (2 : Int) ≤ ((S [77, 77, 45, 68, 68]).size : Int) ∧ ((S [77, 77, 45, 68, 68]).size : Int) ≤ ((S [77, 77, 45, 68, 68]).size : Int))) ?_ ?_
 (try dsimp only); decide
 (try dsimp only); decide
 skip
 refine zc hG [] [1, 0] (true) aA (fun _ => ?_) (fun hc8 => absurd hc8 (by decide))
 refine zC hG [(1, 1, kC (y26)), (2, 2, .callG (.c (cB false)) [1, 2, 3, 4, 5, 6, 7] [(0, .box ⟨.raw (.loop { (aW (aK Tryz.f208) [0, 1, 0, 1, 1, 1, 1] fn tm D) with state := .done, pending := some .ret }), some l⟩ []), (1, .box ⟨.c 3, some b4⟩ [cI 0]), (2, .box ⟨.c 4, some b5⟩ [cB false]), (3, .box ⟨.c 3, some b6⟩ [cI (rdY w)]), (4, .box ⟨.c 3, some b7⟩ [cI (rdM w)]), (5, .box ⟨.c 3, some b8⟩ [cI 0]), (6, .box ⟨.c 9, some b9⟩ [cS (rs3 w)])])] [1, 0, 1, 0, 1] (true) (⟨[(0, [], .c (.d (.v (.func (.yield l) #[] #[])))), zX 1 0 0, zX 3 202 0], [(0, .box ⟨.c 9, some b0⟩ [cS (S [45, 68, 68])]), (1, .box ⟨.raw (.loop { (aW (aK Tryz.f208) [0, 1, 0, 1, 1, 1, 1] fn tm D) with state := .done, pending := some .ret }), some l⟩ []), (2, .box ⟨.c 3, some b4⟩ [cI 0]), (3, .box ⟨.c 4, some b5⟩ [cB false]), (4, .box ⟨.c 3, some b6⟩ [cI (rdY w)]), (5, .box ⟨.c 3, some b7⟩ [cI (rdM w)]), (6, .box ⟨.c 3, some b8⟩ [cI 0]), (7, .box ⟨.c 9, some b9⟩ [cS (rs3 w)]), (202, y31)]⟩) (aB (zJ : SpG g _ _ _ _ _) (aC (readF b4 b5 b6 b7 b8 b9 D l fn tm h4 h5 h6 h7 h8 h9 hn (rdY w) (rdM w) 0 (rs3 w) (Nat.lt_of_le_of_lt (rsz3 w) hw) hB : cH Tryz.prog (Gl g) _ _ _ _ _))) (fun _ => ?_) (fun hc9 => absurd hc9 (by decide))
 refine zE hG [] .ret (⟨[], [(0, .box ⟨.c 9, some b0⟩ [cS (S [45, 68, 68])]), (1, .box ⟨.raw (.loop { (aW (aK Tryz.f208) [0, 1, 0, 1, 1, 1, 1] fn tm D) with state := .done, pending := some .ret }), some l⟩ []), (2, .box ⟨.c 3, some b4⟩ [cI 0]), (3, .box ⟨.c 4, some b5⟩ [cB false]), (4, .box ⟨.c 3, some b6⟩ [cI (rdY w)]), (5, .box ⟨.c 3, some b7⟩ [cI (rdM w)]), (6, .box ⟨.c 3, some b8⟩ [cI 0]), (7, .box ⟨.c 9, some b9⟩ [cS (rs3 w)])]⟩) aA rfl ?_
 exact zr hG [] [] aA
theorem readItC (b0 : Nat) (b4 b5 b6 b7 b8 b9 D l : Nat) (fn : FuncId) (tm : Array Value) (h4 : tm.getD 4 undef = .pointer (some ⟨b4, 0, none⟩)) (h5 : tm.getD 5 undef = .pointer (some ⟨b5, 0, none⟩)) (h6 : tm.getD 6 undef = .pointer (some ⟨b6, 0, none⟩)) (h7 : tm.getD 7 undef = .pointer (some ⟨b7, 0, none⟩)) (h8 : tm.getD 8 undef = .pointer (some ⟨b8, 0, none⟩)) (h9 : tm.getD 9 undef = .pointer (some ⟨b9, 0, none⟩)) (hn : tm.size = 80) (w : List UInt8) (hw : w.length < 4294967281) (hA : rpA w = true) (hB : rpB w = true) :
  SpG g 172 [.c (.d (.v (.func (.yield l) #[] #[]))), .c (.bx 0 0)] [(0, .box ⟨.c 9, some b0⟩ [cS (S [89, 89, 89, 89, 45, 77, 77, 45, 68, 68])]), (1, zK Tryz.f208 [0, 1, 0, 1, 1, 1, 1] fn tm D l), (2, .box ⟨.c 3, some b4⟩ [cI 0]), (3, .box ⟨.c 4, some b5⟩ [cB false]), (4, .box ⟨.c 3, some b6⟩ [cI 0]), (5, .box ⟨.c 3, some b7⟩ [cI 0]), (6, .box ⟨.c 3, some b8⟩ [cI 0]), (7, .box ⟨.c 9, some b9⟩ [cS (S w)])] (.tup []) [(0, .box ⟨.c 9, some b0⟩ [cS (S [])]), (1, zK Tryz.f208 [0, 1, 0, 1, 1, 1, 1] fn tm D l), (2, .box ⟨.c 3, some b4⟩ [cI 0]), (3, .box ⟨.c 4, some b5⟩ [cB false]), (4, .box ⟨.c 3, some b6⟩ [cI (rdY w)]), (5, .box ⟨.c 3, some b7⟩ [cI (rdM w)]), (6, .box ⟨.c 3, some b8⟩ [cI (rdD w)]), (7, .box ⟨.c 9, some b9⟩ [cS (rs5 w)])] := by
 refine aF 17 Tryz.func172 (by kernel_rfl) fun fr hG => ?_
 refine zL hG [] [0] (fun (zz : Nat) => match zz with | k => (6 - k, ⟨[(0, [], .c (.d (.v (.func (.yield l) #[] #[])))), zX 1 0 0], rdO b0 b4 b5 b6 b7 b8 b9 D l w fn tm k⟩, k ≤ 5)) 0 aA ?_ ?_
 exact Nat.zero_le _
 rintro k hI
 rcases (by omega : k = 0 ∨ k = 1 ∨ k = 2 ∨ k = 3 ∨ k = 4 ∨ k = 5) with rfl | rfl | rfl | rfl | rfl | rfl
 skip
 refine zc hG [] [1, 0] (true) aA (fun _ => ?_) (fun hc2 => absurd hc2 (by decide))
 refine zC hG [(1, 1, kC (y22)), (2, 2, .callG (.c (cB true)) [1, 2, 3, 4, 5, 6, 7] [(0, zK Tryz.f208 [0, 1, 0, 1, 1, 1, 1] fn tm D l), (1, .box ⟨.c 3, some b4⟩ [cI 0]), (2, .box ⟨.c 4, some b5⟩ [cB false]), (3, .box ⟨.c 3, some b6⟩ [cI (rdY w)]), (4, .box ⟨.c 3, some b7⟩ [cI 0]), (5, .box ⟨.c 3, some b8⟩ [cI 0]), (6, .box ⟨.c 9, some b9⟩ [cS (rs1 w)])])] [1, 0, 1, 0, 1] (false) (⟨[(0, [], .c (.d (.v (.func (.yield l) #[] #[])))), zX 1 0 0, zX 3 202 0], [(0, .box ⟨.c 9, some b0⟩ [cS (S [89, 89, 89, 89, 45, 77, 77, 45, 68, 68])]), (1, zK Tryz.f208 [0, 1, 0, 1, 1, 1, 1] fn tm D l), (2, .box ⟨.c 3, some b4⟩ [cI 0]), (3, .box ⟨.c 4, some b5⟩ [cB false]), (4, .box ⟨.c 3, some b6⟩ [cI (rdY w)]), (5, .box ⟨.c 3, some b7⟩ [cI 0]), (6, .box ⟨.c 3, some b8⟩ [cI 0]), (7, .box ⟨.c 9, some b9⟩ [cS (rs1 w)]), (202, y25)]⟩) (aB (uI : SpG g _ _ _ _ _) (aC (aKP b4 b5 b6 b7 b8 b9 D l fn tm h4 h5 h6 h7 h8 h9 hn 0 0 0 (S w) (by rw [aD]; exact hw) : cH Tryz.prog (Gl g) _ _ _ _ _))) (fun hc3 => absurd hc3 (by decide)) (fun _ => ?_)
 refine zD hG [] 1 (aC (by decide : (0 : Int) ≤ 4 ∧ (4 : Int) ≤ ((S [89, 89, 89, 89, 45, 77, 77, 45, 68, 68]).size : Int) ∧ ((S [89, 89, 89, 89, 45, 77, 77, 45, 68, 68]).size : Int) ≤ ((S [89, 89, 89, 89, 45, 77, 77, 45, 68, 68]).size : Int))) ?_ ?_
 (try dsimp only); decide
 (try dsimp only); decide
 skip
 refine zc hG [] [1, 0] (true) aA (fun _ => ?_) (fun hc4 => absurd hc4 (by decide))
 refine zC hG [(1, 1, kC (y26)), (2, 2, .callG (.c (cB true)) [1, 2, 3, 4, 5, 6, 7] [(0, zK Tryz.f208 [0, 1, 0, 1, 1, 1, 1] fn tm D l), (1, .box ⟨.c 3, some b4⟩ [cI 0]), (2, .box ⟨.c 4, some b5⟩ [cB false]), (3, .box ⟨.c 3, some b6⟩ [cI (rdY w)]), (4, .box ⟨.c 3, some b7⟩ [cI 0]), (5, .box ⟨.c 3, some b8⟩ [cI 0]), (6, .box ⟨.c 9, some b9⟩ [cS (rs2 w)])])] [1, 0, 1, 0, 1] (false) (⟨[(0, [], .c (.d (.v (.func (.yield l) #[] #[])))), zX 1 0 0, zX 3 202 0], [(0, .box ⟨.c 9, some b0⟩ [cS (S [45, 77, 77, 45, 68, 68])]), (1, zK Tryz.f208 [0, 1, 0, 1, 1, 1, 1] fn tm D l), (2, .box ⟨.c 3, some b4⟩ [cI 0]), (3, .box ⟨.c 4, some b5⟩ [cB false]), (4, .box ⟨.c 3, some b6⟩ [cI (rdY w)]), (5, .box ⟨.c 3, some b7⟩ [cI 0]), (6, .box ⟨.c 3, some b8⟩ [cI 0]), (7, .box ⟨.c 9, some b9⟩ [cS (rs2 w)]), (202, y31)]⟩) (aB (uH : SpG g _ _ _ _ _) (aC (readS b4 b5 b6 b7 b8 b9 D l fn tm h4 h5 h6 h7 h8 h9 hn (rdY w) 0 0 (rs1 w) (Nat.lt_of_le_of_lt (rsz1 w) hw) hA : cH Tryz.prog (Gl g) _ _ _ _ _))) (fun hc5 => absurd hc5 (by decide)) (fun _ => ?_)
 refine zD hG [] 2 (aC (by decide : (0 : Int) ≤ 1 ∧ (1 : Int) ≤ ((S [45, 77, 77, 45, 68, 68]).size : Int) ∧ ((S [45, 77, 77, 45, 68, 68]).size : Int) ≤ ((S [45, 77, 77, 45, 68, 68]).size : Int))) ?_ ?_
 (try dsimp only); decide
 (try dsimp only); decide
 skip
 refine zc hG [] [1, 0] (true) aA (fun _ => ?_) (fun hc6 => absurd hc6 (by decide))
 refine zC hG [(1, 1, kC (y27)), (2, 2, .callG (.c (cB true)) [1, 2, 3, 4, 5, 6, 7] [(0, zK Tryz.f208 [0, 1, 0, 1, 1, 1, 1] fn tm D l), (1, .box ⟨.c 3, some b4⟩ [cI 0]), (2, .box ⟨.c 4, some b5⟩ [cB false]), (3, .box ⟨.c 3, some b6⟩ [cI (rdY w)]), (4, .box ⟨.c 3, some b7⟩ [cI (rdM w)]), (5, .box ⟨.c 3, some b8⟩ [cI 0]), (6, .box ⟨.c 9, some b9⟩ [cS (rs3 w)])])] [1, 0, 1, 0, 1] (false) (⟨[(0, [], .c (.d (.v (.func (.yield l) #[] #[])))), zX 1 0 0, zX 3 202 0], [(0, .box ⟨.c 9, some b0⟩ [cS (S [77, 77, 45, 68, 68])]), (1, zK Tryz.f208 [0, 1, 0, 1, 1, 1, 1] fn tm D l), (2, .box ⟨.c 3, some b4⟩ [cI 0]), (3, .box ⟨.c 4, some b5⟩ [cB false]), (4, .box ⟨.c 3, some b6⟩ [cI (rdY w)]), (5, .box ⟨.c 3, some b7⟩ [cI (rdM w)]), (6, .box ⟨.c 3, some b8⟩ [cI 0]), (7, .box ⟨.c 9, some b9⟩ [cS (rs3 w)]), (202, y28)]⟩) (aB (zO : SpG g _ _ _ _ _) (aC (readM b4 b5 b6 b7 b8 b9 D l fn tm h4 h5 h6 h7 h8 h9 hn (rdY w) 0 0 (rs2 w) (Nat.lt_of_le_of_lt (rsz2 w) hw) : cH Tryz.prog (Gl g) _ _ _ _ _))) (fun hc7 => absurd hc7 (by decide)) (fun _ => ?_)
 refine zD hG [] 3 (aC (by decide : (0 : Int) ≤ 2 ∧ (2 : Int) ≤ ((S [77, 77, 45, 68, 68]).size : Int) ∧ ((S [77, 77, 45, 68, 68]).size : Int) ≤ ((S [77, 77, 45, 68, 68]).size : Int))) ?_ ?_
 (try dsimp only); decide
 (try dsimp only); decide
 skip
 refine zc hG [] [1, 0] (true) aA (fun _ => ?_) (fun hc8 => absurd hc8 (by decide))
 refine zC hG [(1, 1, kC (y26)), (2, 2, .callG (.c (cB true)) [1, 2, 3, 4, 5, 6, 7] [(0, zK Tryz.f208 [0, 1, 0, 1, 1, 1, 1] fn tm D l), (1, .box ⟨.c 3, some b4⟩ [cI 0]), (2, .box ⟨.c 4, some b5⟩ [cB false]), (3, .box ⟨.c 3, some b6⟩ [cI (rdY w)]), (4, .box ⟨.c 3, some b7⟩ [cI (rdM w)]), (5, .box ⟨.c 3, some b8⟩ [cI 0]), (6, .box ⟨.c 9, some b9⟩ [cS (rs4 w)])])] [1, 0, 1, 0, 1] (false) (⟨[(0, [], .c (.d (.v (.func (.yield l) #[] #[])))), zX 1 0 0, zX 3 202 0], [(0, .box ⟨.c 9, some b0⟩ [cS (S [45, 68, 68])]), (1, zK Tryz.f208 [0, 1, 0, 1, 1, 1, 1] fn tm D l), (2, .box ⟨.c 3, some b4⟩ [cI 0]), (3, .box ⟨.c 4, some b5⟩ [cB false]), (4, .box ⟨.c 3, some b6⟩ [cI (rdY w)]), (5, .box ⟨.c 3, some b7⟩ [cI (rdM w)]), (6, .box ⟨.c 3, some b8⟩ [cI 0]), (7, .box ⟨.c 9, some b9⟩ [cS (rs4 w)]), (202, y31)]⟩) (aB (zJ : SpG g _ _ _ _ _) (aC (readS b4 b5 b6 b7 b8 b9 D l fn tm h4 h5 h6 h7 h8 h9 hn (rdY w) (rdM w) 0 (rs3 w) (Nat.lt_of_le_of_lt (rsz3 w) hw) hB : cH Tryz.prog (Gl g) _ _ _ _ _))) (fun hc9 => absurd hc9 (by decide)) (fun _ => ?_)
 refine zD hG [] 4 (aC (by decide : (0 : Int) ≤ 1 ∧ (1 : Int) ≤ ((S [45, 68, 68]).size : Int) ∧ ((S [45, 68, 68]).size : Int) ≤ ((S [45, 68, 68]).size : Int))) ?_ ?_
 (try dsimp only); decide
 (try dsimp only); decide
 skip
 refine zc hG [] [1, 0] (true) aA (fun _ => ?_) (fun hc10 => absurd hc10 (by decide))
 refine zC hG [(1, 1, kC (y29)), (2, 2, .callG (.c (cB true)) [1, 2, 3, 4, 5, 6, 7] [(0, zK Tryz.f208 [0, 1, 0, 1, 1, 1, 1] fn tm D l), (1, .box ⟨.c 3, some b4⟩ [cI 0]), (2, .box ⟨.c 4, some b5⟩ [cB false]), (3, .box ⟨.c 3, some b6⟩ [cI (rdY w)]), (4, .box ⟨.c 3, some b7⟩ [cI (rdM w)]), (5, .box ⟨.c 3, some b8⟩ [cI (rdD w)]), (6, .box ⟨.c 9, some b9⟩ [cS (rs5 w)])])] [1, 0, 1, 0, 1] (false) (⟨[(0, [], .c (.d (.v (.func (.yield l) #[] #[])))), zX 1 0 0, zX 3 202 0], [(0, .box ⟨.c 9, some b0⟩ [cS (S [68, 68])]), (1, zK Tryz.f208 [0, 1, 0, 1, 1, 1, 1] fn tm D l), (2, .box ⟨.c 3, some b4⟩ [cI 0]), (3, .box ⟨.c 4, some b5⟩ [cB false]), (4, .box ⟨.c 3, some b6⟩ [cI (rdY w)]), (5, .box ⟨.c 3, some b7⟩ [cI (rdM w)]), (6, .box ⟨.c 3, some b8⟩ [cI (rdD w)]), (7, .box ⟨.c 9, some b9⟩ [cS (rs5 w)]), (202, y30)]⟩) (aB (aE2 : SpG g _ _ _ _ _) (aC (readD b4 b5 b6 b7 b8 b9 D l fn tm h4 h5 h6 h7 h8 h9 hn (rdY w) (rdM w) 0 (rs4 w) (Nat.lt_of_le_of_lt (rsz4 w) hw) : cH Tryz.prog (Gl g) _ _ _ _ _))) (fun hc11 => absurd hc11 (by decide)) (fun _ => ?_)
 refine zD hG [] 5 (aC (by decide : (0 : Int) ≤ 2 ∧ (2 : Int) ≤ ((S [68, 68]).size : Int) ∧ ((S [68, 68]).size : Int) ≤ ((S [68, 68]).size : Int))) ?_ ?_
 (try dsimp only); decide
 (try dsimp only); decide
 skip
 refine zc hG [] [1, 0] (false) aA (fun hc12 => absurd hc12 (by decide)) (fun _ => ?_)
 refine zE hG [] (.exit 0) (⟨[], [(0, .box ⟨.c 9, some b0⟩ [cS (S [])]), (1, zK Tryz.f208 [0, 1, 0, 1, 1, 1, 1] fn tm D l), (2, .box ⟨.c 3, some b4⟩ [cI 0]), (3, .box ⟨.c 4, some b5⟩ [cB false]), (4, .box ⟨.c 3, some b6⟩ [cI (rdY w)]), (5, .box ⟨.c 3, some b7⟩ [cI (rdM w)]), (6, .box ⟨.c 3, some b8⟩ [cI (rdD w)]), (7, .box ⟨.c 9, some b9⟩ [cS (rs5 w)])]⟩) aA rfl ?_
 exact zr hG [] [] aA
def d5 := And.intro @dX (And.intro @xT (@blS))
theorem aC2 (w : List UInt8) (hw : w.length < 4294967281) :
  SpG g 208 [.c (cS (S [89, 89, 89, 89, 45, 77, 77, 45, 68, 68])), .c (cS (S w))] [] (y2 (fB w) (eK w)) [] := by
 refine aE9 80 Tryz.func208 (by kernel_rfl) fun fr hG => ?_
 refine zC hG [(1, 1, kB true)] [1, 0, 1] (false) (⟨[zS 0 (S [89, 89, 89, 89, 45, 77, 77, 45, 68, 68]), zS 1 (S w), zX 4 100 0, zX 5 101 0], [(100, .box 3 [cI 0]), (101, .box 4 [cB false])]⟩) (aC (pP : SpG g _ _ _ _ _)) (fun hc1 => absurd hc1 (by decide)) (fun _ => ?_)
 refine q6 hG cY [(5, 1, .call (.c (.fn 172 [] [(100, 0)])) [(100, y32)] [])] [0, 1, 0, 1, 1, 1, 1] (⟨[zS 0 (S [89, 89, 89, 89, 45, 77, 77, 45, 68, 68]), zS 1 (S w), zX 4 100 0, zX 5 101 0, zX 6 400 0, zX 7 401 0, zX 8 402 0, zX 9 501 0, (24, [], .c (.fn 172 [] [(601, 0)]))], [(100, .box 3 [cI 0]), (101, .box 4 [cB false]), (400, .box 3 [cI 0]), (401, .box 3 [cI 0]), (402, .box 3 [cI 0]), (501, .box 9 [cS (S w)]), (601, y32)]⟩) _ (by kernel_rfl) (aC (pU (S [89, 89, 89, 89, 45, 77, 77, 45, 68, 68]) : SpG g _ _ _ _ _)) ?_
 refine aEG (g := 24) (ps := rgP (aK Tryz.f208) [0, 1, 0, 1, 1, 1, 1]) (assign := rgA (aK Tryz.f208) [0, 1, 0, 1, 1, 1, 1]) (body := rgB (aK Tryz.f208) [0, 1, 0, 1, 1, 1, 1]) hG (by kernel_rfl) 9900 9901 9910 (by kernel_rfl) rfl (by kernel_rfl) fun b D l fn tm hT hn => ?_
 rcases aKM w with hA | ⟨hA, hB⟩ | ⟨hA, hB⟩
 skip
 refine ⟨.tup [], [601, 9901, 100, 101, 400, 401, 402, 501], [(0, .box ⟨.c 9, some (b 601)⟩ [cS (S [45, 77, 77, 45, 68, 68])]), (1, .box ⟨.raw (.loop { (aW (aK Tryz.f208) [0, 1, 0, 1, 1, 1, 1] fn tm D) with state := .done, pending := some .ret }), some l⟩ []), (2, .box ⟨.c 3, some (b 100)⟩ [cI 0]), (3, .box ⟨.c 4, some (b 101)⟩ [cB false]), (4, .box ⟨.c 3, some (b 400)⟩ [cI (rdY w)]), (5, .box ⟨.c 3, some (b 401)⟩ [cI 0]), (6, .box ⟨.c 3, some (b 402)⟩ [cI 0]), (7, .box ⟨.c 9, some (b 501)⟩ [cS (rs1 w)])], (some .ret), ⟨[zS 0 (S [89, 89, 89, 89, 45, 77, 77, 45, 68, 68]), zS 1 (S w), zX 4 100 0, zX 5 101 0, zX 6 400 0, zX 7 401 0, zX 8 402 0], [(100, .box ⟨.c 3, some (b 100)⟩ [cI 0]), (101, .box ⟨.c 4, some (b 101)⟩ [cB false]), (400, .box ⟨.c 3, some (b 400)⟩ [cI (rdY w)]), (401, .box ⟨.c 3, some (b 401)⟩ [cI 0]), (402, .box ⟨.c 3, some (b 402)⟩ [cI 0]), (9900, .box ⟨.raw (.deferred (some [])), some D⟩ [])]⟩, _, .ret, by kernel_rfl, aC (readItA (b 601) (b 100) (b 101) (b 400) (b 401) (b 402) (b 501) D l fn tm (hT.bx 4 100 0 rfl) (hT.bx 5 101 0 rfl) (hT.bx 6 400 0 rfl) (hT.bx 7 401 0 rfl) (hT.bx 8 402 0 rfl) (hT.bx 9 501 0 rfl) hn w hw hA : SpG g _ _ _ _ _), rfl, ?_⟩
 have hG0 := hG
 replace hG := j3 (D := D) hG
 refine nY hG0 cY [] [] 9900 (y3) [] (by kernel_rfl) aA ?_ ?_
 have hno : ∀ n, 0 ≤ n → n ≤ 3652058 → aS n = w → False := by
  intro n h0 h1 he
  obtain ⟨pA, pB, py, pm, pd⟩ := kT h0 h1 he
  rw [hA] at pA; cases pA
 obtain ⟨r1, r2⟩ := j9 hno
 rw [r1, r2]
 rfl
 skip
 refine ⟨.tup [], [601, 9901, 100, 101, 400, 401, 402, 501], [(0, .box ⟨.c 9, some (b 601)⟩ [cS (S [45, 68, 68])]), (1, .box ⟨.raw (.loop { (aW (aK Tryz.f208) [0, 1, 0, 1, 1, 1, 1] fn tm D) with state := .done, pending := some .ret }), some l⟩ []), (2, .box ⟨.c 3, some (b 100)⟩ [cI 0]), (3, .box ⟨.c 4, some (b 101)⟩ [cB false]), (4, .box ⟨.c 3, some (b 400)⟩ [cI (rdY w)]), (5, .box ⟨.c 3, some (b 401)⟩ [cI (rdM w)]), (6, .box ⟨.c 3, some (b 402)⟩ [cI 0]), (7, .box ⟨.c 9, some (b 501)⟩ [cS (rs3 w)])], (some .ret), ⟨[zS 0 (S [89, 89, 89, 89, 45, 77, 77, 45, 68, 68]), zS 1 (S w), zX 4 100 0, zX 5 101 0, zX 6 400 0, zX 7 401 0, zX 8 402 0], [(100, .box ⟨.c 3, some (b 100)⟩ [cI 0]), (101, .box ⟨.c 4, some (b 101)⟩ [cB false]), (400, .box ⟨.c 3, some (b 400)⟩ [cI (rdY w)]), (401, .box ⟨.c 3, some (b 401)⟩ [cI (rdM w)]), (402, .box ⟨.c 3, some (b 402)⟩ [cI 0]), (9900, .box ⟨.raw (.deferred (some [])), some D⟩ [])]⟩, _, .ret, by kernel_rfl, aC (readItB (b 601) (b 100) (b 101) (b 400) (b 401) (b 402) (b 501) D l fn tm (hT.bx 4 100 0 rfl) (hT.bx 5 101 0 rfl) (hT.bx 6 400 0 rfl) (hT.bx 7 401 0 rfl) (hT.bx 8 402 0 rfl) (hT.bx 9 501 0 rfl) hn w hw hA hB : SpG g _ _ _ _ _), rfl, ?_⟩
 have hG0 := hG
 replace hG := j3 (D := D) hG
 refine nY hG0 cY [] [] 9900 (y3) [] (by kernel_rfl) aA ?_ ?_
 have hno : ∀ n, 0 ≤ n → n ≤ 3652058 → aS n = w → False := by
  intro n h0 h1 he
  obtain ⟨pA, pB, py, pm, pd⟩ := kT h0 h1 he
  rw [hB] at pB; cases pB
 obtain ⟨r1, r2⟩ := j9 hno
 rw [r1, r2]
 rfl
 skip
 refine ⟨.tup [], [601, 9901, 100, 101, 400, 401, 402, 501], [(0, .box ⟨.c 9, some (b 601)⟩ [cS (S [])]), (1, zK Tryz.f208 [0, 1, 0, 1, 1, 1, 1] fn tm D l), (2, .box ⟨.c 3, some (b 100)⟩ [cI 0]), (3, .box ⟨.c 4, some (b 101)⟩ [cB false]), (4, .box ⟨.c 3, some (b 400)⟩ [cI (rdY w)]), (5, .box ⟨.c 3, some (b 401)⟩ [cI (rdM w)]), (6, .box ⟨.c 3, some (b 402)⟩ [cI (rdD w)]), (7, .box ⟨.c 9, some (b 501)⟩ [cS (rs5 w)])], none, ⟨[zS 0 (S [89, 89, 89, 89, 45, 77, 77, 45, 68, 68]), zS 1 (S w), zX 4 100 0, zX 5 101 0, zX 6 400 0, zX 7 401 0, zX 8 402 0], [(100, .box ⟨.c 3, some (b 100)⟩ [cI 0]), (101, .box ⟨.c 4, some (b 101)⟩ [cB false]), (400, .box ⟨.c 3, some (b 400)⟩ [cI (rdY w)]), (401, .box ⟨.c 3, some (b 401)⟩ [cI (rdM w)]), (402, .box ⟨.c 3, some (b 402)⟩ [cI (rdD w)]), (9900, .box ⟨.raw (.deferred (some [])), some D⟩ [])]⟩, _, .normal, by kernel_rfl, aC (readItC (b 601) (b 100) (b 101) (b 400) (b 401) (b 402) (b 501) D l fn tm (hT.bx 4 100 0 rfl) (hT.bx 5 101 0 rfl) (hT.bx 6 400 0 rfl) (hT.bx 7 401 0 rfl) (hT.bx 8 402 0 rfl) (hT.bx 9 501 0 rfl) hn w hw hA hB : SpG g _ _ _ _ _), rfl, ?_⟩
 have hG0 := hG
 replace hG := j3 (D := D) hG
 refine zC hG [(20, 3, kC (y2 (if eX (rdY w) (rdM w) (rdD w) then eR (rdY w) (rdM w) (rdD w) else 0) (eX (rdY w) (rdM w) (rdD w))))] [1, 0, 1, 1, 1, 1, 1, 1] (!(eX (rdY w) (rdM w) (rdD w))) (⟨[zS 0 (S [89, 89, 89, 89, 45, 77, 77, 45, 68, 68]), zS 1 (S w), zX 4 100 0, zX 5 101 0, zI 15 (if eX (rdY w) (rdM w) (rdD w) then eR (rdY w) (rdM w) (rdD w) else 0)], [(100, .box ⟨.c 3, some (b 100)⟩ [cI 0]), (101, .box ⟨.c 4, some (b 101)⟩ [cB false]), (9900, .box ⟨.raw (.deferred (some [])), some D⟩ [])]⟩) (aC (aCV (rdY w) (rdM w) (rdD w) : SpG g _ _ _ _ _)) (fun hc2 => ?_) (fun hc2 => ?_)
 (try simp only [d5] at hc2)
 refine nY hG0 cY [] [] 9900 (y3) [] (by kernel_rfl) aA ?_ ?_
 have hno : ∀ n, 0 ≤ n → n ≤ 3652058 → aS n = w → False := by
  intro n h0 h1 he
  obtain ⟨pA, pB, py, pm, pd⟩ := kT h0 h1 he
  have v := aDV (kA h0 h1).1
  rw [← py, ← pm, ← pd, hc2] at v; cases v
 obtain ⟨r1, r2⟩ := j9 hno
 rw [r1, r2]
 rfl
 (try simp only [d5] at hc2)
 refine zC hG [(23, 2, kC (y33 (S (aS (if eX (rdY w) (rdM w) (rdD w) then eR (rdY w) (rdM w) (rdD w) else 0)))))] [1, 1, 0, 1, 1, 1, 1, 1, 1, 1] (!((S (aS (if eX (rdY w) (rdM w) (rdD w) then eR (rdY w) (rdM w) (rdD w) else 0))).toList == (S w).toList)) (⟨[zX 4 100 0, zX 5 101 0, zI 15 (if eX (rdY w) (rdM w) (rdD w) then eR (rdY w) (rdM w) (rdD w) else 0)], [(100, .box ⟨.c 3, some (b 100)⟩ [cI 0]), (101, .box ⟨.c 4, some (b 101)⟩ [cB false]), (9900, .box ⟨.raw (.deferred (some [])), some D⟩ [])]⟩) (aC (wX (if eX (rdY w) (rdM w) (rdD w) then eR (rdY w) (rdM w) (rdD w) else 0) (sC _ _ _).1 (sC _ _ _).2 : SpG g _ _ _ _ _)) (fun hc3 => ?_) (fun hc3 => ?_)
 (try simp only [d5] at hc3)
 refine nY hG0 cY [] [] 9900 (y3) [] (by kernel_rfl) aA ?_ ?_
 have hno : ∀ n, 0 ≤ n → n ≤ 3652058 → aS n = w → False := by
  intro n h0 h1 he
  obtain ⟨pA, pB, py, pm, pd⟩ := kT h0 h1 he
  have v := aDV (kA h0 h1).1
  have hs := (kA h0 h1).2
  rw [← py, ← pm, ← pd] at v hs
  rw [if_pos v, hs] at hc3
  exact hc3 he
 obtain ⟨r1, r2⟩ := j9 hno
 rw [r1, r2]
 rfl
 (try simp only [d5] at hc3)
 refine nY hG0 cY [] [] 9900 (y4 (if eX (rdY w) (rdM w) (rdD w) then eR (rdY w) (rdM w) (rdD w) else 0)) [] (by kernel_rfl) aA ?_ ?_
 obtain ⟨r1, r2⟩ := nF (sC _ _ _).1 (sC _ _ _).2 hc3
 rw [r1, r2]
 rfl
theorem z6 (w : List UInt8) (hw : w.length < 4294967281) :
  SpG g 180 [.c (cS (S w))] [] (y2 (fB w) (eK w)) [] := by
 refine aF 8 Tryz.func180 (by kernel_rfl) fun fr hG => ?_
 exact zr hG [(1, 1, kC (y2 (fB w) (eK w)))] [] (aC (aC2 w hw : SpG g _ _ _ _ _))
end Go.Proofs.YtmpgfchkkemngaaGreatDoor
namespace Go.Proofs
open Go.Shelf Go.RowKit Go.Lib
variable {P : Program} {ρ : Ren}
theorem aM1 {r : Int} (h0 : 128 ≤ r) (hv : Lib.validRune r = true) : (∃ x y : UInt8, Utf8.encode r = ⟨#[x, y]⟩ ∧ 128 ≤ y.toNat) ∨ (∃ x y z : UInt8, Utf8.encode r = ⟨#[x, y, z]⟩ ∧ 128 ≤ z.toNat) ∨ (∃ x y z u : UInt8, Utf8.encode r = ⟨#[x, y, z, u]⟩ ∧ 128 ≤ u.toNat) := by
 have hv2 : Utf8.valid r = true := by
  simp only [Lib.validRune, decide_eq_true_eq] at hv
  simp only [Utf8.valid, Bool.or_eq_true, Bool.and_eq_true, decide_eq_true_eq]; omega
 unfold Utf8.encode
 rw [hv2]
 simp only [if_true]
 rw [if_neg (by omega)]
 have hb : ∀ n : Nat, 128 ≤ (UInt8.ofNat (128 + n % 64)).toNat := by
  intro n; rw [UInt8.toNat_ofNat']; omega
 split
 exact .inl ⟨_, _, rfl, hb _⟩
 split
 exact .inr (.inl ⟨_, _, _, rfl, hb _⟩)
 exact .inr (.inr ⟨_, _, _, _, rfl, hb _⟩)
theorem aGX : ∀ {l : List UInt8} {c : UInt8}, 128 ≤ c.toNat → l.all (fun b => decide (b.toNat < 128)) = true → Lib.indexByte l c = -1
 | [], _, _, _ => rfl
 | b :: l, c, h, ha => by
  rw [List.all_cons, Bool.and_eq_true, decide_eq_true_eq] at ha
  have hb : (b == c) = false := by
   rw [beq_eq_false_iff_ne]; rintro rfl; omega
  rw [Lib.indexByte, hb, aGX h ha.2]; rfl
theorem Any.ib_call (L : Lays.n152 P ρ) (s : ByteArray) (c : UInt8) (w : World) (hc : 128 ≤ c.toNat) (hs : s.data.toList.all (fun b => decide (b.toNat < 128)) = true) :
  Calls P (ρ.f 137) #[.string s, .int .u8 c.toNat] w fun e w' => e = .returned (.int .i64 (-1)) ∧ w' = w := by
 have := Any.strings_IndexByte { L with } s (c.toNat : Int) w
 rw [show ((c.toNat : Int)).toNat.toUInt8 = c by simp, aGX hc hs] at this; exact this
set_option maxHeartbeats 4000000 in
set_option maxRecDepth 1000000 in
theorem Any.indexRune_high (L : Lays.n152 P ρ) (r : Int) (w : World) (h0 : 128 ≤ r) (h1 : r ≤ 2147483647) (hr : ¬ r = 65533) :
  Calls P (ρ.f 152) #[.string ⟨#[44, 59, 93, 124]⟩, .int .i32 r] w fun e w' => e = .returned (.int .i64 (-1)) ∧ ∃ n, w' = w.drewN n := by
 have t3 := L.t3; have a3 := L.a3; have z3 := L.z3; have v3 := L.v3
 have t4 := L.t4; have a4 := L.a4; have z4 := L.z4; have v4 := L.v4
 have t5 := L.t5; have a5 := L.a5; have z5 := L.z5; have v5 := L.v5
 have t9 := L.t9; have a9 := L.a9; have z9 := L.z9; have v9 := L.v9
 have t21 := L.t21; have a21 := L.a21; have z21 := L.z21; have v21 := L.v21
 have e137 : ∀ args w, (callFunc (ρ.f 137) args).run P w = .ok (.enter (ρ.f 137) args) w := enters_of L.f137 (by kernel_rfl) rfl
 have hmx := L.mixed
 have e119 : ∀ args w, (callFunc (ρ.f 119) args).run P w = .ok (.enter (ρ.f 119) args) w := enters_of L.f119 (by kernel_rfl) rfl
 have hb1 : decide ((0 : Int) ≤ r) = true := decide_eq_true (by omega)
 have hb2 : decide (r < (128 : Int)) = false := decide_eq_false (by omega)
 have hb3 : (r == (65533 : Int)) = false := beq_eq_false_iff_ne.2 hr
 go_enter L.f152, Body.n152_ntmps ρ
 cases hvr : Lib.validRune r with
 | false =>
  go_wp2_with (go_at_fn (ρ.f 119); refine (Any.utf8_ValidRune { L with } _ _).mono ?_; rintro e w' ⟨rfl, hw⟩; rw [hw, hvr])
  go_ret
  exact ⟨rfl, 0, rfl⟩
 | true =>
  go_wp2_with (go_at_fn (ρ.f 119); refine (Any.utf8_ValidRune { L with } _ _).mono ?_; rintro e w' ⟨rfl, hw⟩; rw [hw, hvr])
  go_step3
  rcases aM1 h0 hvr with ⟨x, y, he, hy⟩ | ⟨x, y, z, he, hy⟩ | ⟨x, y, z, u, he, hy⟩
  ·have hne : (((ByteArray.mk #[44, 59, 93, 124])[1]'(by decide)).toNat != (((ByteArray.mk #[x, y])[1]'(by show 1 < 2; decide)).toNat : Int)) = true := by
    show ((59 : Int) != (y.toNat : Int)) = true
    simp; omega
   have f1 : (1 : Int) < ((ByteArray.mk #[44, 59, 93, 124]).size : Int) := by decide
   have f2 : (1 : Int) < ((ByteArray.mk #[x, y]).size : Int) := by show (1 : Int) < (2 : Int); decide
   have f3 : (2 : Int) ≤ ((ByteArray.mk #[44, 59, 93, 124]).size : Int) := by decide
   go_wp2
   go_loopg [9] 0 (fun g s9 wx => wx = w ∧ s9 = .int .i64 1)
   case atStart => exact ⟨rfl, rfl⟩
   case round =>
    obtain ⟨rfl, rfl⟩ := hrel
    go_wp2
    go_step3
    go_wp2
    go_region_o
    all_goals go_wp2
    all_goals (go_region_with_o (go_at_fn (ρ.f 137); refine (Any.ib_call L _ _ _ (by exact hy) (by decide)).mono ?_; rintro e w' ⟨rfl, hw⟩; rw [hw]))
    all_goals (go_wp2; rw [Exit.noGoto_ret]; go_wp2; (try rw [Exit.noGoto_ret]); (try go_wp2); go_ret; exact ⟨rfl, 2, rfl⟩)
  ·have hne : (((ByteArray.mk #[44, 59, 93, 124])[2]'(by decide)).toNat != (((ByteArray.mk #[x, y, z])[2]'(by show 2 < 3; decide)).toNat : Int)) = true := by
    show ((93 : Int) != (z.toNat : Int)) = true
    simp; omega
   have f1 : (2 : Int) < ((ByteArray.mk #[44, 59, 93, 124]).size : Int) := by decide
   have f2 : (2 : Int) < ((ByteArray.mk #[x, y, z]).size : Int) := by show (2 : Int) < (3 : Int); decide
   have f3 : (3 : Int) ≤ ((ByteArray.mk #[44, 59, 93, 124]).size : Int) := by decide
   go_wp2
   go_loopg [9] 0 (fun g s9 wx => wx = w ∧ s9 = .int .i64 2)
   case atStart => exact ⟨rfl, rfl⟩
   case round =>
    obtain ⟨rfl, rfl⟩ := hrel
    go_wp2
    go_step3
    go_wp2
    go_region_o
    all_goals go_wp2
    all_goals (go_region_with_o (go_at_fn (ρ.f 137); refine (Any.ib_call L _ _ _ (by exact hy) (by decide)).mono ?_; rintro e w' ⟨rfl, hw⟩; rw [hw]))
    all_goals (go_wp2; rw [Exit.noGoto_ret]; go_wp2; (try rw [Exit.noGoto_ret]); (try go_wp2); go_ret; exact ⟨rfl, 2, rfl⟩)
  ·have hne : (((ByteArray.mk #[44, 59, 93, 124])[3]'(by decide)).toNat != (((ByteArray.mk #[x, y, z, u])[3]'(by show 3 < 4; decide)).toNat : Int)) = true := by
    show ((124 : Int) != (u.toNat : Int)) = true
    simp; omega
   have f1 : (3 : Int) < ((ByteArray.mk #[44, 59, 93, 124]).size : Int) := by decide
   have f2 : (3 : Int) < ((ByteArray.mk #[x, y, z, u]).size : Int) := by show (3 : Int) < (4 : Int); decide
   have f3 : (4 : Int) ≤ ((ByteArray.mk #[44, 59, 93, 124]).size : Int) := by decide
   go_wp2
   go_loopg [9] 0 (fun g s9 wx => wx = w ∧ s9 = .int .i64 3)
   case atStart => exact ⟨rfl, rfl⟩
   case round =>
    obtain ⟨rfl, rfl⟩ := hrel
    go_wp2
    go_step3
    go_wp2
    go_region_o
    all_goals go_wp2
    all_goals (go_region_with_o (go_at_fn (ρ.f 137); refine (Any.ib_call L _ _ _ (by exact hy) (by decide)).mono ?_; rintro e w' ⟨rfl, hw⟩; rw [hw]))
    all_goals (go_wp2; rw [Exit.noGoto_ret]; go_wp2; (try rw [Exit.noGoto_ret]); (try go_wp2); go_ret; exact ⟨rfl, 2, rfl⟩)
set_option maxHeartbeats 4000000 in
set_option maxRecDepth 1000000 in
theorem Any.indexRune_err (L : Lays.n152 P ρ) (w : World) :
  Calls P (ρ.f 152) #[.string ⟨#[44, 59, 93, 124]⟩, .int .i32 65533] w fun e w' => e = .returned (.int .i64 (-1)) ∧ ∃ pos, w' = w.iter ⟨#[44, 59, 93, 124]⟩ pos := by
 have t3 := L.t3; have a3 := L.a3; have z3 := L.z3; have v3 := L.v3
 have t4 := L.t4; have a4 := L.a4; have z4 := L.z4; have v4 := L.v4
 have t5 := L.t5; have a5 := L.a5; have z5 := L.z5; have v5 := L.v5
 have t9 := L.t9; have a9 := L.a9; have z9 := L.z9; have v9 := L.v9
 have t21 := L.t21; have a21 := L.a21; have z21 := L.z21; have v21 := L.v21
 have hmx := L.mixed
 generalize hS : (⟨#[44, 59, 93, 124]⟩ : ByteArray) = s
 have HA : Aside (∀ (j : Nat) b, s.data.toList[j]? = some b → b.toNat < 128) := by
  intro j b h
  have hm : b ∈ s.data.toList := List.mem_of_getElem? h
  rw [← hS] at hm
  have hm : b ∈ [44, 59, 93, 124] := hm
  simp only [List.mem_cons, List.not_mem_nil, or_false] at hm
  rcases hm with rfl | rfl | rfl | rfl <;> decide
 clear hS
 go_enter L.f152, Body.n152_ntmps ρ
 go_wp2
 go_loopg [5, 6] s.size (fun g _ _ wx => ∃ i : Nat, i + g = s.size ∧ wx = w.iter s i)
 case atStart => exact ⟨0, by omega, rfl⟩
 case round =>
  obtain ⟨i, hig, rfl⟩ := hrel
  cases gk with
  | zero =>
   obtain rfl : i = s.size := by omega
   have hnx := run_next_end (P := P) w s s.size
   go_wp2
   go_ret
   exact ⟨rfl, _, rfl⟩
  | succ g =>
   have hi : i < s.size := by omega
   obtain ⟨x, hx⟩ : ∃ x : UInt8, s[i]'hi = x := ⟨_, rfl⟩
   have hxl : s.data.toList[i]? = some x := by rw [← hx]; exact Lib.data_getElem? s i hi
   have hx128 : x.toNat < 128 := HA.out i x hxl
   have hnx := fun ty => run_next_ascii (P := P) w s i ty hi (by rw [hx]; exact hx128)
   rw [hx] at hnx
   clear hxl hx
   have hne : ((x.toNat : Int) == (65533 : Int)) = false := beq_eq_false_iff_ne.2 (by omega)
   go_wp2
   go_roundg g
   case measure => omega
   case rel => exact ⟨i + 1, by omega, rfl⟩
end Go.Proofs
namespace Go.Proofs
open Go.Shelf Go.RowKit Go.Lib
variable {P : Program} {ρ : Ren}
theorem aL8 {s : ByteArray} {j : Nat} {b : UInt8} (h : s.data.toList[j]? = some b) : s.get! j = b := by
 have hj : j < s.data.toList.length := (List.getElem?_eq_some_iff.1 h).1
 have hs : j < s.size := by rw [Lib.size_eq]; exact hj
 have := get_at s j hs
 rw [Nat.add_zero] at this
 rw [this]
 have h2 := Lib.data_getElem? s j hs
 rw [h] at h2; exact (Option.some.inj h2).symm
theorem sA {s : ByteArray} {pos k : Nat} (h : pos < s.size) (ha : 128 ≤ (s[pos]'h).toNat) (hk : 1 ≤ k) (hm : ∀ m, 1 ≤ m → m < k → pos + m < s.size ∧ (s.get! (pos + m)).toNat / 64 = 2) :
  pos + k ≤ s.size ∧ ∀ (j : Nat) b, pos ≤ j → j < pos + k → s.data.toList[j]? = some b → 128 ≤ b.toNat := by
 refine ⟨?_, fun j b h1 h2 hj => ?_⟩
 rcases Nat.lt_or_ge 1 k with h1 | h1
 have := (hm (k - 1) (by omega) (by omega)).1; omega
 omega
 have hb := aL8 hj
 rcases Nat.lt_or_ge pos j with h3 | h3
 have := (hm (j - pos) (by omega) (by omega)).2
 rw [show pos + (j - pos) = j by omega, hb] at this; omega
 obtain rfl : j = pos := by omega
 have e := Lib.data_getElem? s j h
 rw [hj] at e
 rw [Option.some.inj e]; exact ha
theorem aCX (s : ByteArray) (pos : Nat) (h : pos < s.size) (ha : 128 ≤ (s[pos]'h).toNat) :
  1 ≤ (Utf8.decode s pos).2 ∧ pos + (Utf8.decode s pos).2 ≤ s.size ∧ ∀ (j : Nat) b, pos ≤ j → j < pos + (Utf8.decode s pos).2 → s.data.toList[j]? = some b → 128 ≤ b.toNat := by
 have hn : ¬ (s[pos]'h).toNat < 128 := by omega
 have one := sA (k := 1) h ha (Nat.le_refl _) (fun m h1 h2 => by omega)
 simp only [Utf8.decode, get_at s pos h, hn, if_false]
 split
 rename_i hc
 split
 simp only [Bool.and_eq_true, decide_eq_true_eq, beq_iff_eq] at hc
 exact ⟨Nat.le_of_ble_eq_true rfl, sA (k := 2) h ha (by decide) (fun m h1 h2 => by
  obtain rfl : m = 1 := by omega
  exact hc.2)⟩
 exact ⟨by decide, one⟩
 split
 rename_i hc
 split
 simp only [Bool.and_eq_true, decide_eq_true_eq, beq_iff_eq] at hc
 exact ⟨Nat.le_of_ble_eq_true rfl, sA (k := 3) h ha (by decide) (fun m h1 h2 => by
  rcases (by omega : m = 1 ∨ m = 2) with rfl | rfl
  exact hc.1.2
  exact hc.2)⟩
 exact ⟨by decide, one⟩
 split
 rename_i hc
 split
 simp only [Bool.and_eq_true, decide_eq_true_eq, beq_iff_eq] at hc
 exact ⟨Nat.le_of_ble_eq_true rfl, sA (k := 4) h ha (by decide) (fun m h1 h2 => by
  rcases (by omega : m = 1 ∨ m = 2 ∨ m = 3) with rfl | rfl | rfl
  exact hc.1.1.2
  exact hc.1.2
  exact hc.2)⟩
 exact ⟨by decide, one⟩
 exact ⟨by decide, one⟩
theorem run_next_at (w : World) (b : Nat) (s : ByteArray) (pos : Nat) (ty : TypeId) (hh : w.heap[b]? = some (.stringIter s pos)) (h : pos < s.size) :
  (Instr.next (.pointer (some ⟨b, 0, none⟩)) true ty).run P w = .ok (.tuple #[.bool true, .int .i64 pos, .int .i32 (Utf8.decode s pos).1]) (w.putObj b (.stringIter s (pos + (Utf8.decode s pos).2))) := by
 simp [Instr.next, getObj, setObj, Sem.run_bind, Sem.run, hh, Result.andThen, h, goInt, World.putObj]
theorem rX (w : World) (b : Nat) (s : ByteArray) (pos : Nat) (ty : TypeId) (hh : w.heap[b]? = some (.stringIter s pos)) (h : ¬ pos < s.size) :
  (Instr.next (.pointer (some ⟨b, 0, none⟩)) true ty).run P w = .ok (.tuple #[.bool false]) w := by
 simp [Instr.next, getObj, Sem.run_bind, Sem.run, hh, Result.andThen, h]
theorem aJD {w wx : World} {b : Nat} {o : Obj} (hb : w.heap.size ≤ b) (h : Below w.heap.size w wx) : Below w.heap.size w (wx.putObj b o) :=
 ⟨h.os, h.tape, h.output, by rw [World.putObj_size]; exact h.size, fun k hk => by rw [World.putObj_heap_other (by omega)]; exact h.block k hk⟩
def seps : List UInt8 := [44, 59, 93, 124]
def lT (r : Int) : Int := if r < 128 then Lib.indexByte seps r.toNat.toUInt8 else -1
theorem Any.indexRune_S4 (L : Lays.n152 P ρ) (r : Int) (w : World) (h0 : 0 ≤ r) (h1 : r ≤ 2147483647) :
  Calls P (ρ.f 152) #[.string ⟨#[44, 59, 93, 124]⟩, .int .i32 r] w fun e w' => e = .returned (.int .i64 (lT r)) ∧ Below w.heap.size w w' := by
 by_cases h : r < 128
 refine (Any.strings_IndexRune_ascii L ⟨#[44, 59, 93, 124]⟩ r w h0 h).mono ?_
 rintro e w' ⟨rfl, rfl⟩
 exact ⟨by rw [lT, if_pos h]; rfl, Below.refl _ _⟩
 rw [lT, if_neg h]
 by_cases hr : r = 65533
 subst hr
 refine (Any.indexRune_err L w).mono ?_
 rintro e w' ⟨rfl, pos, rfl⟩
 exact ⟨rfl, (Below.refl _ w).alloc (Nat.le_refl _) _⟩
 refine (Any.indexRune_high L r w (by omega) h1 hr).mono ?_
 rintro e w' ⟨rfl, n, rfl⟩
 exact ⟨rfl, below_drewN (Below.refl _ w) n⟩
set_option maxHeartbeats 4000000 in
set_option maxRecDepth 1000000 in
theorem Any.indexAny_short (L : Lays.n153 P ρ) (s : ByteArray) (w : World) (h8 : s.size ≤ 8) :
  Calls P (ρ.f 153) #[.string s, .string ⟨#[44, 59, 93, 124]⟩] w fun e w' => e = .returned (.int .i64 (Lib.indexAny s.data.toList seps)) ∧ Below w.heap.size w w' := by
 have h8z : decide ((8 : Int) < (s.size : Int)) = false := decide_eq_false (by omega)
 have t3 := L.t3; have a3 := L.a3; have z3 := L.z3; have v3 := L.v3
 have t4 := L.t4; have a4 := L.a4; have z4 := L.z4; have v4 := L.v4
 have t5 := L.t5; have a5 := L.a5; have z5 := L.z5; have v5 := L.v5
 have t9 := L.t9; have a9 := L.a9; have z9 := L.z9; have v9 := L.v9
 have t21 := L.t21; have a21 := L.a21; have z21 := L.z21; have v21 := L.v21
 have hmx := L.mixed
 have e152 : ∀ args w, (callFunc (ρ.f 152) args).run P w = .ok (.enter (ρ.f 152) args) w := enters_of L.f152 (by kernel_rfl) rfl
 have e226 : ∀ args w, (callFunc (ρ.f 226) args).run P w = .ok (.enter (ρ.f 226) args) w := enters_of L.f226 (by kernel_rfl) rfl
 have L2 : Lays.n152 P ρ := { L with }
 have hC : ∀ (r : Int) (w : World), 0 ≤ r → r ≤ 2147483647 → Calls P (ρ.f 152) #[.string ⟨#[44, 59, 93, 124]⟩, .int .i32 r] w fun e w' => e = .returned (.int .i64 (lT r)) ∧ Below w.heap.size w w' := fun r w h0 h1 => Any.indexRune_S4 L2 r w h0 h1
 go_enter L.f153, Body.n153_ntmps ρ
 go_wp2_with (go_at_fn (ρ.f 226); refine (Any.strings_shouldUseASCIISet { L with } _ _).mono ?_; rintro e w' ⟨rfl, hw⟩; rw [hw, h8z])
 go_loopg [9, 10] s.size (fun g _ _ wx => ∃ i : Nat, i + g = s.size ∧ wx.heap[w.heap.size]? = some (.stringIter s i) ∧ Below w.heap.size w wx ∧ Lib.NoAny s.data.toList seps i)
 case atStart => exact ⟨0, by omega, World.iter_heap _ _ _, (Below.refl _ w).alloc (Nat.le_refl _) _, Lib.NoAny.zero _ _⟩
 case round =>
  obtain ⟨i, hig, hh, hbl, hno⟩ := hrel
  have HN : Aside (Lib.NoAny s.data.toList seps i) := hno
  clear hno
  cases gk with
  | zero =>
   obtain rfl : i = s.size := by omega
   have hnx := fun ty => rX (P := P) wr w.heap.size s s.size ty hh (Nat.lt_irrefl _)
   go_wp2
   go_ret
   exact ⟨by rw [Lib.indexAny_none (by rw [← Lib.size_eq]; exact HN.out)]; rfl, hbl⟩
  | succ g =>
   have hi : i < s.size := by omega
   have hnx := fun ty => run_next_at (P := P) wr w.heap.size s i ty hh hi
   have hrb := decode_le s i
   have hbs : w.heap.size < wr.heap.size := (Array.getElem?_eq_some_iff.1 hh).1
   obtain ⟨x, hx⟩ : ∃ x : UInt8, s[i]'hi = x := ⟨_, rfl⟩
   have hxl : s.data.toList[i]? = some x := by rw [← hx]; exact Lib.data_getElem? s i hi
   have facts : (1 ≤ (Utf8.decode s i).2 ∧ i + (Utf8.decode s i).2 ≤ s.size) ∧ ((0 ≤ lT (Utf8.decode s i).1 ∧ Lib.indexAny s.data.toList seps = i) ∨ (¬ 0 ≤ lT (Utf8.decode s i).1 ∧ Lib.NoAny s.data.toList seps (i + (Utf8.decode s i).2))) := by
    by_cases hx128 : x.toNat < 128
    ·have hd := decode_ascii s i hi (by rw [hx]; exact hx128)
     rw [hx] at hd
     rw [hd]
     have hcon := Lib.contains_iff_indexByte seps x
     have hback : ((x.toNat : Int)).toNat.toUInt8 = x := by simp
     have hrv : lT (x.toNat : Int) = Lib.indexByte seps x := by rw [lT, if_pos (by omega), hback]
     refine ⟨⟨Nat.le_refl _, by omega⟩, ?_⟩
     show (0 ≤ lT (x.toNat : Int) ∧ _) ∨ (¬ 0 ≤ lT (x.toNat : Int) ∧ _)
     rw [hrv]
     cases hin : seps.contains x with
     | true =>
      rw [hin] at hcon
      exact .inl ⟨of_decide_eq_true hcon.symm, Lib.indexAny_hit HN.out hxl hin⟩
     | false =>
      rw [hin] at hcon
      exact .inr ⟨of_decide_eq_false hcon.symm, HN.out.succ hxl hin⟩
    ·have hx2 : 128 ≤ (s[i]'hi).toNat := by rw [hx]; omega
     obtain ⟨d1, d2, d3⟩ := aCX s i hi hx2
     have hr := (decode_high s i hi hx2).1
     refine ⟨⟨d1, d2⟩, .inr ⟨by rw [lT, if_neg (by omega)]; decide, fun j b hj hb => ?_⟩⟩
     rcases Nat.lt_or_ge j i with h | h
     ·exact HN.out j b h hb
     ·have := d3 j b h hj hb
      cases hc : seps.contains b with
      | false => rfl
      | true =>
       have hm : b ∈ seps := by simpa using hc
       simp only [seps, List.mem_cons, List.not_mem_nil, or_false] at hm
       rcases hm with rfl | rfl | rfl | rfl <;> exact absurd this (by decide)
   clear hxl hx
   generalize (Utf8.decode s i).1 = r at *
   generalize (Utf8.decode s i).2 = k at *
   obtain ⟨⟨hk1, hk2⟩, hcase⟩ := facts
   have hputh : (wr.putObj w.heap.size (.stringIter s (i + k))).heap[w.heap.size]? = some (.stringIter s (i + k)) := World.putObj_heap_same hbs
   have hputb : Below w.heap.size w (wr.putObj w.heap.size (.stringIter s (i + k))) := aJD (Nat.le_refl _) hbl
   have hputs : (wr.putObj w.heap.size (.stringIter s (i + k))).heap.size = wr.heap.size := World.putObj_size
   have hrz : (0 : Int) ≤ (r : Int) := Int.natCast_nonneg _
   have hrm : (r : Int) ≤ 2147483647 := by omega
   generalize hwp : wr.putObj w.heap.size (.stringIter s (i + k)) = wp at *
   have HC : Aside (Below w.heap.size w wp ∧ wp.heap[w.heap.size]? = some (.stringIter s (i + k)) ∧ wp.heap.size = wr.heap.size ∧ w.heap.size < wr.heap.size) := ⟨hputb, hputh, hputs, hbs⟩
   clear hputb hputh hputs hwp
   rcases hcase with ⟨hv, hres⟩ | ⟨hv, hno2⟩
   ·have HR : Aside (Lib.indexAny s.data.toList seps = i) := hres
    clear hres
    go_wp2_with (go_at_fn (ρ.f 152); refine (hC _ _ hrz hrm).mono ?_; rintro e w2 ⟨rfl, hw2⟩)
    go_ret
    exact ⟨by rw [HR.out]; rfl, HC.out.1.trans ⟨hw2.os, hw2.tape, hw2.output, hw2.size, fun k hk => hw2.block k (by have := HC.out.1.size; omega)⟩⟩
   ·have HR : Aside (Lib.NoAny s.data.toList seps (i + k)) := hno2
    clear hno2
    go_wp2_with (go_at_fn (ρ.f 152); refine (hC _ _ hrz hrm).mono ?_; rintro e w2 ⟨rfl, hw2⟩)
    go_roundg (s.size - (i + k))
    case measure => omega
    case rel => exact ⟨i + k, by omega, by rw [hw2.block _ (by have := HC.out; omega)]; exact HC.out.2.1, HC.out.1.trans ⟨hw2.os, hw2.tape, hw2.output, hw2.size, fun k hk => hw2.block k (by have := HC.out.1.size; omega)⟩, HR.out⟩
end Go.Proofs
