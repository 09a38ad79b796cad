/- Part 36 of the proof: texts D11, D12, L1, L3, R1, R2, R3, R4, R5, R6. -/
import Derived.Test.YtmpgfchkkemngaaGreatDoorP35
import Derived.Shelf.Strings.IndexAny
import Derived.Laws.RangeAny
import Derived.WalkMore
import Derived.Shelf.RegionOpenPlain
set_option linter.all false
namespace Go.Proofs.YtmpgfchkkemngaaGreatDoor
open Go.RowKit Go.V
open Go.Eng (inR byteAt u8 bH)
open Go.Sort (grow)
variable {g : Gv}
theorem below_grow (w : World) (q : Nat) (os : Array Obj) : Below w.heap.size w (grow (w.drewN q) os) :=
 ⟨rfl, rfl, rfl, by simp [grow, World.drewN], fun i hi => by
  show ((w.drewN q).heap ++ os)[i]? = _
  rw [Array.getElem?_append_left (by show i < w.heap.size; omega)]
  rfl⟩
theorem aKB {w : World} (hG : ∀ b cs, (b, cs) ∈ Gl g → ∃ ty fz, w.heap[b]? = some (.cells cs.toArray ty fz)) : Lib.TabIs Tryz.prog w "internal/strconv.uint64pow10" .u64 Lib.pow10Tab := by
 obtain ⟨ty, fz, h⟩ := hG 2 (powL.map (Value.int .u64)) (by simp [Gl])
 have hn : Tryz.prog.globalNamed "internal/strconv.uint64pow10" = some 2 := by kernel_rfl
 unfold Lib.TabIs World.var?
 rw [hn]
 simp only [Option.bind_some, h]
 rfl
theorem t6 (u : Nat) : Lib.decDigits u = bD u := by
 induction u using Nat.strongRecOn with
 | ind u ih =>
  rw [Lib.decDigits]
  by_cases h : u < 10
  rw [dif_pos h, bD]
  by_cases h0 : u = 0
  subst h0; rfl
  rw [if_neg h0, f7 h0, show u / 10 = 0 by omega, fC, show u % 10 = u by omega, ← sZ]; rfl
  rw [dif_neg h, ih (u / 10) (by omega), bD, bD, if_neg (by omega), if_neg (by omega), f7 (n := u) (by omega), ← sZ]; rfl
theorem pT : ∀ (f : Nat) (x k : Int) (acc : List UInt8), 0 ≤ x → x < 10 ^ f → k ≤ f → cY f x k acc = List.replicate (k.toNat - (j3 x.toNat).length) 48 ++ j3 x.toNat ++ acc
 | 0, x, k, acc, h0, h1, h2 => by
  have : x = 0 := by simp at h1; omega
  subst this
  rw [show k.toNat = 0 by omega]
  simp [cY, fC]
 | f + 1, x, k, acc, h0, h1, h2 => by
  by_cases h : x > 0 ∨ k > 0
  have hp : (10 : Int) ^ (f + 1) = 10 * 10 ^ f := by rw [Int.pow_succ, Int.mul_comm]
  have hx : x / 10 < 10 ^ f := Int.ediv_lt_of_lt_mul (by decide) (by rw [Int.mul_comm, ← hp]; exact h1)
  rw [cY, if_pos h, pT f (x / 10) (k - 1) _ (by omega) hx (by omega)]
  have hd : (x / 10).toNat = x.toNat / 10 := by omega
  rw [hd]
  by_cases hz : x = 0
  subst hz
  have : k.toNat = (k - 1).toNat + 1 := by omega
  simp only [Int.toNat_zero, Nat.zero_div, fC, List.length_nil, Nat.sub_zero, List.append_nil]
  rw [this, List.replicate_succ']
  simp; rfl
  rw [f7 (n := x.toNat) (by omega)]
  have e : (48 + x % 10 : Int) = 48 + ((x.toNat % 10 : Nat) : Int) := by omega
  have e2 : k.toNat - (j3 (x.toNat / 10) ++ [u8 (48 + ((x.toNat % 10 : Nat) : Int))]).length = (k - 1).toNat - (j3 (x.toNat / 10)).length := by
   simp only [dB]; omega
  rw [e, e2]
  simp
  have hx : x = 0 := by omega
  subst hx
  rw [cY, if_neg h, show k.toNat = 0 by omega]
  simp [fC]
theorem itoa_ok (n : Int) (h0 : 0 ≤ n) (h1 : n ≤ 9223372036854775807) : SpG g 44 [.c (cI n)] [] (.c (cS (S (bD n.toNat)))) [] := by
 refine gP (args := [.int .i64 n]) rfl rfl rfl fun w hG => ?_
 have h := Tryz.strconv_Itoa n (by omega) h1 w (aKB hG)
 refine h.mono ?_
 rintro e w' ⟨rfl, k, os, rfl⟩
 refine ⟨?_, below_grow _ _ _⟩
 obtain ⟨u, rfl⟩ : ∃ u : Nat, n = u := ⟨n.toNat, by omega⟩
 rw [Lib.itoa_nonneg, t6, Int.toNat_natCast]; rfl
theorem aH9 (c : Int) (h0 : 0 ≤ c) (h1 : c ≤ 1000000) : SpG g 197 [.c (cS (S [48])), .c (cI c)] [] (.c (cS (S (List.replicate c.toNat 48)))) [] := by
 refine gP (args := [.string (S [48]), .int .i64 c]) rfl rfl rfl fun w _ => ?_
 obtain ⟨u, rfl⟩ : ∃ u : Nat, c = u := ⟨c.toNat, by omega⟩
 have h := Tryz.strings_Repeat (S [48]) u w (by omega) (by rw [aF]; simp; omega)
 have e : Lib.repeatL (S [48]).data.toList u = List.replicate u 48 := by
  have := Lib.repeatL_replicate 48 1 u
  rw [Nat.mul_one] at this
  rw [aZ]; exact this
 rw [e] at h
 exact h
def dK (n size : Int) : List UInt8 := List.replicate (size.toNat - (bD n.toNat).length) 48 ++ bD n.toNat
theorem qO {n k : Int} (h0 : 1 ≤ n) (h1 : n ≤ 99999) (hk : k ≤ 5) : dK n k = cY 5 n k [] := by
 rw [pT 5 n k [] (by omega) (by omega) (by omega), dK, bD, if_neg (by omega)]; simp
theorem cE {n k : Int} (h1 : n ≤ 99999) (hk : k ≤ 5) : (dK n k).length ≤ 10 := by
 have := gY (n := n.toNat) (k := 5) (by omega) (by decide)
 simp only [dK, List.length_append, List.length_replicate]; omega
def dT (y m d : Int) : Nat → List UInt8
 | 0 => []
 | 1 => dK y 4
 | 2 => dK y 4 ++ [45]
 | 3 => dK y 4 ++ [45] ++ dK m 2
 | 4 => dK y 4 ++ [45] ++ dK m 2 ++ [45]
 | _ => dK y 4 ++ [45] ++ dK m 2 ++ [45] ++ dK d 2
theorem dT_date {n : Int} (h0 : 0 ≤ n) (h1 : n ≤ 3652058) : dT (civ n).1 (civ n).2.1 (civ n).2.2 5 = aR n := by
 obtain ⟨a1, a2, a3, a4, a5, a6⟩ := oQ h0 h1
 show dK _ 4 ++ [45] ++ dK _ 2 ++ [45] ++ dK _ 2 = _
 rw [qO a1 (by omega) (by decide), qO a3 (by omega) (by decide), qO a5 (by omega) (by decide), aR]
def dE (y m d : Int) : Nat → List (List D)
 | 0 => []
 | 1 => bytesD (S (dK y 4)).data.toList
 | 2 => bytesD (S (dK y 4)).data.toList ++ bytesD (S [45]).data.toList
 | 3 => bytesD (S (dK y 4)).data.toList ++ bytesD (S [45]).data.toList ++ bytesD (S (dK m 2)).data.toList
 | 4 => bytesD (S (dK y 4)).data.toList ++ bytesD (S [45]).data.toList ++ bytesD (S (dK m 2)).data.toList ++ bytesD (S [45]).data.toList
 | _ => bytesD (S (dK y 4)).data.toList ++ bytesD (S [45]).data.toList ++ bytesD (S (dK m 2)).data.toList ++ bytesD (S [45]).data.toList ++ bytesD (S (dK d 2)).data.toList
structure YMD (y m d : Int) : Prop where
 y0 : 0 ≤ y
 y1 : y ≤ 9999
 m0 : 0 ≤ m
 m1 : m ≤ 12
 d0 : 0 ≤ d
 d1 : d ≤ 31
theorem uZ {y m d : Int} (h : YMD y m d) (k : Nat) : (dE y m d k).length ≤ 100 := by
 obtain ⟨h1, h2, h3, h4, h5, h6⟩ := h
 have a1 := cE (n := y) (k := 4) (by omega) (by decide)
 have a2 := cE (n := m) (k := 2) (by omega) (by decide)
 have a3 := cE (n := d) (k := 2) (by omega) (by decide)
 unfold dE
 split <;> simp only [dB, aI, aZ] <;> omega
theorem dE_text (y m d : Int) : dE y m d 5 = bytesD (S (dT y m d 5)).data.toList := by
 show bytesD (S (dK y 4)).data.toList ++ bytesD (S [45]).data.toList ++ bytesD (S (dK m 2)).data.toList ++ bytesD (S [45]).data.toList ++ bytesD (S (dK d 2)).data.toList = bytesD (S (dK y 4 ++ [45] ++ dK m 2 ++ [45] ++ dK d 2)).data.toList
 simp only [aZ, ← jB]
theorem aIS (n : Int) (h : n ≤ 99999) : (bD n.toNat).length ≤ 5 := gY (by omega) (by decide)
theorem padded_ (n k : Int) (h0 : 0 ≤ n) (h1 : n ≤ 99999) (hk0 : 0 ≤ k) (hk : k ≤ 5) :
  SpG g 171 [.c (cI n), .c (cI k)] [] (.c (cS (S (dK n k)))) [] := by
 have hl := aIS n h1
 refine aG 16 Tryz.func171 (by kernel_rfl) fun fr hG => ?_
 refine zR hG [(1, 1, kS (S (bD (n : Int).toNat))), (2, 5, kS (S (List.replicate ((if (0 : Int) > (k - ((S (bD (n : Int).toNat)).size : Int)) then 0 else (k - ((S (bD (n : Int).toNat)).size : Int))) : Int).toNat 48)))] [] (.c (cS ((S (List.replicate ((if (0 : Int) > (k - ((S (bD (n : Int).toNat)).size : Int)) then 0 else (k - ((S (bD (n : Int).toNat)).size : Int))) : Int).toNat 48)) ++ (S (bD (n : Int).toNat))))) [] (aC (itoa_ok (n) (by omega) (by omega) : SpG g _ _ _ _ _) (aC (by intros; (try simp only [inR, aF, bI, maxLen, List.length_append, List.length_replicate] at *); omega : inR (k - ((S (bD (n : Int).toNat)).size : Int))) (aC (aH9 (if (0 : Int) > (k - ((S (bD (n : Int).toNat)).size : Int)) then 0 else (k - ((S (bD (n : Int).toNat)).size : Int))) (by (try simp only [aF] at *); omega) (by (try simp only [aF] at *); omega) : SpG g _ _ _ _ _) (aB (by intros; (try simp only [inR, aF, bI, maxLen, List.length_append, List.length_replicate] at *); omega : (S (List.replicate ((if (0 : Int) > (k - ((S (bD (n : Int).toNat)).size : Int)) then 0 else (k - ((S (bD (n : Int).toNat)).size : Int))) : Int).toNat 48)).size + (S (bD (n : Int).toNat)).size ≤ maxLen))))) ?_ ?_
 have e : ((if ((0 : Int) : Int) > (k - ((S (bD (n : Int).toNat)).size : Int)) then 0 else (k - ((S (bD (n : Int).toNat)).size : Int))) : Int).toNat = k.toNat - (bD n.toNat).length := by rw [aF]; split <;> omega
 rw [bI, e]; rfl
 rfl
theorem qN (n k : Int) (h0 : 0 ≤ n) (h1 : n ≤ 99999) (hk0 : 0 ≤ k) (hk : k ≤ 5) : SpG g 171 [.c (cI n), .c (cI k)] [] (.c (cS (S (dK n k)))) [] := padded_ n k h0 h1 hk0 hk
theorem aAL (bo : Nat) (y m d : Int) :
  SpG g 83 [.c (.bx 0 3)] [(0, .box ⟨.c 153, some bo⟩ [cI y, cI m, cI d, .d (.v (.pointer none)), cN])] (.tup []) [(0, .box ⟨.c 153, some bo⟩ [cI y, cI m, cI d, .bx 0 3, cN])] := by
 refine aG 20 Tryz.func83 (by kernel_rfl) fun fr hG => ?_
 refine zc hG [] [1] (true) aA (fun _ => ?_) (fun hc1 => absurd hc1 (by decide))
 exact zr hG [] [] (aB (show aD5 Tryz.prog 126 from wY))
theorem aAM (bo : Nat) (y m d : Int) (es : List (List D)) :
  SpG g 83 [.c (.bx 0 3)] [(0, .box ⟨.c 153, some bo⟩ [cI y, cI m, cI d, .bx 0 3, .ar 1 0]), (1, .arr 0 5 1 (es))] (.tup []) [(0, .box ⟨.c 153, some bo⟩ [cI y, cI m, cI d, .bx 0 3, .ar 1 0]), (1, .arr 0 5 1 (es))] := by
 refine aG 20 Tryz.func83 (by kernel_rfl) fun fr hG => ?_
 refine zc hG [] [1] (false) aA (fun hc1 => absurd hc1 (by decide)) (fun _ => ?_)
 refine zC hG [] [1, 1, 1] (false) (⟨[], [(0, .box ⟨.c 153, some bo⟩ [cI y, cI m, cI d, .bx 0 3, .ar 1 0]), (1, .arr 0 5 1 (es))]⟩) aA (fun hc2 => absurd hc2 (by decide)) (fun _ => ?_)
 exact zr hG [] [] aA
theorem sQ (bo : Nat) (y m d : Int) (s : ByteArray) (h : s.size ≤ 1000000000000) :
  SpG g 48 [.c (.bx 0 3), .c (cS s)] [(0, .box ⟨.c 153, some bo⟩ [cI y, cI m, cI d, .d (.v (.pointer none)), cN])] (y19 (s.size : Int)) [(0, .box ⟨.c 153, some bo⟩ [cI y, cI m, cI d, .bx 0 3, .ar 100 0]), (100, y20 (bytesD s.data.toList))] := by
 refine aG 19 Tryz.func48 (by kernel_rfl) fun fr hG => ?_
 exact zr hG [(1, 1, .callG (.tup []) [0] [(0, .box ⟨.c 153, some bo⟩ [cI y, cI m, cI d, .bx 0 3, cN])])] [306] (aC (aAL bo y m d : SpG g _ _ _ _ _) (aB (by intros; first | assumption | omega : (s).size ≤ 1000000000000)))
theorem fY (bo : Nat) (y m d : Int) (es : List (List D)) (s : ByteArray) (h : es.length + s.size ≤ 1000000000000) :
  SpG g 48 [.c (.bx 0 3), .c (cS s)] [(0, .box ⟨.c 153, some bo⟩ [cI y, cI m, cI d, .bx 0 3, .ar 1 0]), (1, .arr 0 5 1 (es))] (y19 (s.size : Int)) [(0, .box ⟨.c 153, some bo⟩ [cI y, cI m, cI d, .bx 0 3, .ar 1 0]), (1, y20 (es ++ bytesD s.data.toList))] := by
 refine aG 19 Tryz.func48 (by kernel_rfl) fun fr hG => ?_
 exact zr hG [(1, 1, .callG (.tup []) [0, 1] [(0, .box ⟨.c 153, some bo⟩ [cI y, cI m, cI d, .bx 0 3, .ar 1 0]), (1, .arr 0 5 1 (es))])] [] (aC (aAM bo y m d (es) : SpG g _ _ _ _ _) (aB (by intros; first | assumption | omega : (es).length + (s).size ≤ 1000000000000)))
theorem sC (bo : Nat) (y m d : Int) (es : List (List D)) (r : ByteArray) (h : es = bytesD r.data.toList) :
  SpG g 51 [.c (.bx 0 3)] [(0, .box ⟨.c 153, some bo⟩ [cI y, cI m, cI d, .bx 0 3, .ar 1 0]), (1, .arr 0 5 1 (es))] (.c (cS r)) [(1, .arr 0 5 1 []), (0, .box ⟨.c 153, some bo⟩ [cI y, cI m, cI d, .bx 0 3, .any])] := by
 refine aG 14 Tryz.func51 (by kernel_rfl) fun fr hG => ?_
 exact zr hG [(1, 10, kS (r))] [] (aC (show es = bytesD (r).data.toList from h) (aB (by intros; first | assumption | (rw [h, aI]; rfl) : (((es).length : Int) : Int) = ((r).size : Int))))
theorem vH (bo : Nat) (y m d : Int) (es : List (List D)) (r : ByteArray) (h : es = bytesD r.data.toList) :
  SpG g 51 [.c (.bx 0 3)] [(0, .box ⟨.c 153, some bo⟩ [cI y, cI m, cI d, .bx 0 3, .ar 1 0]), (1, .arr 0 5 1 es)] (.c (cS r)) [(0, .box ⟨.c 153, some bo⟩ [cI y, cI m, cI d, .bx 0 3, .any]), (1, .arr 0 5 1 [])] :=
 fW (sC bo y m d es r h) (by funext i; match i with | 0 => rfl | 1 => rfl | i + 2 => rfl)
theorem put0_ (bo : Nat) (y m d : Int) (hy : YMD y m d) :
  SpG g 124 [.c (.bx 0 0), y21] [(0, .box ⟨.c 153, some bo⟩ [cI y, cI m, cI d, .d (.v (.pointer none)), cN])] (.tup []) [(100, .arr 0 5 1 (dE y m d 1)), (0, .box ⟨.c 153, some bo⟩ [cI y, cI m, cI d, .bx 0 3, .ar 100 0])] := by
 have hdl := uZ hy 0
 have p1 := cE (n := y) (k := 4) (by have := hy.y1; omega) (by decide)
 have p2 := cE (n := m) (k := 2) (by have := hy.m1; omega) (by decide)
 have p3 := cE (n := d) (k := 2) (by have := hy.d1; omega) (by decide)
 obtain ⟨y0, y1, m0, m1, d0, d1⟩ := hy
 refine aG 57 Tryz.func124 (by kernel_rfl) fun fr hG => ?_
 refine zC hG [] [1, 0, 1] (false) (⟨[zX 0 0 0, zX 3 100 0], [(0, .box ⟨.c 153, some bo⟩ [cI y, cI m, cI d, .d (.v (.pointer none)), cN]), (100, y24)]⟩) aA (fun hc1 => absurd hc1 (by decide)) (fun _ => ?_)
 refine zc hG [] [1, 1, 1, 0, 1] (true) (aB (by decide : (0 : Int) ≤ 0 ∧ 0 < ((S [89, 89, 89, 89]).size : Int))) (fun _ => ?_) (fun hc2 => absurd hc2 (by decide))
 exact zr hG [(5, 7, kS (S (dK y 4))), (5, 8, .callG (y19 ((S (dK y 4)).size : Int)) [0] [(0, .box ⟨.c 153, some bo⟩ [cI y, cI m, cI d, .bx 0 3, .ar 100 0]), (100, y20 (bytesD (S (dK y 4)).data.toList))])] [608] (aC (qN y 4 (by omega) (by omega) (by decide) (by decide) : SpG g _ _ _ _ _) (aB (sQ bo y m d (S (dK y 4)) (by simp only [zq2] at *; omega) : SpG g _ _ _ _ _)))
theorem put0 (bo : Nat) (y m d : Int) (hy : YMD y m d) :
  SpG g 124 [.c (.bx 0 0), y21] [(0, .box ⟨.c 153, some bo⟩ [cI y, cI m, cI d, .d (.v (.pointer none)), cN])] (.tup []) [(0, .box ⟨.c 153, some bo⟩ [cI y, cI m, cI d, .bx 0 3, .ar 100 0]), (100, .arr 0 5 1 (dE y m d 1))] := by
 refine fW (put0_ bo y m d hy) ?_
 first | rfl | (funext i; simp only [bG, upd]; ((repeat' split) <;> first | rfl | (exfalso; omega)))
theorem put1_ (bo : Nat) (y m d : Int) (hy : YMD y m d) :
  SpG g 124 [.c (.bx 0 0), y25] [(0, .box ⟨.c 153, some bo⟩ [cI y, cI m, cI d, .bx 0 3, .ar 1 0]), (1, .arr 0 5 1 (dE y m d 1))] (.tup []) [(1, .arr 0 5 1 (dE y m d 2)), (0, .box ⟨.c 153, some bo⟩ [cI y, cI m, cI d, .bx 0 3, .ar 1 0])] := by
 have hdl := uZ hy 1
 have p1 := cE (n := y) (k := 4) (by have := hy.y1; omega) (by decide)
 have p2 := cE (n := m) (k := 2) (by have := hy.m1; omega) (by decide)
 have p3 := cE (n := d) (k := 2) (by have := hy.d1; omega) (by decide)
 obtain ⟨y0, y1, m0, m1, d0, d1⟩ := hy
 refine aG 57 Tryz.func124 (by kernel_rfl) fun fr hG => ?_
 refine zC hG [] [1, 0, 1] (true) (⟨[zX 0 0 0, zX 3 100 0], [(0, .box ⟨.c 153, some bo⟩ [cI y, cI m, cI d, .bx 0 3, .ar 1 0]), (1, .arr 0 5 1 (dE y m d 1)), (100, y30)]⟩) aA (fun _ => ?_) (fun hc1 => absurd hc1 (by decide))
 exact zr hG [(3, 5, .callG (y19 ((S [45]).size : Int)) [0, 1] [(0, .box ⟨.c 153, some bo⟩ [cI y, cI m, cI d, .bx 0 3, .ar 1 0]), (1, y20 ((dE y m d 1) ++ bytesD (S [45]).data.toList))])] [] (aB (fY bo y m d (dE y m d 1) (S [45]) (by simp only [zq2] at *; omega) : SpG g _ _ _ _ _))
theorem put1 (bo : Nat) (y m d : Int) (hy : YMD y m d) :
  SpG g 124 [.c (.bx 0 0), y25] [(0, .box ⟨.c 153, some bo⟩ [cI y, cI m, cI d, .bx 0 3, .ar 1 0]), (1, .arr 0 5 1 (dE y m d 1))] (.tup []) [(0, .box ⟨.c 153, some bo⟩ [cI y, cI m, cI d, .bx 0 3, .ar 1 0]), (1, .arr 0 5 1 (dE y m d 2))] := by
 refine fW (put1_ bo y m d hy) ?_
 first | rfl | (funext i; simp only [bG, upd]; ((repeat' split) <;> first | rfl | (exfalso; omega)))
theorem put2_ (bo : Nat) (y m d : Int) (hy : YMD y m d) :
  SpG g 124 [.c (.bx 0 0), y26] [(0, .box ⟨.c 153, some bo⟩ [cI y, cI m, cI d, .bx 0 3, .ar 1 0]), (1, .arr 0 5 1 (dE y m d 2))] (.tup []) [(1, .arr 0 5 1 (dE y m d 3)), (0, .box ⟨.c 153, some bo⟩ [cI y, cI m, cI d, .bx 0 3, .ar 1 0])] := by
 have hdl := uZ hy 2
 have p1 := cE (n := y) (k := 4) (by have := hy.y1; omega) (by decide)
 have p2 := cE (n := m) (k := 2) (by have := hy.m1; omega) (by decide)
 have p3 := cE (n := d) (k := 2) (by have := hy.d1; omega) (by decide)
 obtain ⟨y0, y1, m0, m1, d0, d1⟩ := hy
 refine aG 57 Tryz.func124 (by kernel_rfl) fun fr hG => ?_
 refine zC hG [] [1, 0, 1] (false) (⟨[zX 0 0 0, zX 3 100 0], [(0, .box ⟨.c 153, some bo⟩ [cI y, cI m, cI d, .bx 0 3, .ar 1 0]), (1, .arr 0 5 1 (dE y m d 2)), (100, y27)]⟩) aA (fun hc1 => absurd hc1 (by decide)) (fun _ => ?_)
 refine zc hG [] [1, 1, 1, 0, 1] (false) (aB (by decide : (0 : Int) ≤ 0 ∧ 0 < ((S [77, 77]).size : Int))) (fun hc2 => absurd hc2 (by decide)) (fun _ => ?_)
 refine zc hG [] [1, 1, 1, 1, 1, 0, 1] (true) (aB (by decide : (0 : Int) ≤ 0 ∧ 0 < ((S [77, 77]).size : Int))) (fun _ => ?_) (fun hc3 => absurd hc3 (by decide))
 exact zr hG [(7, 10, kS (S (dK m 2))), (7, 11, .callG (y19 ((S (dK m 2)).size : Int)) [0, 1] [(0, .box ⟨.c 153, some bo⟩ [cI y, cI m, cI d, .bx 0 3, .ar 1 0]), (1, y20 ((dE y m d 2) ++ bytesD (S (dK m 2)).data.toList))])] [] (aC (qN m 2 (by omega) (by omega) (by decide) (by decide) : SpG g _ _ _ _ _) (aB (fY bo y m d (dE y m d 2) (S (dK m 2)) (by simp only [zq2] at *; omega) : SpG g _ _ _ _ _)))
theorem put2 (bo : Nat) (y m d : Int) (hy : YMD y m d) :
  SpG g 124 [.c (.bx 0 0), y26] [(0, .box ⟨.c 153, some bo⟩ [cI y, cI m, cI d, .bx 0 3, .ar 1 0]), (1, .arr 0 5 1 (dE y m d 2))] (.tup []) [(0, .box ⟨.c 153, some bo⟩ [cI y, cI m, cI d, .bx 0 3, .ar 1 0]), (1, .arr 0 5 1 (dE y m d 3))] := by
 refine fW (put2_ bo y m d hy) ?_
 first | rfl | (funext i; simp only [bG, upd]; ((repeat' split) <;> first | rfl | (exfalso; omega)))
theorem put3_ (bo : Nat) (y m d : Int) (hy : YMD y m d) :
  SpG g 124 [.c (.bx 0 0), y25] [(0, .box ⟨.c 153, some bo⟩ [cI y, cI m, cI d, .bx 0 3, .ar 1 0]), (1, .arr 0 5 1 (dE y m d 3))] (.tup []) [(1, .arr 0 5 1 (dE y m d 4)), (0, .box ⟨.c 153, some bo⟩ [cI y, cI m, cI d, .bx 0 3, .ar 1 0])] := by
 have hdl := uZ hy 3
 have p1 := cE (n := y) (k := 4) (by have := hy.y1; omega) (by decide)
 have p2 := cE (n := m) (k := 2) (by have := hy.m1; omega) (by decide)
 have p3 := cE (n := d) (k := 2) (by have := hy.d1; omega) (by decide)
 obtain ⟨y0, y1, m0, m1, d0, d1⟩ := hy
 refine aG 57 Tryz.func124 (by kernel_rfl) fun fr hG => ?_
 refine zC hG [] [1, 0, 1] (true) (⟨[zX 0 0 0, zX 3 100 0], [(0, .box ⟨.c 153, some bo⟩ [cI y, cI m, cI d, .bx 0 3, .ar 1 0]), (1, .arr 0 5 1 (dE y m d 3)), (100, y30)]⟩) aA (fun _ => ?_) (fun hc1 => absurd hc1 (by decide))
 exact zr hG [(3, 5, .callG (y19 ((S [45]).size : Int)) [0, 1] [(0, .box ⟨.c 153, some bo⟩ [cI y, cI m, cI d, .bx 0 3, .ar 1 0]), (1, y20 ((dE y m d 3) ++ bytesD (S [45]).data.toList))])] [] (aB (fY bo y m d (dE y m d 3) (S [45]) (by simp only [zq2] at *; omega) : SpG g _ _ _ _ _))
theorem put3 (bo : Nat) (y m d : Int) (hy : YMD y m d) :
  SpG g 124 [.c (.bx 0 0), y25] [(0, .box ⟨.c 153, some bo⟩ [cI y, cI m, cI d, .bx 0 3, .ar 1 0]), (1, .arr 0 5 1 (dE y m d 3))] (.tup []) [(0, .box ⟨.c 153, some bo⟩ [cI y, cI m, cI d, .bx 0 3, .ar 1 0]), (1, .arr 0 5 1 (dE y m d 4))] := by
 refine fW (put3_ bo y m d hy) ?_
 first | rfl | (funext i; simp only [bG, upd]; ((repeat' split) <;> first | rfl | (exfalso; omega)))
theorem put4_ (bo : Nat) (y m d : Int) (hy : YMD y m d) :
  SpG g 124 [.c (.bx 0 0), y28] [(0, .box ⟨.c 153, some bo⟩ [cI y, cI m, cI d, .bx 0 3, .ar 1 0]), (1, .arr 0 5 1 (dE y m d 4))] (.tup []) [(1, .arr 0 5 1 (dE y m d 5)), (0, .box ⟨.c 153, some bo⟩ [cI y, cI m, cI d, .bx 0 3, .ar 1 0])] := by
 have hdl := uZ hy 4
 have p1 := cE (n := y) (k := 4) (by have := hy.y1; omega) (by decide)
 have p2 := cE (n := m) (k := 2) (by have := hy.m1; omega) (by decide)
 have p3 := cE (n := d) (k := 2) (by have := hy.d1; omega) (by decide)
 obtain ⟨y0, y1, m0, m1, d0, d1⟩ := hy
 refine aG 57 Tryz.func124 (by kernel_rfl) fun fr hG => ?_
 refine zC hG [] [1, 0, 1] (false) (⟨[zX 0 0 0, zX 3 100 0], [(0, .box ⟨.c 153, some bo⟩ [cI y, cI m, cI d, .bx 0 3, .ar 1 0]), (1, .arr 0 5 1 (dE y m d 4)), (100, y29)]⟩) aA (fun hc1 => absurd hc1 (by decide)) (fun _ => ?_)
 refine zc hG [] [1, 1, 1, 0, 1] (false) (aB (by decide : (0 : Int) ≤ 0 ∧ 0 < ((S [68, 68]).size : Int))) (fun hc2 => absurd hc2 (by decide)) (fun _ => ?_)
 refine zc hG [] [1, 1, 1, 1, 1, 0, 1] (false) (aB (by decide : (0 : Int) ≤ 0 ∧ 0 < ((S [68, 68]).size : Int))) (fun hc3 => absurd hc3 (by decide)) (fun _ => ?_)
 exact zr hG [(1, 10, kS (S (dK d 2))), (1, 11, .callG (y19 ((S (dK d 2)).size : Int)) [0, 1] [(0, .box ⟨.c 153, some bo⟩ [cI y, cI m, cI d, .bx 0 3, .ar 1 0]), (1, y20 ((dE y m d 4) ++ bytesD (S (dK d 2)).data.toList))])] [] (aC (qN d 2 (by omega) (by omega) (by decide) (by decide) : SpG g _ _ _ _ _) (aB (fY bo y m d (dE y m d 4) (S (dK d 2)) (by simp only [zq2] at *; omega) : SpG g _ _ _ _ _)))
theorem put4 (bo : Nat) (y m d : Int) (hy : YMD y m d) :
  SpG g 124 [.c (.bx 0 0), y28] [(0, .box ⟨.c 153, some bo⟩ [cI y, cI m, cI d, .bx 0 3, .ar 1 0]), (1, .arr 0 5 1 (dE y m d 4))] (.tup []) [(0, .box ⟨.c 153, some bo⟩ [cI y, cI m, cI d, .bx 0 3, .ar 1 0]), (1, .arr 0 5 1 (dE y m d 5))] := by
 refine fW (put4_ bo y m d hy) ?_
 first | rfl | (funext i; simp only [bG, upd]; ((repeat' split) <;> first | rfl | (exfalso; omega)))
theorem aMM (bo bw D l : Nat) (y m d : Int) (hy : YMD y m d) (fn : FuncId) (tm : Array Value) (h11 : tm.getD 11 undef = .pointer (some ⟨bw, 0, none⟩)) (hn : tm.size = 44) :
  cC Tryz.prog (Gl g) l [y21] [(0, zK Tryz.f82 [0, 1, 0, 1, 1, 1, 1, 1] fn tm D l), (1, .box ⟨.c 153, some bo⟩ [cI y, cI m, cI d, .d (.v (.pointer none)), cN]), (2, .box ⟨.c 154, some bw⟩ [.fn 124 [(1, 0)] []])] (.c (cB true)) [(0, zK Tryz.f82 [0, 1, 0, 1, 1, 1, 1, 1] fn tm D l), (1, .box ⟨.c 153, some bo⟩ [cI y, cI m, cI d, .bx 1 3, .ar 100 0]), (2, .box ⟨.c 154, some bw⟩ [.fn 124 [(1, 0)] []]), (100, .arr 0 5 1 (dE y m d 1))] := by
 refine fS (iL := 0) (p := 36) (env0 := [zX 11 2 0]) (n := 44) (r := (aX (aM Tryz.f82) [0, 1, 0, 1, 1, 1, 1, 1] fn tm D)) rfl (by kernel_rfl) hn (by decide) ⟨rfl, ⟨_, _, _, rfl, rfl, h11⟩, trivial⟩ rfl fun fr hG => ?_
 refine iS hG cW [] (⟨[zX 11 2 0, zX 12 800 0], [(0, zK Tryz.f82 [0, 1, 0, 1, 1, 1, 1, 1] fn tm D l), (1, .box ⟨.c 153, some bo⟩ [cI y, cI m, cI d, .d (.v (.pointer none)), cN]), (2, .box ⟨.c 154, some bw⟩ [.fn 124 [(1, 0)] []]), (800, y24)]⟩) 0 (r := (aX (aM Tryz.f82) [0, 1, 0, 1, 1, 1, 1, 1] fn tm D)) (by kernel_rfl) aA rfl rfl ?_
 refine fU hG (⟨[zX 11 2 0, zX 12 800 0], [(0, .box ⟨.raw (.loop { (aX (aM Tryz.f82) [0, 1, 0, 1, 1, 1, 1, 1] fn tm D) with state := .busy }), some l⟩ []), (1, .box ⟨.c 153, some bo⟩ [cI y, cI m, cI d, .d (.v (.pointer none)), cN]), (2, .box ⟨.c 154, some bw⟩ [.fn 124 [(1, 0)] []]), (800, y24)]⟩) (by kernel_rfl) ?_
 refine iR hG cW [(8, 2, .callG (.tup []) [1] [(0, .box ⟨.c 153, some bo⟩ [cI y, cI m, cI d, .bx 0 3, .ar 100 0]), (100, .arr 0 5 1 (dE y m d 1))])] [902] 0 .normal [(0, .box ⟨.raw (jQ { (aX (aM Tryz.f82) [0, 1, 0, 1, 1, 1, 1, 1] fn tm D) with state := .busy } .normal), some l⟩ []), (100, .arr 0 5 1 (dE y m d 1)), (1, .box ⟨.c 153, some bo⟩ [cI y, cI m, cI d, .bx 1 3, .ar 100 0]), (2, .box ⟨.c 154, some bw⟩ [.fn 124 [(1, 0)] []])] (by kernel_rfl) (aB (put0 bo y m d hy : SpG g _ _ _ _ _)) ?_ ?_
 rfl
 funext i; simp only [bG, upd]; (repeat' split) <;> first | rfl | (exfalso; omega)
theorem aML (bo bw D l : Nat) (y m d : Int) (hy : YMD y m d) (fn : FuncId) (tm : Array Value) (h11 : tm.getD 11 undef = .pointer (some ⟨bw, 0, none⟩)) (hn : tm.size = 44) :
  cC Tryz.prog (Gl g) l [y25] [(0, zK Tryz.f82 [0, 1, 0, 1, 1, 1, 1, 1] fn tm D l), (1, .box ⟨.c 153, some bo⟩ [cI y, cI m, cI d, .bx 1 3, .ar 3 0]), (2, .box ⟨.c 154, some bw⟩ [.fn 124 [(1, 0)] []]), (3, .arr 0 5 1 (dE y m d 1))] (.c (cB true)) [(0, zK Tryz.f82 [0, 1, 0, 1, 1, 1, 1, 1] fn tm D l), (1, .box ⟨.c 153, some bo⟩ [cI y, cI m, cI d, .bx 1 3, .ar 3 0]), (2, .box ⟨.c 154, some bw⟩ [.fn 124 [(1, 0)] []]), (3, .arr 0 5 1 (dE y m d 2))] := by
 refine fS (iL := 0) (p := 36) (env0 := [zX 11 2 0]) (n := 44) (r := (aX (aM Tryz.f82) [0, 1, 0, 1, 1, 1, 1, 1] fn tm D)) rfl (by kernel_rfl) hn (by decide) ⟨rfl, ⟨_, _, _, rfl, rfl, h11⟩, trivial⟩ rfl fun fr hG => ?_
 refine iS hG cW [] (⟨[zX 11 2 0, zX 12 800 0], [(0, zK Tryz.f82 [0, 1, 0, 1, 1, 1, 1, 1] fn tm D l), (1, .box ⟨.c 153, some bo⟩ [cI y, cI m, cI d, .bx 1 3, .ar 3 0]), (2, .box ⟨.c 154, some bw⟩ [.fn 124 [(1, 0)] []]), (3, .arr 0 5 1 (dE y m d 1)), (800, y30)]⟩) 0 (r := (aX (aM Tryz.f82) [0, 1, 0, 1, 1, 1, 1, 1] fn tm D)) (by kernel_rfl) aA rfl rfl ?_
 refine fU hG (⟨[zX 11 2 0, zX 12 800 0], [(0, .box ⟨.raw (.loop { (aX (aM Tryz.f82) [0, 1, 0, 1, 1, 1, 1, 1] fn tm D) with state := .busy }), some l⟩ []), (1, .box ⟨.c 153, some bo⟩ [cI y, cI m, cI d, .bx 1 3, .ar 3 0]), (2, .box ⟨.c 154, some bw⟩ [.fn 124 [(1, 0)] []]), (3, .arr 0 5 1 (dE y m d 1)), (800, y30)]⟩) (by kernel_rfl) ?_
 refine iR hG cW [(8, 2, .callG (.tup []) [1, 3] [(0, .box ⟨.c 153, some bo⟩ [cI y, cI m, cI d, .bx 0 3, .ar 1 0]), (1, .arr 0 5 1 (dE y m d 2))])] [] 0 .normal [(0, .box ⟨.raw (jQ { (aX (aM Tryz.f82) [0, 1, 0, 1, 1, 1, 1, 1] fn tm D) with state := .busy } .normal), some l⟩ []), (3, .arr 0 5 1 (dE y m d 2)), (1, .box ⟨.c 153, some bo⟩ [cI y, cI m, cI d, .bx 1 3, .ar 3 0]), (2, .box ⟨.c 154, some bw⟩ [.fn 124 [(1, 0)] []])] (by kernel_rfl) (aB (put1 bo y m d hy : SpG g _ _ _ _ _)) ?_ ?_
 rfl
 funext i; simp only [bG, upd]; (repeat' split) <;> first | rfl | (exfalso; omega)
theorem aMK (bo bw D l : Nat) (y m d : Int) (hy : YMD y m d) (fn : FuncId) (tm : Array Value) (h11 : tm.getD 11 undef = .pointer (some ⟨bw, 0, none⟩)) (hn : tm.size = 44) :
  cC Tryz.prog (Gl g) l [y26] [(0, zK Tryz.f82 [0, 1, 0, 1, 1, 1, 1, 1] fn tm D l), (1, .box ⟨.c 153, some bo⟩ [cI y, cI m, cI d, .bx 1 3, .ar 3 0]), (2, .box ⟨.c 154, some bw⟩ [.fn 124 [(1, 0)] []]), (3, .arr 0 5 1 (dE y m d 2))] (.c (cB true)) [(0, zK Tryz.f82 [0, 1, 0, 1, 1, 1, 1, 1] fn tm D l), (1, .box ⟨.c 153, some bo⟩ [cI y, cI m, cI d, .bx 1 3, .ar 3 0]), (2, .box ⟨.c 154, some bw⟩ [.fn 124 [(1, 0)] []]), (3, .arr 0 5 1 (dE y m d 3))] := by
 refine fS (iL := 0) (p := 36) (env0 := [zX 11 2 0]) (n := 44) (r := (aX (aM Tryz.f82) [0, 1, 0, 1, 1, 1, 1, 1] fn tm D)) rfl (by kernel_rfl) hn (by decide) ⟨rfl, ⟨_, _, _, rfl, rfl, h11⟩, trivial⟩ rfl fun fr hG => ?_
 refine iS hG cW [] (⟨[zX 11 2 0, zX 12 800 0], [(0, zK Tryz.f82 [0, 1, 0, 1, 1, 1, 1, 1] fn tm D l), (1, .box ⟨.c 153, some bo⟩ [cI y, cI m, cI d, .bx 1 3, .ar 3 0]), (2, .box ⟨.c 154, some bw⟩ [.fn 124 [(1, 0)] []]), (3, .arr 0 5 1 (dE y m d 2)), (800, y27)]⟩) 0 (r := (aX (aM Tryz.f82) [0, 1, 0, 1, 1, 1, 1, 1] fn tm D)) (by kernel_rfl) aA rfl rfl ?_
 refine fU hG (⟨[zX 11 2 0, zX 12 800 0], [(0, .box ⟨.raw (.loop { (aX (aM Tryz.f82) [0, 1, 0, 1, 1, 1, 1, 1] fn tm D) with state := .busy }), some l⟩ []), (1, .box ⟨.c 153, some bo⟩ [cI y, cI m, cI d, .bx 1 3, .ar 3 0]), (2, .box ⟨.c 154, some bw⟩ [.fn 124 [(1, 0)] []]), (3, .arr 0 5 1 (dE y m d 2)), (800, y27)]⟩) (by kernel_rfl) ?_
 refine iR hG cW [(8, 2, .callG (.tup []) [1, 3] [(0, .box ⟨.c 153, some bo⟩ [cI y, cI m, cI d, .bx 0 3, .ar 1 0]), (1, .arr 0 5 1 (dE y m d 3))])] [] 0 .normal [(0, .box ⟨.raw (jQ { (aX (aM Tryz.f82) [0, 1, 0, 1, 1, 1, 1, 1] fn tm D) with state := .busy } .normal), some l⟩ []), (3, .arr 0 5 1 (dE y m d 3)), (1, .box ⟨.c 153, some bo⟩ [cI y, cI m, cI d, .bx 1 3, .ar 3 0]), (2, .box ⟨.c 154, some bw⟩ [.fn 124 [(1, 0)] []])] (by kernel_rfl) (aB (put2 bo y m d hy : SpG g _ _ _ _ _)) ?_ ?_
 rfl
 funext i; simp only [bG, upd]; (repeat' split) <;> first | rfl | (exfalso; omega)
theorem aMJ (bo bw D l : Nat) (y m d : Int) (hy : YMD y m d) (fn : FuncId) (tm : Array Value) (h11 : tm.getD 11 undef = .pointer (some ⟨bw, 0, none⟩)) (hn : tm.size = 44) :
  cC Tryz.prog (Gl g) l [y25] [(0, zK Tryz.f82 [0, 1, 0, 1, 1, 1, 1, 1] fn tm D l), (1, .box ⟨.c 153, some bo⟩ [cI y, cI m, cI d, .bx 1 3, .ar 3 0]), (2, .box ⟨.c 154, some bw⟩ [.fn 124 [(1, 0)] []]), (3, .arr 0 5 1 (dE y m d 3))] (.c (cB true)) [(0, zK Tryz.f82 [0, 1, 0, 1, 1, 1, 1, 1] fn tm D l), (1, .box ⟨.c 153, some bo⟩ [cI y, cI m, cI d, .bx 1 3, .ar 3 0]), (2, .box ⟨.c 154, some bw⟩ [.fn 124 [(1, 0)] []]), (3, .arr 0 5 1 (dE y m d 4))] := by
 refine fS (iL := 0) (p := 36) (env0 := [zX 11 2 0]) (n := 44) (r := (aX (aM Tryz.f82) [0, 1, 0, 1, 1, 1, 1, 1] fn tm D)) rfl (by kernel_rfl) hn (by decide) ⟨rfl, ⟨_, _, _, rfl, rfl, h11⟩, trivial⟩ rfl fun fr hG => ?_
 refine iS hG cW [] (⟨[zX 11 2 0, zX 12 800 0], [(0, zK Tryz.f82 [0, 1, 0, 1, 1, 1, 1, 1] fn tm D l), (1, .box ⟨.c 153, some bo⟩ [cI y, cI m, cI d, .bx 1 3, .ar 3 0]), (2, .box ⟨.c 154, some bw⟩ [.fn 124 [(1, 0)] []]), (3, .arr 0 5 1 (dE y m d 3)), (800, y30)]⟩) 0 (r := (aX (aM Tryz.f82) [0, 1, 0, 1, 1, 1, 1, 1] fn tm D)) (by kernel_rfl) aA rfl rfl ?_
 refine fU hG (⟨[zX 11 2 0, zX 12 800 0], [(0, .box ⟨.raw (.loop { (aX (aM Tryz.f82) [0, 1, 0, 1, 1, 1, 1, 1] fn tm D) with state := .busy }), some l⟩ []), (1, .box ⟨.c 153, some bo⟩ [cI y, cI m, cI d, .bx 1 3, .ar 3 0]), (2, .box ⟨.c 154, some bw⟩ [.fn 124 [(1, 0)] []]), (3, .arr 0 5 1 (dE y m d 3)), (800, y30)]⟩) (by kernel_rfl) ?_
 refine iR hG cW [(8, 2, .callG (.tup []) [1, 3] [(0, .box ⟨.c 153, some bo⟩ [cI y, cI m, cI d, .bx 0 3, .ar 1 0]), (1, .arr 0 5 1 (dE y m d 4))])] [] 0 .normal [(0, .box ⟨.raw (jQ { (aX (aM Tryz.f82) [0, 1, 0, 1, 1, 1, 1, 1] fn tm D) with state := .busy } .normal), some l⟩ []), (3, .arr 0 5 1 (dE y m d 4)), (1, .box ⟨.c 153, some bo⟩ [cI y, cI m, cI d, .bx 1 3, .ar 3 0]), (2, .box ⟨.c 154, some bw⟩ [.fn 124 [(1, 0)] []])] (by kernel_rfl) (aB (put3 bo y m d hy : SpG g _ _ _ _ _)) ?_ ?_
 rfl
 funext i; simp only [bG, upd]; (repeat' split) <;> first | rfl | (exfalso; omega)
theorem aMI (bo bw D l : Nat) (y m d : Int) (hy : YMD y m d) (fn : FuncId) (tm : Array Value) (h11 : tm.getD 11 undef = .pointer (some ⟨bw, 0, none⟩)) (hn : tm.size = 44) :
  cC Tryz.prog (Gl g) l [y28] [(0, zK Tryz.f82 [0, 1, 0, 1, 1, 1, 1, 1] fn tm D l), (1, .box ⟨.c 153, some bo⟩ [cI y, cI m, cI d, .bx 1 3, .ar 3 0]), (2, .box ⟨.c 154, some bw⟩ [.fn 124 [(1, 0)] []]), (3, .arr 0 5 1 (dE y m d 4))] (.c (cB true)) [(0, zK Tryz.f82 [0, 1, 0, 1, 1, 1, 1, 1] fn tm D l), (1, .box ⟨.c 153, some bo⟩ [cI y, cI m, cI d, .bx 1 3, .ar 3 0]), (2, .box ⟨.c 154, some bw⟩ [.fn 124 [(1, 0)] []]), (3, .arr 0 5 1 (dE y m d 5))] := by
 refine fS (iL := 0) (p := 36) (env0 := [zX 11 2 0]) (n := 44) (r := (aX (aM Tryz.f82) [0, 1, 0, 1, 1, 1, 1, 1] fn tm D)) rfl (by kernel_rfl) hn (by decide) ⟨rfl, ⟨_, _, _, rfl, rfl, h11⟩, trivial⟩ rfl fun fr hG => ?_
 refine iS hG cW [] (⟨[zX 11 2 0, zX 12 800 0], [(0, zK Tryz.f82 [0, 1, 0, 1, 1, 1, 1, 1] fn tm D l), (1, .box ⟨.c 153, some bo⟩ [cI y, cI m, cI d, .bx 1 3, .ar 3 0]), (2, .box ⟨.c 154, some bw⟩ [.fn 124 [(1, 0)] []]), (3, .arr 0 5 1 (dE y m d 4)), (800, y29)]⟩) 0 (r := (aX (aM Tryz.f82) [0, 1, 0, 1, 1, 1, 1, 1] fn tm D)) (by kernel_rfl) aA rfl rfl ?_
 refine fU hG (⟨[zX 11 2 0, zX 12 800 0], [(0, .box ⟨.raw (.loop { (aX (aM Tryz.f82) [0, 1, 0, 1, 1, 1, 1, 1] fn tm D) with state := .busy }), some l⟩ []), (1, .box ⟨.c 153, some bo⟩ [cI y, cI m, cI d, .bx 1 3, .ar 3 0]), (2, .box ⟨.c 154, some bw⟩ [.fn 124 [(1, 0)] []]), (3, .arr 0 5 1 (dE y m d 4)), (800, y29)]⟩) (by kernel_rfl) ?_
 refine iR hG cW [(8, 2, .callG (.tup []) [1, 3] [(0, .box ⟨.c 153, some bo⟩ [cI y, cI m, cI d, .bx 0 3, .ar 1 0]), (1, .arr 0 5 1 (dE y m d 5))])] [] 0 .normal [(0, .box ⟨.raw (jQ { (aX (aM Tryz.f82) [0, 1, 0, 1, 1, 1, 1, 1] fn tm D) with state := .busy } .normal), some l⟩ []), (3, .arr 0 5 1 (dE y m d 5)), (1, .box ⟨.c 153, some bo⟩ [cI y, cI m, cI d, .bx 1 3, .ar 3 0]), (2, .box ⟨.c 154, some bw⟩ [.fn 124 [(1, 0)] []])] (by kernel_rfl) (aB (put4 bo y m d hy : SpG g _ _ _ _ _)) ?_ ?_
 rfl
 funext i; simp only [bG, upd]; (repeat' split) <;> first | rfl | (exfalso; omega)
noncomputable def itO (b0 bo bw D l : Nat) (y m d : Int) (fn : FuncId) (tm : Array Value) : Nat → bL
 | 0 => [(0, .box ⟨.c 9, some b0⟩ [cS (S [89, 89, 89, 89, 45, 77, 77, 45, 68, 68])]), (1, zK Tryz.f82 [0, 1, 0, 1, 1, 1, 1, 1] fn tm D l), (2, .box ⟨.c 153, some bo⟩ [cI y, cI m, cI d, .d (.v (.pointer none)), cN]), (3, .box ⟨.c 154, some bw⟩ [.fn 124 [(2, 0)] []])]
 | 1 => [(0, .box ⟨.c 9, some b0⟩ [cS (S [45, 77, 77, 45, 68, 68])]), (1, zK Tryz.f82 [0, 1, 0, 1, 1, 1, 1, 1] fn tm D l), (2, .box ⟨.c 153, some bo⟩ [cI y, cI m, cI d, .bx 2 3, .ar 302 0]), (3, .box ⟨.c 154, some bw⟩ [.fn 124 [(2, 0)] []]), (302, .arr 0 5 1 (dE y m d 1))]
 | 2 => [(0, .box ⟨.c 9, some b0⟩ [cS (S [77, 77, 45, 68, 68])]), (1, zK Tryz.f82 [0, 1, 0, 1, 1, 1, 1, 1] fn tm D l), (2, .box ⟨.c 153, some bo⟩ [cI y, cI m, cI d, .bx 2 3, .ar 302 0]), (3, .box ⟨.c 154, some bw⟩ [.fn 124 [(2, 0)] []]), (302, .arr 0 5 1 (dE y m d 2))]
 | 3 => [(0, .box ⟨.c 9, some b0⟩ [cS (S [45, 68, 68])]), (1, zK Tryz.f82 [0, 1, 0, 1, 1, 1, 1, 1] fn tm D l), (2, .box ⟨.c 153, some bo⟩ [cI y, cI m, cI d, .bx 2 3, .ar 302 0]), (3, .box ⟨.c 154, some bw⟩ [.fn 124 [(2, 0)] []]), (302, .arr 0 5 1 (dE y m d 3))]
 | 4 => [(0, .box ⟨.c 9, some b0⟩ [cS (S [68, 68])]), (1, zK Tryz.f82 [0, 1, 0, 1, 1, 1, 1, 1] fn tm D l), (2, .box ⟨.c 153, some bo⟩ [cI y, cI m, cI d, .bx 2 3, .ar 302 0]), (3, .box ⟨.c 154, some bw⟩ [.fn 124 [(2, 0)] []]), (302, .arr 0 5 1 (dE y m d 4))]
 | _ => [(0, .box ⟨.c 9, some b0⟩ [cS (S [])]), (1, zK Tryz.f82 [0, 1, 0, 1, 1, 1, 1, 1] fn tm D l), (2, .box ⟨.c 153, some bo⟩ [cI y, cI m, cI d, .bx 2 3, .ar 302 0]), (3, .box ⟨.c 154, some bw⟩ [.fn 124 [(2, 0)] []]), (302, .arr 0 5 1 (dE y m d 5))]
theorem aFE (b0 : Nat) (bo bw D l : Nat) (y m d : Int) (hy : YMD y m d) (fn : FuncId) (tm : Array Value) (h11 : tm.getD 11 undef = .pointer (some ⟨bw, 0, none⟩)) (hn : tm.size = 44) :
  SpG g 172 [.c (.d (.v (.func (.yield l) #[] #[]))), .c (.bx 0 0)] [(0, .box ⟨.c 9, some b0⟩ [cS (S [89, 89, 89, 89, 45, 77, 77, 45, 68, 68])]), (1, zK Tryz.f82 [0, 1, 0, 1, 1, 1, 1, 1] fn tm D l), (2, .box ⟨.c 153, some bo⟩ [cI y, cI m, cI d, .d (.v (.pointer none)), cN]), (3, .box ⟨.c 154, some bw⟩ [.fn 124 [(2, 0)] []])] (.tup []) [(0, .box ⟨.c 9, some b0⟩ [cS (S [])]), (1, zK Tryz.f82 [0, 1, 0, 1, 1, 1, 1, 1] fn tm D l), (2, .box ⟨.c 153, some bo⟩ [cI y, cI m, cI d, .bx 2 3, .ar 100 0]), (3, .box ⟨.c 154, some bw⟩ [.fn 124 [(2, 0)] []]), (100, .arr 0 5 1 (dE y m d 5))] := by
 refine aG 17 Tryz.func172 (by kernel_rfl) fun fr hG => ?_
 refine zL hG [] [0] (fun (zz : Nat) => match zz with | k => (6 - k, ⟨[(0, [], .c (.d (.v (.func (.yield l) #[] #[])))), zX 1 0 0], itO b0 bo bw D l y m d fn tm k⟩, k ≤ 5)) 0 aA ?_ ?_
 exact Nat.zero_le _
 rintro k hI
 rcases (by omega : k = 0 ∨ k = 1 ∨ k = 2 ∨ k = 3 ∨ k = 4 ∨ k = 5) with rfl | rfl | rfl | rfl | rfl | rfl
 skip
 refine zc hG [] [1, 0] (true) aA (fun _ => ?_) (fun hc2 => absurd hc2 (by decide))
 refine zC hG [(1, 1, kC (y21)), (2, 2, .callG (.c (cB true)) [1, 2, 3] [(0, zK Tryz.f82 [0, 1, 0, 1, 1, 1, 1, 1] fn tm D l), (1, .box ⟨.c 153, some bo⟩ [cI y, cI m, cI d, .bx 1 3, .ar 100 0]), (2, .box ⟨.c 154, some bw⟩ [.fn 124 [(1, 0)] []]), (100, .arr 0 5 1 (dE y m d 1))])] [1, 0, 1, 0, 1] (false) (⟨[(0, [], .c (.d (.v (.func (.yield l) #[] #[])))), zX 1 0 0, zX 3 202 0], [(0, .box ⟨.c 9, some b0⟩ [cS (S [89, 89, 89, 89, 45, 77, 77, 45, 68, 68])]), (1, zK Tryz.f82 [0, 1, 0, 1, 1, 1, 1, 1] fn tm D l), (2, .box ⟨.c 153, some bo⟩ [cI y, cI m, cI d, .bx 2 3, .ar 302 0]), (3, .box ⟨.c 154, some bw⟩ [.fn 124 [(2, 0)] []]), (202, y24), (302, .arr 0 5 1 (dE y m d 1))]⟩) (aC (uR : SpG g _ _ _ _ _) (aB (aMM bo bw D l y m d hy fn tm h11 hn : cC Tryz.prog (Gl g) _ _ _ _ _))) (fun hc3 => absurd hc3 (by decide)) (fun _ => ?_)
 refine zD hG [] 1 (aB (by decide : (0 : Int) ≤ 4 ∧ (4 : Int) ≤ ((S [89, 89, 89, 89, 45, 77, 77, 45, 68, 68]).size : Int) ∧ ((S [89, 89, 89, 89, 45, 77, 77, 45, 68, 68]).size : Int) ≤ ((S [89, 89, 89, 89, 45, 77, 77, 45, 68, 68]).size : Int))) ?_ ?_
 (try dsimp only); decide
 (try dsimp only); decide
 skip
 refine zc hG [] [1, 0] (true) aA (fun _ => ?_) (fun hc4 => absurd hc4 (by decide))
 refine zC hG [(1, 1, kC (y25)), (2, 2, .callG (.c (cB true)) [1, 2, 3, 302] [(0, zK Tryz.f82 [0, 1, 0, 1, 1, 1, 1, 1] fn tm D l), (1, .box ⟨.c 153, some bo⟩ [cI y, cI m, cI d, .bx 1 3, .ar 3 0]), (2, .box ⟨.c 154, some bw⟩ [.fn 124 [(1, 0)] []]), (3, .arr 0 5 1 (dE y m d 2))])] [1, 0, 1, 0, 1] (false) (⟨[(0, [], .c (.d (.v (.func (.yield l) #[] #[])))), zX 1 0 0, zX 3 202 0], [(0, .box ⟨.c 9, some b0⟩ [cS (S [45, 77, 77, 45, 68, 68])]), (1, zK Tryz.f82 [0, 1, 0, 1, 1, 1, 1, 1] fn tm D l), (2, .box ⟨.c 153, some bo⟩ [cI y, cI m, cI d, .bx 2 3, .ar 302 0]), (3, .box ⟨.c 154, some bw⟩ [.fn 124 [(2, 0)] []]), (202, y30), (302, .arr 0 5 1 (dE y m d 2))]⟩) (aC (uQ : SpG g _ _ _ _ _) (aB (aML bo bw D l y m d hy fn tm h11 hn : cC Tryz.prog (Gl g) _ _ _ _ _))) (fun hc5 => absurd hc5 (by decide)) (fun _ => ?_)
 refine zD hG [] 2 (aB (by decide : (0 : Int) ≤ 1 ∧ (1 : Int) ≤ ((S [45, 77, 77, 45, 68, 68]).size : Int) ∧ ((S [45, 77, 77, 45, 68, 68]).size : Int) ≤ ((S [45, 77, 77, 45, 68, 68]).size : Int))) ?_ ?_
 (try dsimp only); decide
 (try dsimp only); decide
 skip
 refine zc hG [] [1, 0] (true) aA (fun _ => ?_) (fun hc6 => absurd hc6 (by decide))
 refine zC hG [(1, 1, kC (y26)), (2, 2, .callG (.c (cB true)) [1, 2, 3, 302] [(0, zK Tryz.f82 [0, 1, 0, 1, 1, 1, 1, 1] fn tm D l), (1, .box ⟨.c 153, some bo⟩ [cI y, cI m, cI d, .bx 1 3, .ar 3 0]), (2, .box ⟨.c 154, some bw⟩ [.fn 124 [(1, 0)] []]), (3, .arr 0 5 1 (dE y m d 3))])] [1, 0, 1, 0, 1] (false) (⟨[(0, [], .c (.d (.v (.func (.yield l) #[] #[])))), zX 1 0 0, zX 3 202 0], [(0, .box ⟨.c 9, some b0⟩ [cS (S [77, 77, 45, 68, 68])]), (1, zK Tryz.f82 [0, 1, 0, 1, 1, 1, 1, 1] fn tm D l), (2, .box ⟨.c 153, some bo⟩ [cI y, cI m, cI d, .bx 2 3, .ar 302 0]), (3, .box ⟨.c 154, some bw⟩ [.fn 124 [(2, 0)] []]), (202, y27), (302, .arr 0 5 1 (dE y m d 3))]⟩) (aC (aAD : SpG g _ _ _ _ _) (aB (aMK bo bw D l y m d hy fn tm h11 hn : cC Tryz.prog (Gl g) _ _ _ _ _))) (fun hc7 => absurd hc7 (by decide)) (fun _ => ?_)
 refine zD hG [] 3 (aB (by decide : (0 : Int) ≤ 2 ∧ (2 : Int) ≤ ((S [77, 77, 45, 68, 68]).size : Int) ∧ ((S [77, 77, 45, 68, 68]).size : Int) ≤ ((S [77, 77, 45, 68, 68]).size : Int))) ?_ ?_
 (try dsimp only); decide
 (try dsimp only); decide
 skip
 refine zc hG [] [1, 0] (true) aA (fun _ => ?_) (fun hc8 => absurd hc8 (by decide))
 refine zC hG [(1, 1, kC (y25)), (2, 2, .callG (.c (cB true)) [1, 2, 3, 302] [(0, zK Tryz.f82 [0, 1, 0, 1, 1, 1, 1, 1] fn tm D l), (1, .box ⟨.c 153, some bo⟩ [cI y, cI m, cI d, .bx 1 3, .ar 3 0]), (2, .box ⟨.c 154, some bw⟩ [.fn 124 [(1, 0)] []]), (3, .arr 0 5 1 (dE y m d 4))])] [1, 0, 1, 0, 1] (false) (⟨[(0, [], .c (.d (.v (.func (.yield l) #[] #[])))), zX 1 0 0, zX 3 202 0], [(0, .box ⟨.c 9, some b0⟩ [cS (S [45, 68, 68])]), (1, zK Tryz.f82 [0, 1, 0, 1, 1, 1, 1, 1] fn tm D l), (2, .box ⟨.c 153, some bo⟩ [cI y, cI m, cI d, .bx 2 3, .ar 302 0]), (3, .box ⟨.c 154, some bw⟩ [.fn 124 [(2, 0)] []]), (202, y30), (302, .arr 0 5 1 (dE y m d 4))]⟩) (aC (aAC : SpG g _ _ _ _ _) (aB (aMJ bo bw D l y m d hy fn tm h11 hn : cC Tryz.prog (Gl g) _ _ _ _ _))) (fun hc9 => absurd hc9 (by decide)) (fun _ => ?_)
 refine zD hG [] 4 (aB (by decide : (0 : Int) ≤ 1 ∧ (1 : Int) ≤ ((S [45, 68, 68]).size : Int) ∧ ((S [45, 68, 68]).size : Int) ≤ ((S [45, 68, 68]).size : Int))) ?_ ?_
 (try dsimp only); decide
 (try dsimp only); decide
 skip
 refine zc hG [] [1, 0] (true) aA (fun _ => ?_) (fun hc10 => absurd hc10 (by decide))
 refine zC hG [(1, 1, kC (y28)), (2, 2, .callG (.c (cB true)) [1, 2, 3, 302] [(0, zK Tryz.f82 [0, 1, 0, 1, 1, 1, 1, 1] fn tm D l), (1, .box ⟨.c 153, some bo⟩ [cI y, cI m, cI d, .bx 1 3, .ar 3 0]), (2, .box ⟨.c 154, some bw⟩ [.fn 124 [(1, 0)] []]), (3, .arr 0 5 1 (dE y m d 5))])] [1, 0, 1, 0, 1] (false) (⟨[(0, [], .c (.d (.v (.func (.yield l) #[] #[])))), zX 1 0 0, zX 3 202 0], [(0, .box ⟨.c 9, some b0⟩ [cS (S [68, 68])]), (1, zK Tryz.f82 [0, 1, 0, 1, 1, 1, 1, 1] fn tm D l), (2, .box ⟨.c 153, some bo⟩ [cI y, cI m, cI d, .bx 2 3, .ar 302 0]), (3, .box ⟨.c 154, some bw⟩ [.fn 124 [(2, 0)] []]), (202, y29), (302, .arr 0 5 1 (dE y m d 5))]⟩) (aC (aFG : SpG g _ _ _ _ _) (aB (aMI bo bw D l y m d hy fn tm h11 hn : cC Tryz.prog (Gl g) _ _ _ _ _))) (fun hc11 => absurd hc11 (by decide)) (fun _ => ?_)
 refine zD hG [] 5 (aB (by decide : (0 : Int) ≤ 2 ∧ (2 : Int) ≤ ((S [68, 68]).size : Int) ∧ ((S [68, 68]).size : Int) ≤ ((S [68, 68]).size : Int))) ?_ ?_
 (try dsimp only); decide
 (try dsimp only); decide
 skip
 refine zc hG [] [1, 0] (false) aA (fun hc12 => absurd hc12 (by decide)) (fun _ => ?_)
 refine zE hG [] (.exit 0) (⟨[], [(0, .box ⟨.c 9, some b0⟩ [cS (S [])]), (1, zK Tryz.f82 [0, 1, 0, 1, 1, 1, 1, 1] fn tm D l), (2, .box ⟨.c 153, some bo⟩ [cI y, cI m, cI d, .bx 2 3, .ar 302 0]), (3, .box ⟨.c 154, some bw⟩ [.fn 124 [(2, 0)] []]), (302, .arr 0 5 1 (dE y m d 5))]⟩) aA rfl ?_
 exact zr hG [] [302] aA
theorem aI9 (b0 : Nat) (bo bw D l : Nat) (y m d : Int) (hy : YMD y m d) (fn : FuncId) (tm : Array Value) (h11 : tm.getD 11 undef = .pointer (some ⟨bw, 0, none⟩)) (hn : tm.size = 44) :
  SpG g 172 [.c (.d (.v (.func (.yield l) #[] #[]))), .c (.bx 0 0)] [(0, .box ⟨.c 9, some b0⟩ [cS (S [89, 89, 89, 89, 45, 77, 77, 45, 68, 68])]), (1, zK Tryz.f82 [0, 1, 0, 1, 1, 1, 1, 1] fn tm D l), (2, .box ⟨.c 153, some bo⟩ [cI y, cI m, cI d, .d (.v (.pointer none)), cN]), (3, .box ⟨.c 154, some bw⟩ [.fn 124 [(2, 0)] []])] (.tup []) [(0, .box ⟨.c 9, some b0⟩ [cS (S [])]), (1, zK Tryz.f82 [0, 1, 0, 1, 1, 1, 1, 1] fn tm D l), (2, .box ⟨.c 153, some bo⟩ [cI y, cI m, cI d, .bx 2 3, .ar 100 0]), (3, .box ⟨.c 154, some bw⟩ [.fn 124 [(2, 0)] []]), (100, .arr 0 5 1 (dE y m d 5))] := by
 refine fW (aFE b0 bo bw D l y m d hy fn tm h11 hn) ?_
 first | rfl | (funext i; simp only [bG, upd]; ((repeat' split) <;> first | rfl | (exfalso; omega)))
theorem civ_ymd {n : Int} (h0 : 0 ≤ n) (h1 : n ≤ 3652058) : YMD (civ n).1 (civ n).2.1 (civ n).2.2 := by
 obtain ⟨a1, a2, a3, a4, a5, a6⟩ := oQ h0 h1
 exact ⟨by omega, by omega, by omega, by omega, by omega, by omega⟩
abbrev y32 (a0 : ByteArray) : SV := .tup [(false, [cS a0]), (false, [cB true])]
theorem xD (n : Int) (h0 : 0 ≤ n) (h1 : n ≤ 3652058) :
  SpG g 82 [.c (cS (S [89, 89, 89, 89, 45, 77, 77, 45, 68, 68])), .c (cI n)] [] (y32 (S (aR n))) [] := by
 refine aFN 44 Tryz.func82 (by kernel_rfl) fun fr hG => ?_
 refine zC hG [(1, 1, kC (y0 ((civ n).1) ((civ n).2.1) ((civ n).2.2))), (2, 4, kB true)] [1, 0, 1, 1] (false) (⟨[zS 0 (S [89, 89, 89, 89, 45, 77, 77, 45, 68, 68]), zS 4 (S []), zB 5 false, zI 6 ((civ n).1), zI 7 ((civ n).2.1), zI 8 ((civ n).2.2)], []⟩) (aC (aNP n h0 h1 : SpG g _ _ _ _ _) (aB (fun (hg1 : false = false) => (pY : SpG g _ _ _ _ _)))) (fun hc1 => absurd hc1 (by decide)) (fun _ => ?_)
 refine s7 hG cW [(6, 1, .call (.c (.fn 172 [] [(100, 0)])) [(100, y31)] [])] [0, 1, 0, 1, 1, 1, 1, 1] (⟨[zS 4 (S []), zB 5 false, zX 10 504 0, zX 11 602 0, (35, [], .c (.fn 172 [] [(701, 0)]))], [(504, .box 153 [cI ((civ n).1), cI ((civ n).2.1), cI ((civ n).2.2), .d (.v (.pointer none)), cN]), (602, .box 154 [.fn 124 [(504, 0)] []]), (701, y31)]⟩) _ (by kernel_rfl) (aB (qC (S [89, 89, 89, 89, 45, 77, 77, 45, 68, 68]) : SpG g _ _ _ _ _)) ?_
 refine aEU (g := 35) (ps := rgP (aM Tryz.f82) [0, 1, 0, 1, 1, 1, 1, 1]) (assign := rgA (aM Tryz.f82) [0, 1, 0, 1, 1, 1, 1, 1]) (body := rgB (aM Tryz.f82) [0, 1, 0, 1, 1, 1, 1, 1]) hG (by kernel_rfl) 9900 9901 9910 (by kernel_rfl) rfl (by kernel_rfl) fun b D l fn tm hT hn => ?_
 refine ⟨.tup [], [701, 9901, 504, 602], [(0, .box ⟨.c 9, some (b 701)⟩ [cS (S [])]), (1, zK Tryz.f82 [0, 1, 0, 1, 1, 1, 1, 1] fn tm D l), (2, .box ⟨.c 153, some (b 504)⟩ [cI ((civ n).1), cI ((civ n).2.1), cI ((civ n).2.2), .bx 2 3, .ar 100 0]), (3, .box ⟨.c 154, some (b 602)⟩ [.fn 124 [(2, 0)] []]), (100, y20 (dE (civ n).1 (civ n).2.1 (civ n).2.2 5))], none, ⟨[zS 4 (S []), zB 5 false, zX 10 504 0], [(504, .box ⟨.c 153, some (b 504)⟩ [cI ((civ n).1), cI ((civ n).2.1), cI ((civ n).2.2), .bx 504 3, .ar 9910 0]), (9900, .box ⟨.raw (.deferred (some [])), some D⟩ []), (9910, y20 (dE (civ n).1 (civ n).2.1 (civ n).2.2 5))]⟩, _, .normal, by kernel_rfl, aB (aI9 (b 701) (b 504) (b 602) D l (civ n).1 (civ n).2.1 (civ n).2.2 (civ_ymd h0 h1) fn tm (hT.bx 11 602 0 rfl) hn : SpG g _ _ _ _ _), rfl, ?_⟩
 have hG0 := hG
 replace hG := j5 (D := D) hG
 refine n1 hG0 cW [(9, 3, .callG (.c (cS (S (aR n)))) [504, 9910] [(0, .box ⟨.c 153, some (b 504)⟩ [cI ((civ n).1), cI ((civ n).2.1), cI ((civ n).2.2), .bx 0 3, .any]), (1, y20 ([] : List (List V.D)))])] [] 9900 (y32 (S (aR n))) [] (by kernel_rfl) (aB (vH (b 504) (civ n).1 (civ n).2.1 (civ n).2.2 (dE (civ n).1 (civ n).2.1 (civ n).2.2 5) (S (aR n)) (by rw [dE_text, dT_date h0 h1]) : SpG g _ _ _ _ _)) ?_ ?_
 rfl
 rfl
theorem rZ (n : Int) (h0 : 0 ≤ n) (h1 : n ≤ 3652058) :
  SpG g 47 [.c (cI n)] [] (.c (cS (S (aR n)))) [] := by
 refine aG 11 Tryz.func47 (by kernel_rfl) fun fr hG => ?_
 exact zr hG [(1, 1, kC (y32 (S (aR n))))] [] (aB (xD n h0 h1 : SpG g _ _ _ _ _))
end Go.Proofs.YtmpgfchkkemngaaGreatDoor
namespace Go.Proofs.YtmpgfchkkemngaaGreatDoor
open Go.RowKit Go.V
open Go.Eng (inR byteAt u8 bH)
variable {g : Gv}
theorem iV {a : Nat} (h : a < 10) : bD a = [u8 (48 + (a : Int))] := by
 unfold bD
 by_cases h0 : a = 0
 subst h0; rfl
 rw [if_neg h0, f7 h0, show a / 10 = 0 by omega, fC, show a % 10 = a by omega]; rfl
theorem qS {a : Nat} (h : 10 ≤ a) : bD a = bD (a / 10) ++ [u8 (48 + ((a % 10 : Nat) : Int))] := by
 unfold bD
 rw [if_neg (by omega), if_neg (by omega), f7 (by omega)]
def mA : Nat → Nat → List UInt8
 | 0, _ => []
 | s + 1, a => mA s (a / 10) ++ [u8 (48 + ((a % 10 : Nat) : Int))]
theorem gZ : ∀ s a, (mA s a).length = s
 | 0, _ => rfl
 | s + 1, a => by simp [mA, gZ s]
theorem tZ : ∀ s a, bD (10 ^ s + a % 10 ^ s) = 49 :: mA s a
 | 0, a => by rw [Nat.pow_zero, Nat.mod_one, iV (by decide)]; rfl
 | s + 1, a => by
  have hp : 10 ^ (s + 1) = 10 * 10 ^ s := by rw [Nat.pow_succ, Nat.mul_comm]
  have h1 : 1 ≤ 10 ^ s := Nat.one_le_pow _ _ (by decide)
  rw [qS (by omega)]
  have e1 : (10 ^ (s + 1) + a % 10 ^ (s + 1)) / 10 = 10 ^ s + (a / 10) % 10 ^ s := by
   rw [hp, Nat.mod_mul, Nat.add_comm (a % 10), ← Nat.add_assoc, ← Nat.mul_add, Nat.add_comm, Nat.add_mul_div_left _ _ (by decide)]
   omega
  have e2 : (10 ^ (s + 1) + a % 10 ^ (s + 1)) % 10 = a % 10 := by
   rw [hp, Nat.mul_add_mod, Nat.mod_mul_right_mod]
  rw [e1, e2, tZ s (a / 10)]
  rfl
def eK (a s : Nat) : List UInt8 := List.replicate (s + 1 - (bD a).length) 48 ++ bD a
theorem iC : ∀ s a, eK a s = bD (a / 10 ^ s) ++ mA s a
 | 0, a => by
  have := l8 a
  rw [eK, show 0 + 1 - (bD a).length = 0 by omega]
  simp [mA]
 | s + 1, a => by
  have ih := iC s (a / 10)
  rw [Nat.pow_succ, Nat.mul_comm (10 ^ s), ← Nat.div_div_eq_div_mul, mA, ← List.append_assoc, ← ih, eK, eK]
  by_cases h : a < 10
  rw [show a / 10 = 0 by omega, iV h, iV (a := 0) (by decide), show a % 10 = a by omega]
  simp only [List.length_cons, List.length_nil, Nat.add_sub_cancel]
  rw [List.replicate_succ']
  rfl
  rw [qS (a := a) (by omega)]
  simp only [dB]
  rw [show s + 1 + 1 - ((bD (a / 10)).length + (0 + 1)) = s + 1 - (bD (a / 10)).length by omega]
  simp
theorem aIL (a s : Nat) : (eK a s).take ((eK a s).length - s) = bD (a / 10 ^ s) := by
 rw [iC, List.length_append, gZ, Nat.add_sub_cancel, List.take_left']
 rfl
theorem aIM (a s : Nat) : (eK a s).drop ((eK a s).length - s) = (bD (10 ^ s + a % 10 ^ s)).drop 1 := by
 rw [iC, List.length_append, gZ, Nat.add_sub_cancel, List.drop_left', tZ]
 rfl
 rfl
theorem aLG (a s : Nat) : s + 1 ≤ (eK a s).length ∧ (eK a s).length ≤ s + 1 + (bD a).length := by
 simp only [eK, List.length_append, List.length_replicate]; omega
theorem pU (n s : Int) : bU n s = (if n < 0 then [45] else []) ++ (if s > 0 then (eK n.natAbs s.toNat).take ((eK n.natAbs s.toNat).length - s.toNat) ++ [46] ++ (eK n.natAbs s.toNat).drop ((eK n.natAbs s.toNat).length - s.toNat) else eK n.natAbs s.toNat) := by
 unfold bU
 rw [aIL, aIM]
 by_cases h : s > 0
 rw [if_pos h, if_pos h]; simp
 rw [if_neg h, if_neg h, show s.toNat = 0 by omega, iC]; simp [mA]
theorem aD1 (l : List UInt8) (i j : Nat) : (S l).extract i j = S ((l.take j).drop i) := by
 have : ((S l).extract i j).data = (S ((l.take j).drop i)).data := by simp [S, ByteArray.data_extract, List.drop_take]
 cases h1 : (S l).extract i j; cases h2 : S ((l.take j).drop i); rw [h1, h2] at this; simpa using this
theorem vZ (u : Nat) (h : u < 18446744073709551616) : SpG g 80 [.c (.d (.v (.int .u64 (u : Int)))), .c (cI 10)] [] (.c (cS (S (bD u)))) [] := by
 refine gP (args := [.int .u64 u, .int .i64 10]) rfl rfl rfl fun w hG => ?_
 refine (uN u h w (aKB hG)).mono ?_
 rintro e w' ⟨rfl, k, os, rfl⟩
 exact ⟨by rw [t6]; rfl, below_grow _ _ _⟩
theorem aHG {n s : Int} {t : ByteArray} (hP : t = S (eK n.natAbs s.toNat)) (hs : s > 0) : ((t.extract 0 ((t.size : Int) - s : Int).toNat ++ S [46]) ++ t.extract ((t.size : Int) - s : Int).toNat t.size) = S ((eK n.natAbs s.toNat).take ((eK n.natAbs s.toNat).length - s.toNat) ++ [46] ++ (eK n.natAbs s.toNat).drop ((eK n.natAbs s.toNat).length - s.toNat)) := by
 subst hP
 have e : (((S (eK n.natAbs s.toNat)).size : Int) - s : Int).toNat = (eK n.natAbs s.toNat).length - s.toNat := by rw [aF]; omega
 rw [e, aF, aD1, aD1, bI, bI, List.drop_zero, List.take_of_length_le (Nat.le_refl _)]
theorem aJI {n s : Int} {t : ByteArray} (hP : t = S (eK n.natAbs s.toNat)) (hs : s > 0) (hn : n < 0) : S [45] ++ ((t.extract 0 ((t.size : Int) - s : Int).toNat ++ S [46]) ++ t.extract ((t.size : Int) - s : Int).toNat t.size) = S (bU n s) := by
 rw [aHG hP hs, bI, pU, if_pos hn, if_pos hs]
theorem aJH {n s : Int} {t : ByteArray} (hP : t = S (eK n.natAbs s.toNat)) (hs : s > 0) (hn : ¬ n < 0) : ((t.extract 0 ((t.size : Int) - s : Int).toNat ++ S [46]) ++ t.extract ((t.size : Int) - s : Int).toNat t.size) = S (bU n s) := by
 rw [aHG hP hs, pU, if_neg hn, if_pos hs]; rfl
theorem aJG {n s : Int} {t : ByteArray} (hP : t = S (eK n.natAbs s.toNat)) (hs : ¬ s > 0) (hn : n < 0) : S [45] ++ t = S (bU n s) := by
 rw [hP, bI, pU, if_pos hn, if_neg hs]
theorem aJF {n s : Int} {t : ByteArray} (hP : t = S (eK n.natAbs s.toNat)) (hs : ¬ s > 0) (hn : ¬ n < 0) : t = S (bU n s) := by
 rw [hP, pU, if_neg hn, if_neg hs]; rfl
theorem aDB (n s : Int) (h : cZ n s = true) :
  SpG g 79 [.agg [cI n, cI s]] [] (.agg [cI n, cI s]) [] := by
 refine aG 7 Tryz.func79 (by kernel_rfl) fun fr hG => ?_
 refine zC hG [(1, 1, kB (cZ n s))] [1, 0, 1] (cZ n s) (⟨[zX 1 100 0, zX 2 101 0], [(100, .box 26 [cI n, cI s]), (101, .box 26 [cI 0, cI 0])]⟩) (aB (rX n s : SpG g _ _ _ _ _)) (fun hc1 => ?_) (fun hc1 => ?_)
 (try simp only [blS] at hc1)
 exact zr hG [] [] aA
 (try simp only [blS] at hc1)
 exact absurd (h.symm.trans hc1) (by decide)
theorem aKJ {n : Int} (h0 : -1000000000000000 ≤ n) (h1 : n < 0) : IntKind.wrap .u64 (IntKind.wrap .i64 (0 - n)) = (n.natAbs : Int) := by
 rw [IntKind.wrap_i64, IntKind.wrap_u64]; omega
theorem aKI {n : Int} (h0 : n ≤ 1000000000000000) (h1 : ¬ n < 0) : IntKind.wrap .u64 n = (n.natAbs : Int) := by
 rw [IntKind.wrap_u64]; omega
theorem aFR (n : Int) (h0 : -1000000000000000 ≤ n) (h1 : n ≤ 1000000000000000) :
  SpG g 81 [.c (cI n)] [] (.c (.d (.v (.int .u64 (n.natAbs : Int))))) [] := by
 refine aG 10 Tryz.func81 (by kernel_rfl) fun fr hG => ?_
 refine zP hG [] [1, 0, 1] ((n : Int) < 0) (⟨[zI 0 n, (2, [], .c (.d (.v (.int .u64 0))))], []⟩) aA (fun hc1 => ?_) (fun hc1 => ?_)
 skip
 refine zR hG [] [] (.c (.d (.v (.int .u64 (IntKind.wrap .u64 (IntKind.wrap .i64 (0 - n))))))) [] aA ?_ ?_
 rw [aKJ h0 (by omega)]
 rfl
 skip
 refine zR hG [] [] (.c (.d (.v (.int .u64 (IntKind.wrap .u64 n))))) [] aA ?_ ?_
 rw [aKI h1 (by omega)]
 rfl
theorem lD (n s : Int) (h : cZ n s = true) :
  SpG g 46 [.agg [cI n, cI s]] [] (.c (cS (S (bU n s)))) [] := by
 obtain ⟨b0, b1, b2, b3, b4⟩ := fG h
 have hl16 := gY (n := n.natAbs) (k := 16) (by omega) (by decide)
 have hl1 := l8 n.natAbs
 have hpl := aLG n.natAbs s.toNat
 refine aG 44 Tryz.func46 (by kernel_rfl) fun fr hG => ?_
 refine zL hG [(1, 1, kC (.agg [cI n, cI s])), (2, 2, kC (.c (.d (.v (.int .u64 (n.natAbs : Int)))))), (2, 3, kS (S (bD n.natAbs)))] [0, 1, 0, 1, 1, 1] (fun (zz : Nat × ByteArray) => match zz with | (k, t) => (s.toNat + 1 - k, ⟨[zX 1 100 0, zS 2 (S []), zS 3 t, zI 16 ((s + 1) - ((S (bD n.natAbs)).size : Int)), zI 17 (k : Int)], [(100, .box 26 [cI n, cI s])]⟩, k ≤ s.toNat + 1 - (bD n.natAbs).length ∧ t = S (List.replicate k 48 ++ bD n.natAbs))) (0, S (bD n.natAbs)) (aC (aDB n s h : SpG g _ _ _ _ _) (aC (aFR n (by omega) (by omega) : SpG g _ _ _ _ _) (aC (vZ n.natAbs (by omega) : SpG g _ _ _ _ _) (aC (by intros; (try simp only [lL, ByteArray.size_append, ByteArray.size_extract] at *); omega : inR (s + 1)) (aB (by intros; (try simp only [lL, ByteArray.size_append, ByteArray.size_extract] at *); omega : inR ((s + 1) - ((S (bD n.natAbs)).size : Int)))))))) ?_ ?_
 exact ⟨Nat.zero_le _, rfl⟩
 rintro ⟨k, t⟩ ⟨hk, ht⟩
 have hlt : t.size = k + (bD n.natAbs).length := by rw [ht, aF]; simp
 refine zc hG [] [0, 1] (decide (((k : Int) : Int) < ((s + 1) - ((S (bD n.natAbs)).size : Int)))) aA (fun hc2 => ?_) (fun hc2 => ?_)
 (try simp only [eS] at hc2)
 refine zD hG [] (k + 1, S [48] ++ t) (aC (by intros; (try simp only [lL, ByteArray.size_append, ByteArray.size_extract] at *); omega : (S [48]).size + (t).size ≤ maxLen) (aB (by intros; (try simp only [lL, ByteArray.size_append, ByteArray.size_extract] at *); omega : inR ((k : Int) + 1)))) ?_ ?_
 (try dsimp only); omega
 refine ⟨by omega, ?_⟩
 rw [ht, bI, List.replicate_succ]; rfl
 (try simp only [eS] at hc2)
 have hP : t = S (eK n.natAbs s.toNat) := by
  rw [ht, eK, show s.toNat + 1 - (bD n.natAbs).length = k by omega]
 have hps : t.size = (eK n.natAbs s.toNat).length := by rw [hP, aF]
 clear hlt ht
 refine zE hG [] (.exit 0) (⟨[zX 1 100 0, zS 2 (S []), zS 3 t], [(100, .box 26 [cI n, cI s])]⟩) aA rfl ?_
 refine zc hG [] [1, 0, 1, 1, 1, 1] (decide ((s : Int) > 0)) aA (fun hc3 => ?_) (fun hc3 => ?_)
 (try simp only [eS] at hc3)
 refine zC hG [] [1, 0, 1, 1, 1, 1, 1] (decide ((n : Int) < 0)) (⟨[zS 2 (S []), zS 3 ((((t).extract 0 (((t).size : Int) - s : Int).toNat) ++ (S [46])) ++ ((t).extract (((t).size : Int) - s : Int).toNat (t).size))], []⟩) (aC (by intros; (try simp only [lL, ByteArray.size_append, ByteArray.size_extract] at *); omega : inR (((t).size : Int) - s)) (aC (by intros; (try simp only [lL, ByteArray.size_append, ByteArray.size_extract] at *); omega : (0 : Int) ≤ 0 ∧ (0 : Int) ≤ (((t).size : Int) - s) ∧ (((t).size : Int) - s) ≤ ((t).size : Int)) (aC (by intros; (try simp only [lL, ByteArray.size_append, ByteArray.size_extract] at *); omega : ((t).extract 0 (((t).size : Int) - s : Int).toNat).size + (S [46]).size ≤ maxLen) (aC (by intros; (try simp only [lL, ByteArray.size_append, ByteArray.size_extract] at *); omega : (0 : Int) ≤ (((t).size : Int) - s) ∧ (((t).size : Int) - s : Int) ≤ ((t).size : Int) ∧ ((t).size : Int) ≤ ((t).size : Int)) (aB (by intros; (try simp only [lL, ByteArray.size_append, ByteArray.size_extract] at *); omega : (((t).extract 0 (((t).size : Int) - s : Int).toNat) ++ (S [46])).size + ((t).extract (((t).size : Int) - s : Int).toNat (t).size).size ≤ maxLen)))))) (fun hc4 => ?_) (fun hc4 => ?_)
 (try simp only [eS] at hc4)
 refine zR hG [] [] (.c (cS ((S [45]) ++ ((((t).extract 0 (((t).size : Int) - s : Int).toNat) ++ (S [46])) ++ ((t).extract (((t).size : Int) - s : Int).toNat (t).size))))) [] (aB (by intros; (try simp only [lL, ByteArray.size_append, ByteArray.size_extract] at *); omega : (S [45]).size + ((((t).extract 0 (((t).size : Int) - s : Int).toNat) ++ (S [46])) ++ ((t).extract (((t).size : Int) - s : Int).toNat (t).size)).size ≤ maxLen)) ?_ ?_
 rw [aJI hP (by omega) (by omega)]
 rfl
 (try simp only [eS] at hc4)
 refine zR hG [] [] (.c (cS ((((t).extract 0 (((t).size : Int) - s : Int).toNat) ++ (S [46])) ++ ((t).extract (((t).size : Int) - s : Int).toNat (t).size)))) [] aA ?_ ?_
 rw [aJH hP (by omega) (by omega)]
 rfl
 (try simp only [eS] at hc3)
 refine zC hG [] [1, 0, 1, 1, 1, 1, 1] (decide ((n : Int) < 0)) (⟨[zS 2 (S []), zS 3 t], []⟩) aA (fun hc5 => ?_) (fun hc5 => ?_)
 (try simp only [eS] at hc5)
 refine zR hG [] [] (.c (cS ((S [45]) ++ t))) [] (aB (by intros; (try simp only [lL, ByteArray.size_append, ByteArray.size_extract] at *); omega : (S [45]).size + (t).size ≤ maxLen)) ?_ ?_
 rw [aJG hP (by omega) (by omega)]
 rfl
 (try simp only [eS] at hc5)
 refine zR hG [] [] (.c (cS t)) [] aA ?_ ?_
 rw [aJF hP (by omega) (by omega)]
 rfl
end Go.Proofs.YtmpgfchkkemngaaGreatDoor
namespace Go.Proofs.YtmpgfchkkemngaaGreatDoor
open Go.RowKit Go.V
open Go.Eng (inR byteAt u8 bH)
theorem uJ {l : List UInt8} (h : l.all f6 = true) (hl : l.length ≤ 200) : eQ l = true := by
 have e : bs (S l) = l := by simp [bs, S]
 simp only [sP, eQ, iE, Bool.and_eq_true, e]
 exact ⟨h, by omega⟩
theorem aIN (l : List Int) (k : Int) : f6 (u8 (32 + nxV l k 95)) = true := by
 have := dC l k (n := 95) (by decide)
 simp only [f6, u8, Bool.and_eq_true, decide_eq_true_eq, UInt8.toNat_ofNat']
 omega
theorem aNS (l : List Int) : ∀ (n : Nat) (k : Int), (chM l n k).1.all f6 = true
 | 0, k => rfl
 | n + 1, k => by simp only [chM, List.all_cons, aIN, aNS l n, Bool.and_true]
theorem aHT : ∀ i, i < 15 → (wordsL.getD i []).all f6 = true ∧ (wordsL.getD i []).length ≤ 200 := by decide
theorem aA5 (l : List Int) (k : Int) : eQ (txM l k).1 = true := by
 unfold txM; split
 have := dC l k (n := 18) (by decide)
 have h := aHT (nxV l k 18).toNat (by omega)
 exact uJ h.1 h.2
 exact uJ (aNS l _ _) (by rw [aNR]; have := txN_bd l k; omega)
theorem gL (neg : Bool) (m : Nat) (s : Int) : cZ (d9 neg m s) (d8 m s) = true := by
 unfold d9 d8
 cases hb : eF m s with
 | false => simp [cZ]
 | true =>
  have h := hb
  simp only [eF, decide_eq_true_eq] at h
  have ho := aC4 s.toNat m
  generalize (fX m s.toNat).1 = a at *
  generalize (fX m s.toNat).2 = b at *
  have ht : ((a : Int).tmod 10 = ((a % 10 : Nat) : Int)) := by rw [Int.tmod_eq_emod_of_nonneg (by omega)]; omega
  have hn : ((-(a : Int)).tmod 10 = -((a % 10 : Nat) : Int)) := by rw [Int.neg_tmod, ht]
  cases neg
  simp only [if_true, if_false, Bool.false_eq_true, cZ, ht, Bool.and_eq_true, Bool.or_eq_true, decide_eq_true_eq]; omega
  simp only [if_true, cZ, hn, Bool.and_eq_true, Bool.or_eq_true, decide_eq_true_eq]; omega
theorem aNJ (l : List Int) (k : Int) : cZ (dcM l k).1 (dcM l k).2.1 = true := gL _ _ _
structure Cl.good (c : Cl) : Prop where
 kind : ¬ c.kind = 5
 right : aV false c.toV = true
 len : c.s.length ≤ 200
theorem Cl.z_good : Cl.z.good := ⟨by decide, by decide, by decide⟩
theorem aKS (n : Int) (h0 : 0 ≤ n) (h1 : n ≤ 3652058) : aV false ⟨3, [], 0, 0, n, [], []⟩ = true := by simp [aV, bZ, h0, h1]
theorem right4 (n : Int) (h0 : 0 ≤ n) (h1 : n < 2) : aV false ⟨4, [], 0, 0, n, [], []⟩ = true := by
 have : n = 0 ∨ n = 1 := by omega
 rcases this with rfl | rfl <;> decide
theorem right0 (n : Int) (h0 : 0 ≤ n) (h1 : n ≤ 99) : aV false ⟨0, [], 0, 0, n, [], []⟩ = true := by simp [aV, bZ, h0, h1]
theorem aHI (l : List Int) (k kind : Int) : (cvM l k kind).1.good := by
 unfold cvM
 split
 exact ⟨by simp, by simp [aV, Cl.toV, bZ, aA5], mD (aA5 l k)⟩
 split
 exact ⟨by simp, by simp [aV, Cl.toV, bZ, aNJ], by simp⟩
 split
 have h1 := dC l k (n := 1000) (by decide)
 have h2 := dC l (nxK l (nxK l k 1000) 8) (n := 3652059) (by decide)
 split
 exact ⟨by simp, aKS _ (by dsimp only; omega) (by dsimp only; omega), by simp⟩
 exact ⟨by simp, aKS _ (by dsimp only; omega) (by dsimp only; omega), by simp⟩
 split
 have h1 := dC l k (n := 2) (by decide)
 exact ⟨by simp, right4 _ (by dsimp only; omega) (by dsimp only; omega), by simp⟩
 have h1 := dC l k (n := 100) (by decide)
 exact ⟨by simp, right0 _ (by dsimp only; omega) (by dsimp only; omega), by simp⟩
theorem ce_good (l : List Int) (kind k : Int) : (ceM l kind k).1.good := by
 unfold ceM; split
 exact Cl.z_good
 exact aHI _ _ _
theorem aL9 (l : List Int) : ∀ (n : Nat) (k : Int), (kdM l n k).1.length = n
 | 0, k => rfl
 | n + 1, k => by simp [kdM, aL9 l n]
theorem aKL (l : List Int) : ∀ (r : List Int) (k : Int), (rwM l r k).1.length = r.length
 | [], k => rfl
 | x :: r, k => by simp [rwM, aKL l r]
theorem aGI (l : List Int) : ∀ (r : List Int) (k : Int), ∀ c, c ∈ (rwM l r k).1 → c.good
 | [], k, c, h => by cases h
 | x :: r, k, c, h => by
  simp only [rwM, List.mem_cons] at h
  rcases h with rfl | h
  exact ce_good _ _ _
  exact aGI l r _ c h
theorem aKO (l kds : List Int) : ∀ (n : Nat) (k : Int), (rsM l kds n k).1.length = n
 | 0, k => rfl
 | n + 1, k => by simp [rsM, aKO l kds n]
theorem aGJ (l kds : List Int) : ∀ (n : Nat) (k : Int), ∀ r, r ∈ (rsM l kds n k).1 → r.length = kds.length ∧ ∀ c, c ∈ r → c.good
 | 0, k, r, h => by cases h
 | n + 1, k, r, h => by
  simp only [rsM, List.mem_cons] at h
  rcases h with rfl | h
  exact ⟨aKL l kds k, aGI l kds k⟩
  exact aGJ l kds n _ r h
theorem aIU : ∀ n, n < 4 → mO (abcL.take n).length (nameAt (abcL.take n)) = true := by decide
theorem aBA {cols : List (List UInt8)} {rows : List (List Cl)} (h1 : cols.length ≤ 8) (h2 : rows.length ≤ 100) (hn : mO cols.length (nameAt cols) = true) (hr : ∀ r, r ∈ rows → r.length = cols.length ∧ ∀ c, c ∈ r → ¬ c.kind = 5 ∧ aV false c.toV = true) : cK cols rows = true := by
 refine qE ⟨by omega, by omega⟩ (fun j hj => gE hn hj) fun j hj => ?_
 obtain ⟨a, b⟩ := hr _ (bO (z := []) hj)
 simp only [rowAt, a, decide_true, Bool.true_and]
 refine gO fun i hi => ?_
 have := b _ (bO (z := Cl.z) (a ▸ hi))
 simp only [cellAt, this.1, this.2, decide_false, Bool.not_false, Bool.and_true]
theorem tb_good (l : List Int) (k : Int) : aU (tbM l k).1 = true ∧ ∀ r, r ∈ (tbM l k).1.rows → ∀ c, c ∈ r → c.good := by
 have h1 := dC l k (n := 4) (by decide)
 have h2 := dC l (tbK l k).2 (n := 5) (by decide)
 have hl : (tbR l k).1.length = (nxV l (tbK l k).2 5).toNat := aKO _ _ _ _
 have hg : ∀ r, r ∈ (tbR l k).1 → r.length = (abcL.take (nxV l k 4).toNat).length ∧ ∀ c, c ∈ r → c.good := fun r hr => by
  obtain ⟨a, b⟩ := aGJ _ _ _ _ r hr
  refine ⟨?_, b⟩
  rw [a, tbK, aL9, List.length_take]
  have : abcL.length = 3 := rfl
  omega
 refine ⟨?_, fun r hr c hc => (hg r hr).2 c hc⟩
 have ht : cK (abcL.take (nxV l k 4).toNat) (tbR l k).1 = true := by
  refine aBA ?_ ?_ (aIU _ (by omega)) fun r hr => ⟨(hg r hr).1, fun c hc => ⟨((hg r hr).2 c hc).kind, ((hg r hr).2 c hc).right⟩⟩
  rw [List.length_take]; have : abcL.length = 3 := rfl; omega
  rw [hl]; omega
 simp [aU, aV, tbM, ht, bZ]
theorem aF3 (l : List Int) (k kind : Int) : aU (vlM l k kind).1 = true ∧ (vlM l k kind).1.fit := by
 unfold vlM; split
 obtain ⟨a, b⟩ := tb_good l k
 refine ⟨a, ⟨?_, ?_, ?_⟩⟩
 simp [tbM]
 intro t ht
 have : ∀ t, t ∈ abcL → t.length ≤ 1 := by decide
 have := this t (List.mem_of_mem_take ht)
 unfold maxLen; omega
 intro r hr c hc
 have := (b r hr c hc).len
 unfold maxLen; omega
 have h := aHI l k kind
 refine ⟨?_, ?_, ?_, ?_⟩
 have : (cvM l k kind).1.toV.kind = (cvM l k kind).1.kind := rfl
 have e : aU (cvM l k kind).1.toV = aV false (cvM l k kind).1.toV := by
  simp only [aU, aV, this, if_neg h.kind]
 rw [e]; exact h.right
 have : (cvM l k kind).1.toV.s = (cvM l k kind).1.s := rfl
 rw [this]; have := h.len; unfold maxLen; omega
 intro t ht; cases ht
 intro t ht; cases ht
theorem uC (l : List Int) : aU (aL l) = true := (aF3 _ _ _).1
theorem aCN (l : List Int) : (aL l).fit := (aF3 _ _ _).2
end Go.Proofs.YtmpgfchkkemngaaGreatDoor
namespace Go.Proofs.YtmpgfchkkemngaaGreatDoor
open Go.RowKit Go.V
open Go.Eng (inR byteAt u8 bH)
def cQ (l : List UInt8) : Nat := l.foldl (fun a c => 10 * a + (c.toNat - 48)) 0
def bA (c : UInt8) : Bool := decide (48 ≤ c.toNat) && decide (c.toNat ≤ 57)
theorem j9 (l : List UInt8) (c : UInt8) : cQ (l ++ [c]) = 10 * cQ l + (c.toNat - 48) := by simp [cQ]
theorem aJ8 {k : Nat} (h : k < 10) : (u8 (48 + (k : Int))).toNat = 48 + k := by
 have : ((48 + (k : Int)) % 256).toNat = 48 + k := by omega
 rw [u8, this, UInt8.toNat_ofNat']; omega
theorem t7 : ∀ n : Nat, cQ (j3 n) = n ∧ (j3 n).all bA = true := by
 intro n
 induction n using Nat.strongRecOn with
 | ind n ih =>
  by_cases h : n = 0
  subst h; rw [fC]; exact ⟨rfl, rfl⟩
  obtain ⟨h1, h2⟩ := ih (n / 10) (by omega)
  have hd := aJ8 (k := n % 10) (by omega)
  rw [f7 h, j9, h1, hd]
  refine ⟨by omega, ?_⟩
  rw [List.all_append, h2]
  simp only [List.all_cons, List.all_nil, bA, hd, Bool.and_true, Bool.true_and, Bool.and_eq_true, decide_eq_true_eq]; omega
theorem dQ (n : Nat) : cQ (bD n) = n ∧ (bD n).all bA = true := by
 unfold bD
 split
 rename_i h; subst h; exact ⟨rfl, rfl⟩
 exact t7 n
theorem natT_ne (n : Nat) : bD n ≠ [] := fun h => by have := l8 n; rw [h] at this; simp at this
theorem oJ (l : List UInt8) : ∀ k : Nat, cQ (List.replicate k 48 ++ l) = cQ l
 | 0 => rfl
 | k + 1 => by
  have ih := oJ l k
  rw [List.replicate_succ, List.cons_append]
  unfold cQ at ih ⊢
  rw [List.foldl_cons]
  exact ih
theorem v8 (k : Nat) : (List.replicate k (48 : UInt8)).all bA = true := by
 rw [List.all_eq_true]; intro x hx; rw [(List.mem_replicate.1 hx).2]; rfl
theorem jZ (a s : Nat) : cQ (eK a s) = a ∧ (eK a s).all bA = true := by
 unfold eK
 rw [oJ, List.all_append, (dQ a).2, v8]
 exact ⟨(dQ a).1, rfl⟩
theorem dF {x k : Int} (h0 : 0 ≤ x) (h1 : x ≤ 99999) (hk : k ≤ 5) : cQ (cY 5 x k []) = x.toNat ∧ (cY 5 x k []).all bA = true := by
 rw [pT 5 x k [] h0 (by omega) (by omega), List.append_nil, oJ, List.all_append, v8, (t7 _).2]
 exact ⟨(t7 _).1, rfl⟩
theorem fF {x k : Int} (h0 : 0 ≤ x) (h : (k = 2 ∧ x < 100) ∨ (k = 4 ∧ x < 10000)) : (cY 5 x k []).length = k.toNat := by
 rw [pT 5 x k [] h0 (by omega) (by omega), List.append_nil, List.length_append, List.length_replicate]
 have : (j3 x.toNat).length ≤ k.toNat := by
  rcases h with ⟨rfl, h⟩ | ⟨rfl, h⟩
  exact pI (k := 2) (by omega)
  exact pI (k := 4) (by omega)
 omega
theorem jO {α : Type} {p : α → Bool} {l r : List α} (h : l.all p = true) (hr : r = [] ∨ ∃ x t, r = x :: t ∧ p x = false) : (l ++ r).takeWhile p = l ∧ (l ++ r).dropWhile p = r := by
 induction l with
 | nil =>
  rcases hr with rfl | ⟨x, t, rfl, hx⟩
  simp
  simp [List.takeWhile_cons, List.dropWhile_cons, hx]
 | cons y l ih =>
  simp only [List.all_cons, Bool.and_eq_true] at h
  obtain ⟨h1, h2⟩ := ih h.2
  simp [List.takeWhile_cons, List.dropWhile_cons, h.1, h1, h2]
def mP (a s : Nat) : List UInt8 := bD (a / 10 ^ s) ++ (if s = 0 then [] else 46 :: mA s a)
theorem aCO (a s : Nat) : (mA s a).all bA = true := by
 have h := (jZ a s).2
 rw [iC, List.all_append, Bool.and_eq_true] at h
 exact h.2
theorem vO (a s : Nat) : (mP a s).takeWhile bA = bD (a / 10 ^ s) ∧ ((mP a s).dropWhile bA).drop 1 = mA s a := by
 unfold mP
 by_cases h : s = 0
 rw [if_pos h]
 obtain ⟨h1, h2⟩ := jO (dQ (a / 10 ^ s)).2 (.inl rfl)
 rw [h1, h2]; subst h; exact ⟨rfl, rfl⟩
 rw [if_neg h]
 obtain ⟨h1, h2⟩ := jO (r := 46 :: mA s a) (dQ (a / 10 ^ s)).2 (.inr ⟨46, _, rfl, rfl⟩)
 rw [h1, h2]; exact ⟨rfl, rfl⟩
theorem kD {n s : Int} (h : 0 ≤ s) : bU n s = (if n < 0 then [45] else []) ++ mP n.natAbs s.toNat := by
 unfold bU mP
 by_cases h0 : s > 0
 rw [if_pos h0, if_neg (show ¬ s.toNat = 0 by omega), tZ]; simp
 rw [if_neg h0, if_pos (show s.toNat = 0 by omega)]; simp
theorem yA (a s : Nat) : ∃ c t, mP a s = c :: t ∧ bA c = true := by
 unfold mP
 cases h : bD (a / 10 ^ s) with
 | nil => exact absurd h (natT_ne _)
 | cons c t =>
  have := (dQ (a / 10 ^ s)).2
  rw [h, List.all_cons, Bool.and_eq_true] at this
  exact ⟨c, _, rfl, this.1⟩
def aJY (l : List UInt8) : Nat × Nat := (cQ (l.takeWhile bA ++ (l.dropWhile bA).drop 1), ((l.dropWhile bA).drop 1).length)
theorem aHS (a s : Nat) : aJY (mP a s) = (a, s) := by
 unfold aJY
 rw [(vO a s).1, (vO a s).2, ← iC, (jZ a s).1, gZ]
def mK (l : List UInt8) : Int × Int := match l with
 | [] => (0, 0)
 | c :: t => if c = 45 then (-((aJY t).1 : Int), ((aJY t).2 : Int)) else (((aJY (c :: t)).1 : Int), ((aJY (c :: t)).2 : Int))
theorem aDD {n s : Int} (h : 0 ≤ s) : mK (bU n s) = (n, s) := by
 rw [kD h]
 by_cases hn : n < 0
 rw [if_pos hn]
 simp only [List.singleton_append, mK, if_true, aHS]
 ext <;> simp <;> omega
 rw [if_neg hn, List.nil_append]
 obtain ⟨c, t, hc, hd⟩ := yA n.natAbs s.toNat
 have hc45 : ¬ c = 45 := by rintro rfl; simp [bA] at hd
 rw [hc]
 simp only [mK, if_neg hc45]
 rw [← hc, aHS]
 ext <;> simp <;> omega
def oO (l : List UInt8) : Int := eO (cQ (l.take 4)) (cQ ((l.drop 5).take 2)) (cQ (l.drop 8))
theorem xU {n : Int} (h0 : 0 ≤ n) (h1 : n ≤ 3652058) : oO (aR n) = n := by
 obtain ⟨a, b, c, d, e, f⟩ := oQ h0 h1
 have ly := fF (x := (civ n).1) (k := 4) (by omega) (.inr ⟨rfl, by omega⟩)
 have lm := fF (x := (civ n).2.1) (k := 2) (by omega) (.inl ⟨rfl, by omega⟩)
 have ld := fF (x := (civ n).2.2) (k := 2) (by omega) (.inl ⟨rfl, by omega⟩)
 have vy := (dF (x := (civ n).1) (k := 4) (by omega) (by omega) (by decide)).1
 have vm := (dF (x := (civ n).2.1) (k := 2) (by omega) (by omega) (by decide)).1
 have vd := (dF (x := (civ n).2.2) (k := 2) (by omega) (by omega) (by decide)).1
 have hT : aR n = cY 5 (civ n).1 4 [] ++ [45] ++ cY 5 (civ n).2.1 2 [] ++ [45] ++ cY 5 (civ n).2.2 2 [] := rfl
 generalize cY 5 (civ n).1 4 [] = Y at *
 generalize cY 5 (civ n).2.1 2 [] = M at *
 generalize cY 5 (civ n).2.2 2 [] = X at *
 unfold oO
 have e1 : (aR n).take 4 = Y := by rw [hT]; simp [List.take_append, ly]
 have e2 : ((aR n).drop 5).take 2 = M := by rw [hT]; simp [List.drop_append, List.take_append, ly, lm]
 have e3 : (aR n).drop 8 = X := by
  have l1 : Y.length = 4 := ly
  have l2 : M.length = 2 := lm
  rw [hT, List.drop_left' (by simp [l1, l2])]
 rw [e1, e2, e3, vy, vm, vd]
 have s := (kG h0 h1).2
 have q1 : (((civ n).1.toNat : Nat) : Int) = (civ n).1 := by omega
 have q2 : (((civ n).2.1.toNat : Nat) : Int) = (civ n).2.1 := by omega
 have q3 : (((civ n).2.2.toNat : Nat) : Int) = (civ n).2.2 := by omega
 rw [q1, q2, q3]; exact s
def aN (c : UInt8) : Bool := !(c == 44 || c == 59 || c == 93 || c == 124)
theorem g0 {c : UInt8} (h : bA c = true) : aN c = true := by
 simp only [bA, Bool.and_eq_true, decide_eq_true_eq] at h
 simp only [aN, Bool.not_eq_true', Bool.or_eq_false_iff, beq_eq_false_iff_ne, ne_eq]
 refine ⟨⟨⟨?_, ?_⟩, ?_⟩, ?_⟩ <;> rintro rfl <;> simp at h
theorem dU {p q : UInt8 → Bool} (h : ∀ c, p c = true → q c = true) {l : List UInt8} (hl : l.all p = true) : l.all q = true := by
 rw [List.all_eq_true] at hl ⊢; exact fun c hc => h c (hl c hc)
theorem xR {n s : Int} (h : 0 ≤ s) : (bU n s).all aN = true := by
 rw [kD h, mP]
 have h1 := dU (fun c => g0) (dQ (n.natAbs / 10 ^ s.toNat)).2
 have h2 := dU (fun c => g0) (aCO n.natAbs s.toNat)
 have h45 : aN 45 = true := by decide
 have h46 : aN 46 = true := by decide
 split <;> split <;> simp [List.all_append, h1, h2, h45, h46]
theorem nX {n : Int} (h0 : 0 ≤ n) (h1 : n ≤ 3652058) : (aR n).all aN = true := by
 obtain ⟨a, b, c, d, e, f⟩ := oQ h0 h1
 have vy := dU (fun c => g0) (dF (x := (civ n).1) (k := 4) (by omega) (by omega) (by decide)).2
 have vm := dU (fun c => g0) (dF (x := (civ n).2.1) (k := 2) (by omega) (by omega) (by decide)).2
 have vd := dU (fun c => g0) (dF (x := (civ n).2.2) (k := 2) (by omega) (by omega) (by decide)).2
 have h45 : aN 45 = true := by decide
 unfold aR
 simp [List.all_append, vy, vm, vd, h45]
theorem pV {n : Int} (h0 : 0 ≤ n) (h1 : n ≤ 99) : dec2 n = bD n.toNat := by
 have : ∀ k : Nat, k < 100 → dec2 (k : Int) = bD k := by
  intro k hk
  have h := aNF (i := k) hk
  rw [← h, t6]
 have h := this n.toNat (by omega)
 rw [← h]; congr 1; omega
def kJ (r : List UInt8) : Prop := r = [] ∨ ∃ x t, r = x :: t ∧ aN x = false
theorem e7 {w r : List UInt8} (h : w.all aN = true) (hr : kJ r) : (w ++ r).takeWhile aN = w ∧ (w ++ r).dropWhile aN = r := jO h hr
def unq : List UInt8 → List UInt8 × List UInt8
 | [] => ([], [])
 | c :: t => if c = 39 then (match t with
   | [] => ([], [])
   | d :: u => if d = 39 then (39 :: (unq u).1, (unq u).2) else ([], d :: u))
  else (c :: (unq t).1, (unq t).2)
theorem aJ7 {c : UInt8} {t : List UInt8} (h : ¬ c = 39) : unq (c :: t) = (c :: (unq t).1, (unq t).2) := by
 rw [unq.eq_def]; simp [h]
theorem aJ6 {r : List UInt8} (hr : kJ r) : ∀ s : List UInt8, unq (bT s ++ 39 :: r) = (s, r)
 | [] => by
  rw [show bT [] = [] from rfl, List.nil_append]
  rcases hr with rfl | ⟨x, t, rfl, hx⟩
  simp [unq]
  have : ¬ x = 39 := by rintro rfl; simp [aN] at hx
  simp [unq, this]
 | c :: s => by
  have ih := aJ6 hr s
  have e : bT (c :: s) = mH c ++ bT s := by simp [bT]
  rw [e, mH]
  by_cases h : c = 39
  subst h
  rw [if_pos rfl]
  simp [unq, ih]
  rw [if_neg h]
  rw [List.singleton_append, List.cons_append, aJ7 h, ih]
def clP : List UInt8 → Cl × List UInt8
 | [] => (Cl.z, [])
 | x :: t => if x = 39 then (⟨1, (unq t).1, 0, 0, 0⟩, (unq t).2)
  else (if x = 33 then ⟨0, [], 0, 0, cQ (t.takeWhile aN)⟩ else if x = 35 then ⟨2, [], (mK (t.takeWhile aN)).1, (mK (t.takeWhile aN)).2, 0⟩ else if x = 64 then ⟨3, [], 0, 0, oO (t.takeWhile aN)⟩ else ⟨4, [], 0, 0, cQ (t.takeWhile aN)⟩, t.dropWhile aN)
theorem dP {T : Bool} {v : Vl} (h : aV T v = true) : (¬ v.kind = 1 → v.s = []) ∧ (¬ v.kind = 2 → v.dn = 0 ∧ v.ds = 0) ∧ (v.kind = 1 ∨ v.kind = 2 ∨ v.kind = 5 → v.n = 0) ∧ (¬ v.kind = 5 → v.cols = [] ∧ v.rows = []) ∧ 0 ≤ v.kind ∧ v.kind ≤ 5 ∧ (v.kind = 0 → 0 ≤ v.n ∧ v.n ≤ 99) ∧ (v.kind = 2 → cZ v.dn v.ds = true) ∧ (v.kind = 3 → 0 ≤ v.n ∧ v.n ≤ 3652058) ∧ (v.kind = 4 → v.n = 0 ∨ v.n = 1) ∧ (v.kind = 5 → T = true) := by
 unfold aV bZ at h
 obtain ⟨k, s, dn, ds, n, cols, rows⟩ := v
 by_cases h0 : k = 0
 subst h0; simp at h; simp_all
 by_cases h1 : k = 1
 subst h1; simp at h; simp_all
 by_cases h2 : k = 2
 subst h2; simp at h; simp_all
 by_cases h3 : k = 3
 subst h3; simp at h; simp_all
 by_cases h4 : k = 4
 subst h4; simp at h; simp_all
 by_cases h5 : k = 5
 subst h5; simp at h; simp_all
 simp [h0, h1, h2, h3, h4, h5] at h
theorem clP_of {c : Cl} (hk : ¬ c.kind = 5) (h : aV false c.toV = true) {r : List UInt8} (hr : kJ r) : clP (bB c ++ r) = (c, r) := by
 obtain ⟨a1, a2, a3, _, a5, a6, a7, a8, a9, a10, _⟩ := dP h
 obtain ⟨k, s, dn, ds, n⟩ := c
 simp only [Cl.toV] at *
 unfold bB gD
 simp only
 have hk : k = 0 ∨ k = 1 ∨ k = 2 ∨ k = 3 ∨ k = 4 := by omega
 rcases hk with rfl | rfl | rfl | rfl | rfl
 have hn := a7 rfl
 have hw := e7 (dU (fun c => g0) (dQ n.toNat).2) hr
 simp only [if_true, List.cons_append, clP, show ¬ (33 : UInt8) = 39 by decide, if_false, pV hn.1 hn.2, hw.1, hw.2, (dQ n.toNat).1]
 have := a1 (by decide); have := a2 (by decide)
 simp_all; omega
 have e : oA s ++ r = 39 :: (bT s ++ 39 :: r) := by simp [oA]
 simp only [show ¬ (1 : Int) = 0 by decide, if_false, if_true, e, clP, aJ6 hr]
 have := a2 (by decide); have := a3 (by decide)
 simp_all
 have hd := fG (a8 rfl)
 have hw := e7 (xR (n := dn) hd.1) hr
 simp only [show ¬ (2 : Int) = 0 by decide, show ¬ (2 : Int) = 1 by decide, if_false, if_true, List.cons_append, clP, show ¬ (35 : UInt8) = 39 by decide, show ¬ (35 : UInt8) = 33 by decide, hw.1, hw.2, aDD hd.1]
 have := a1 (by decide); have := a3 (by decide)
 simp_all
 have hn := a9 rfl
 have hw := e7 (nX hn.1 hn.2) hr
 simp only [show ¬ (3 : Int) = 0 by decide, show ¬ (3 : Int) = 1 by decide, show ¬ (3 : Int) = 2 by decide, if_false, if_true, List.cons_append, clP, show ¬ (64 : UInt8) = 39 by decide, show ¬ (64 : UInt8) = 33 by decide, show ¬ (64 : UInt8) = 35 by decide, hw.1, hw.2, xU hn.1 hn.2]
 have := a1 (by decide); have := a2 (by decide)
 simp_all
 have hn := a10 rfl
 have hw := e7 (dU (fun c => g0) (dQ n.toNat).2) hr
 simp only [show ¬ (4 : Int) = 0 by decide, show ¬ (4 : Int) = 1 by decide, show ¬ (4 : Int) = 2 by decide, show ¬ (4 : Int) = 3 by decide, if_false, List.cons_append, clP, show ¬ (63 : UInt8) = 39 by decide, show ¬ (63 : UInt8) = 33 by decide, show ¬ (63 : UInt8) = 35 by decide, show ¬ (63 : UInt8) = 64 by decide, pV (n := n) (by omega) (by omega), hw.1, hw.2, (dQ n.toNat).1]
 have := a1 (by decide); have := a2 (by decide)
 simp_all; omega
def v7 (c : Cl) : Prop := ¬ c.kind = 5 ∧ aV false c.toV = true
theorem lB {x : UInt8} {t : List UInt8} (h : aN x = false) : kJ (x :: t) := .inr ⟨x, t, rfl, h⟩
theorem oG {l : List UInt8} (h : bW l = true) : l.all aN = true ∧ ∃ c t, l = c :: t ∧ aN c = true := by
 have e : bs (S l) = l := by simp [bs, S]
 simp only [sP, bW, dG, Bool.and_eq_true, e] at h
 have ha : l.all aN = true := by
  rw [List.all_eq_true] at h ⊢
  intro c hc
  have hh := h.2 c hc
  simp only [aN, Bool.not_eq_true', Bool.or_eq_false_iff, beq_eq_false_iff_ne, ne_eq]
  refine ⟨⟨⟨?_, ?_⟩, ?_⟩, ?_⟩ <;> rintro rfl <;> revert hh <;> decide
 refine ⟨ha, ?_⟩
 cases l with
 | nil => simp at h
 | cons c t => simp only [List.all_cons, Bool.and_eq_true] at ha; exact ⟨c, t, rfl, ha.1⟩
def EndsT (r : List UInt8) : Prop := ∃ x t, r = x :: t ∧ (x = 59 ∨ x = 93)
theorem EndsT.w {r : List UInt8} (h : EndsT r) : kJ r := by
 obtain ⟨x, t, rfl, h | h⟩ := h <;> subst h <;> exact lB rfl
theorem lS {cols : List (List UInt8)} {rows : List (List Cl)} (h : cK cols rows = true) : (∀ x, x ∈ cols → bW x = true) ∧ ∀ r, r ∈ rows → r.length = cols.length ∧ ∀ c, c ∈ r → v7 c := by
 simp only [cK, Bool.and_eq_true] at h
 refine ⟨fun x hx => ?_, fun r hr => ?_⟩
 obtain ⟨i, hi, rfl⟩ := List.mem_iff_getElem.1 hx
 have h1 := gE h.1.2 hi
 simp only [nameAt, Bool.and_eq_true] at h1
 have : cols.getD i [] = cols[i] := by simp [hi]
 rw [this] at h1; exact h1.1
 obtain ⟨i, hi, rfl⟩ := List.mem_iff_getElem.1 hr
 have h1 := gE h.2 hi
 have e : rows.getD i [] = rows[i] := by simp [hi]
 simp only [rowAt, Bool.and_eq_true, decide_eq_true_eq, e] at h1
 refine ⟨h1.1, fun c hc => ?_⟩
 obtain ⟨j, hj, rfl⟩ := List.mem_iff_getElem.1 hc
 have h2 := gE h1.2 hj
 have e2 : rows[i].getD j Cl.z = rows[i][j] := by simp [hj]
 simp only [cellAt, Bool.and_eq_true, Bool.not_eq_true', decide_eq_false_iff_not, e2] at h2
 exact h2
def Vl.cl (v : Vl) : Cl := ⟨v.kind, v.s, v.dn, v.ds, v.n⟩
theorem l6 {v : Vl} (hk : ¬ v.kind = 5) (h : aU v = true) : v.cl.toV = v ∧ v7 v.cl ∧ cG v = bB v.cl := by
 obtain ⟨_, _, _, a4, _⟩ := dP h
 obtain ⟨k, s, dn, ds, n, cols, rows⟩ := v
 obtain ⟨rfl, rfl⟩ := a4 hk
 simp only at hk
 refine ⟨rfl, ⟨hk, ?_⟩, ?_⟩
 have : aV (cK [] []) (⟨k, s, dn, ds, n, [], []⟩ : Vl) = aV false ⟨k, s, dn, ds, n, [], []⟩ := by simp [aV, hk]
 rw [show (Vl.cl ⟨k, s, dn, ds, n, [], []⟩).toV = (⟨k, s, dn, ds, n, [], []⟩ : Vl) from rfl, ← this]
 exact h
 simp [cG, hk, bB, Vl.cl]
theorem aJM {c : Cl} (hk : ¬ c.kind = 5) : ∃ x t, bB c = x :: t ∧ ¬ x = 91 := by
 unfold bB gD
 split
 exact ⟨33, _, rfl, by decide⟩
 split
 exact ⟨39, _, rfl, by decide⟩
 split
 exact ⟨35, _, rfl, by decide⟩
 split
 exact ⟨64, _, rfl, by decide⟩
 exact ⟨63, _, rfl, by decide⟩
theorem iO {v : Vl} (hk : v.kind = 5) (h : aU v = true) (r : List UInt8) : cG v ++ r = 91 :: (joinL [44] v.cols ++ (v.rows.flatMap fP ++ 93 :: r)) := by
 simp [cG, hk]
end Go.Proofs.YtmpgfchkkemngaaGreatDoor
namespace Go.Proofs.YtmpgfchkkemngaaGreatDoor
open Go.RowKit Go.V
open Go.Eng (inR byteAt u8 bH)
variable {g : Gv}
theorem jF (l : List UInt8) : (S l).data.toList = l := by simp [S]
theorem aJE (w : World) (n : Nat) : Below w.heap.size w (w.drewN n) := ⟨rfl, rfl, rfl, Nat.le_refl _, fun _ _ => rfl⟩
abbrev y33 (a0 : ByteArray) (a1 : Bool) : SV := .tup [(false, [cS a0]), (false, [cB a1])]
theorem pZ (s p : List UInt8) : SpG g 205 [.c (cS (S s)), .c (cS (S p))] [] (y33 (S (Lib.trimPrefix s p)) (Lib.hasPrefix s p)) [] := by
 refine tW (args := [.string (S s), .string (S p)]) rfl rfl rfl fun w => ?_
 have := Tryz.strings_CutPrefix (S s) (S p) w
 rw [jF, jF] at this
 exact this.mono fun _ _ ⟨a, b⟩ => ⟨a, b.symm⟩
theorem cut_ok' (s p : List UInt8) (hs : s.length < 4294967281) : SpG g 206 [.c (cS (S s)), .c (cS (S p))] [] (.tup [(false, [cS (S (Lib.cut s p).1)]), (false, [cS (S (Lib.cut s p).2.1)]), (false, [.d (.b (Lib.cut s p).2.2)])]) [] := by
 refine gP (args := [.string (S s), .string (S p)]) rfl rfl rfl fun w hG => ?_
 obtain ⟨ty, fz, h0⟩ := hG 0 [.int .i64 g.maxLen] (by simp [Gl])
 have := Tryz.strings_Cut (S s) (S p) g.maxLen w (by rw [aF]; omega) (by rw [Lib.cell_of_heap h0]; rfl)
 rw [jF, jF] at this
 exact this.mono fun _ _ ⟨x, n, y⟩ => ⟨x, by rw [y]; exact aJE _ _⟩
def gH (w : List UInt8) : Bool := cZ (mK w).1 (mK w).2 && decide (bU (mK w).1 (mK w).2 = w)
def iZ (w : List UInt8) : Int := if gH w then (mK w).1 else 0
def iY (w : List UInt8) : Int := if gH w then (mK w).2 else 0
theorem mJ {n s : Int} {w : List UInt8} (h : cZ n s = true) (e : bU n s = w) : gH w = true ∧ iZ w = n ∧ iY w = s := by
 have h1 := aDD (n := n) (s := s) (fG h).1
 rw [e] at h1
 have hk : gH w = true := by rw [gH, h1]; simp [h, e]
 exact ⟨hk, by rw [iZ, if_pos hk, h1], by rw [iY, if_pos hk, h1]⟩
theorem nF {w : List UInt8} (h : ∀ n s, cZ n s = true → bU n s = w → False) : gH w = false ∧ iZ w = 0 ∧ iY w = 0 := by
 have hk : gH w = false := by
  cases hb : gH w with
  | false => rfl
  | true =>
   simp only [gH, Bool.and_eq_true, decide_eq_true_eq] at hb
   exact (h _ _ hb.1 hb.2).elim
 exact ⟨hk, by rw [iZ, hk]; rfl, by rw [iY, hk]; rfl⟩
theorem aFO {c : UInt8} (h : bA c = true) : ¬ c = 45 ∧ ¬ c = 46 := by
 refine ⟨?_, ?_⟩ <;> rintro rfl <;> simp [bA] at h
theorem vP (a s : Nat) : mP a s = bD (a / 10 ^ s) ++ (if s = 0 then [] else 46 :: mA s a) := rfl
theorem aEW {n s : Int} (h : 0 ≤ s) : Lib.hasPrefix (bU n s) [45] = decide (n < 0) ∧ Lib.trimPrefix (bU n s) [45] = mP n.natAbs s.toNat := by
 rw [kD h]
 by_cases hn : n < 0
 have e : Lib.hasPrefix ((if n < 0 then [45] else []) ++ mP n.natAbs s.toNat) [45] = true := by
  rw [if_pos hn]; simp [Lib.hasPrefix]
 rw [Lib.trimPrefix, e, if_pos rfl, if_pos hn]
 simp [hn]
 obtain ⟨c, t, hc, hd⟩ := yA n.natAbs s.toNat
 have e : Lib.hasPrefix ((if n < 0 then [45] else []) ++ mP n.natAbs s.toNat) [45] = false := by
  rw [if_neg hn, hc]
  simp only [Lib.hasPrefix, List.nil_append, List.isPrefixOf, Bool.and_true]
  have := (aFO hd).1
  simpa using fun h => this h.symm
 rw [Lib.trimPrefix, e, if_neg hn]
 simp [hn]
theorem aE8 {l r : List UInt8} {c : UInt8} (h : ∀ x, x ∈ l → ¬ x = c) : Lib.index (l ++ c :: r) [c] = (l.length : Int) := by
 induction l with
 | nil => simp [Lib.index, List.isPrefixOf]
 | cons x l ih =>
  have h1 := ih (fun y hy => h y (by simp [hy]))
  have h2 : ¬ c = x := fun e => h x (by simp) e.symm
  have h3 : (c == x) = false := by simpa using h2
  simp only [List.cons_append, Lib.index, List.isPrefixOf, h3, Bool.false_and, h1]
  have h4 : ((l.length : Int) == -1) = false := by rw [beq_eq_false_iff_ne]; omega
  simp [h4]
theorem index_none {l : List UInt8} {c : UInt8} (h : ∀ x, x ∈ l → ¬ x = c) : Lib.index l [c] = -1 := by
 induction l with
 | nil => rfl
 | cons x l ih =>
  have h1 := ih (fun y hy => h y (by simp [hy]))
  have h2 : ¬ c = x := fun e => h x (by simp) e.symm
  have h3 : (c == x) = false := by simpa using h2
  simp only [Lib.index, List.isPrefixOf, h3, Bool.false_and, h1]
  rfl
theorem aGZ (q : Nat) (c : UInt8) (hc : c = 45 ∨ c = 46) : ∀ x, x ∈ bD q → ¬ x = c := by
 intro x hx e
 have := aFO (List.all_eq_true.1 (dQ q).2 x hx)
 rcases hc with rfl | rfl
 exact this.1 e
 exact this.2 e
theorem cut_abs (a s : Nat) : (Lib.cut (mP a s) [46]).1 = bD (a / 10 ^ s) ∧ (Lib.cut (mP a s) [46]).2.1 = mA s a := by
 rw [vP]
 by_cases h : s = 0
 rw [if_pos h, List.append_nil, Lib.cut, index_none (aGZ _ 46 (.inr rfl)), if_neg (by decide)]
 subst h; exact ⟨rfl, rfl⟩
 rw [if_neg h, Lib.cut, aE8 (aGZ _ 46 (.inr rfl)), if_pos (by omega)]
 simp
theorem aFQ {n s : Int} (h : cZ n s = true) : (bU n s).length ≤ 18 := by
 obtain ⟨h0, h1, h2, h3, _⟩ := fG h
 rw [kD h0, vP]
 have hs : s.toNat ≤ 6 := by omega
 have hl : (bD (n.natAbs / 10 ^ s.toNat)).length ≤ 16 - s.toNat := by
  apply gY
  apply Nat.div_lt_of_lt_mul
  rw [← Nat.pow_add, show s.toNat + (16 - s.toNat) = 16 by omega]; omega
  omega
 have h5 : (if n < 0 then ([45] : List UInt8) else []).length ≤ 1 := by split <;> simp
 rw [List.length_append, List.length_append]
 by_cases h4 : s.toNat = 0
 rw [if_pos h4]; simp only [List.length_nil]; omega
 rw [if_neg h4, List.length_cons, gZ]; omega
theorem aC3 {n s : Int} (h : cZ n s = true) : d9 (decide (n < 0)) n.natAbs s = n ∧ d8 n.natAbs s = s ∧ eF n.natAbs s = true := by
 obtain ⟨h0, h1, h2, h3, h4⟩ := fG h
 have ht : s = 0 ∨ ¬ n % 10 = 0 := h4.imp id fun hh hm => hh (by rw [← Int.dvd_iff_tmod_eq_zero]; exact Int.dvd_of_emod_eq_zero hm)
 have hL : fX n.natAbs s.toNat = (n.natAbs, s.toNat) := fE h0 (by omega)
 have hB : eF n.natAbs s = true := by unfold eF; rw [hL]; simp; omega
 refine ⟨?_, ?_, hB⟩
 rw [d9, hB, if_pos rfl, hL]
 by_cases hn : n < 0
 simp only [hn, decide_true, if_true]; omega
 simp only [hn, decide_false, Bool.false_eq_true, if_false]; omega
 rw [d8, hB, if_pos rfl, hL]; simp only; omega
theorem nD {l : List UInt8} {k : Nat} (h : k < l.length) : cQ (l.take (k + 1)) = 10 * cQ (l.take k) + ((l.getD k 0).toNat - 48) := by
 have e : l.take (k + 1) = l.take k ++ [l.getD k 0] := by
  rw [List.take_add_one, List.getD_eq_getElem?_getD, List.getElem?_eq_getElem h]; rfl
 rw [e, j9]
theorem sL {l : List UInt8} (h : l.all bA = true) : cQ l < 10 ^ l.length := by
 induction l using o8 with
 | h0 => simp [cQ]
 | h1 l x ih =>
  rw [List.all_append, Bool.and_eq_true] at h
  have h1 := ih h.1
  have h2 := h.2
  simp only [List.all_cons, List.all_nil, bA, Bool.and_true, Bool.and_eq_true, decide_eq_true_eq] at h2
  rw [j9, List.length_append, Nat.pow_add]; simp; omega
theorem vK {l : List UInt8} {k : Nat} (h : k < l.length) (h1 : (l.take k).all bA = true) (h2 : bA (l.getD k 0) = true) : (l.take (k + 1)).all bA = true := by
 have e : l.take (k + 1) = l.take k ++ [l.getD k 0] := by
  rw [List.take_add_one, List.getD_eq_getElem?_getD, List.getElem?_eq_getElem h]; rfl
 rw [e, List.all_append, h1]; simp only [List.all_cons, List.all_nil, h2]; rfl
theorem pP {l : List UInt8} {k : Nat} (h1 : ¬ byteAt (S l) (k : Int) < 48) (h2 : ¬ byteAt (S l) (k : Int) > 57) : bA (l.getD k 0) = true ∧ IntKind.wrap .i64 (IntKind.wrap .u8 (byteAt (S l) (k : Int) - 48)) = (((l.getD k 0).toNat - 48 : Nat) : Int) := by
 have e := cO l (k : Int)
 rw [Int.toNat_natCast] at e
 rw [e] at h1 h2 ⊢
 have hw : IntKind.wrap .u8 (((l.getD k 0).toNat : Int) - 48) = ((l.getD k 0).toNat : Int) - 48 := by
  have := Eng.wrap_u8 (((l.getD k 0).toNat : Int) - 48)
  rw [this, lR]; omega
 rw [hw, wrap64 (by unfold inR; omega)]
 refine ⟨?_, by omega⟩
 simp only [bA, Bool.and_eq_true, decide_eq_true_eq]; omega
def ppB (w : List UInt8) : List UInt8 := (Lib.cut (Lib.trimPrefix w [45]) [46]).1 ++ (Lib.cut (Lib.trimPrefix w [45]) [46]).2.1
def ppA (w : List UInt8) : List UInt8 := (Lib.cut (Lib.trimPrefix w [45]) [46]).2.1
def ppN (w : List UInt8) : Int := if Lib.hasPrefix w [45] then -(cQ (ppB w) : Int) else (cQ (ppB w) : Int)
theorem pp_of {n s : Int} (h : cZ n s = true) : ppB (bU n s) = eK n.natAbs s.toNat ∧ (ppA (bU n s)).length = s.toNat ∧ ppN (bU n s) = n := by
 have h0 := (fG h).1
 obtain ⟨p1, p2⟩ := aEW (n := n) h0
 obtain ⟨c1, c2⟩ := cut_abs n.natAbs s.toNat
 have e1 : ppB (bU n s) = eK n.natAbs s.toNat := by rw [ppB, p2, c1, c2, iC]
 refine ⟨e1, by rw [ppA, p2, c2, gZ], ?_⟩
 rw [ppN, p1, e1, (jZ _ _).1]
 by_cases hn : n < 0
 simp only [hn, decide_true, if_true]; omega
 simp only [hn, decide_false, Bool.false_eq_true, if_false]; omega
theorem aNL (l : List UInt8) (c : UInt8) : (Lib.cut l [c]).1.length + (Lib.cut l [c]).2.1.length ≤ l.length := by
 unfold Lib.cut
 split
 simp only [List.length_take, List.length_drop]; omega
 simp
theorem wG (l p : List UInt8) : (Lib.trimPrefix l p).length ≤ l.length := by
 unfold Lib.trimPrefix; split
 simp
 exact Nat.le_refl _
theorem tdiv10 (a : Int) : Int.tmod a 10 = 0 ↔ a.natAbs % 10 = 0 := by
 rw [← Int.dvd_iff_tmod_eq_zero]
 constructor
 intro h; omega
 intro h; omega
theorem uX (n s : Int) (h0 : -72000000000000000000 ≤ n) (h0b : inR n) (h2 : 0 ≤ s) (h3 : s ≤ 18) :
  SpG g 207 [.c (cI n), .c (cI s)] [] (y6 (d9 (decide (n < 0)) n.natAbs s) (d8 n.natAbs s) (eF n.natAbs s)) [] := by
 unfold inR at h0b
 refine aG 35 Tryz.func207 (by kernel_rfl) fun fr hG => ?_
 refine zC hG [] [1, 0, 1] ((decide ((s : Int) < 0)) || (decide ((s : Int) > 18))) (⟨[zI 0 n, zI 1 s, zX 4 100 0, zB 5 false], [(100, .box 26 [cI 0, cI 0])]⟩) aA (fun hc1 => ?_) (fun hc1 => ?_)
 (try simp only [blS] at hc1)
 exfalso; omega
 (try simp only [blS] at hc1)
 refine zL hG [] [0, 0, 1, 1] (fun (zz : Int × Int) => match zz with | (a, t) => (t.toNat, ⟨[zI 0 a, zI 1 t, zX 4 100 0, zB 5 false], [(100, .box 26 [cI 0, cI 0])]⟩, a.natAbs ≤ n.natAbs ∧ (a < 0 ↔ n < 0 ∧ a ≠ 0) ∧ 0 ≤ t ∧ t ≤ s ∧ fX a.natAbs t.toNat = fX n.natAbs s.toNat ∧ (n < 0 → a ≤ 0))) (n, s) aA ?_ ?_
 exact ⟨Nat.le_refl _, by omega, h2, Int.le_refl _, rfl, by omega⟩
 rintro ⟨a, t⟩ ⟨ha, hsg, ht0, ht1, hf, hng⟩
 have htm := tdiv10 a
 have hta : (Int.tdiv a 10).natAbs = a.natAbs / 10 := Int.natAbs_tdiv a 10
 refine zc hG [] [1, 0] ((decide ((t : Int) > 0)) && (decide ((Int.tmod a 10 : Int) = 0))) (aB (by intros; first | omega | decide | (unfold inR; omega) : (decide ((t : Int) > 0)) = true → 10 ≠ (0 : Int))) (fun hc3 => ?_) (fun hc3 => ?_)
 (try simp only [blS] at hc3)
 refine zD hG [] (Int.tdiv a 10, t - 1) (aC (by intros; first | omega | decide | (unfold inR; omega) : 10 ≠ (0 : Int) ∧ inR (Int.tdiv a 10)) (aB (by intros; first | omega | decide | (unfold inR; omega) : inR (t - 1)))) ?_ ?_
 (try dsimp only); omega
 have hz := htm.1 hc3.2
 have hsn : (Int.tdiv a 10 < 0 ↔ a < 0 ∧ Int.tdiv a 10 ≠ 0) ∧ (a ≤ 0 → Int.tdiv a 10 ≤ 0) := by
  rcases Int.lt_or_le a 0 with h | h
  have := Int.tdiv_nonneg (a := -a) (b := 10) (by omega) (by decide)
  rw [Int.neg_tdiv] at this; omega
  have := Int.tdiv_nonneg (a := a) (b := 10) h (by decide)
  rw [Int.tdiv_eq_ediv_of_nonneg h] at *; omega
 refine ⟨by omega, by omega, by omega, by omega, ?_, by omega⟩
 rw [hta, ← hf, xH (by omega) hz]
 (try simp only [blS] at hc3)
 refine zE hG [] (.exit 0) (⟨[zI 0 a, zI 1 t, zX 4 100 0, zB 5 false], [(100, .box 26 [cI 0, cI 0])]⟩) aA rfl ?_
 refine zc hG [(6, 4, kB (decide ((-1000000000000000 : Int) ≤ a) && decide (a ≤ (1000000000000000 : Int))))] [1, 0, 1, 1, 1] ((decide ((t : Int) > 6)) || (!(decide ((-1000000000000000 : Int) ≤ a) && decide (a ≤ (1000000000000000 : Int))))) (aB (fun (hg1 : (decide ((t : Int) > 6)) = false) => (sT a : SpG g _ _ _ _ _))) (fun hc4 => ?_) (fun hc4 => ?_)
 (try simp only [blS] at hc4)
 refine zR hG [] [] (y8) [] aA ?_ ?_
 have hL : fX a.natAbs t.toNat = (a.natAbs, t.toNat) := fE ht0 (by omega)
 rw [hf] at hL
 have hb : eF n.natAbs s = false := by unfold eF; rw [hL]; simp; omega
 rw [d9, d8, hb]; rfl
 rfl
 (try simp only [blS] at hc4)
 refine zR hG [] [] (y9 a t) [] aA ?_ ?_
 have hL : fX a.natAbs t.toNat = (a.natAbs, t.toNat) := fE ht0 (by omega)
 rw [hf] at hL
 have hb : eF n.natAbs s = true := by unfold eF; rw [hL]; simp; omega
 have e1 : d9 (decide (n < 0)) n.natAbs s = a := by
  rw [d9, hb, if_pos rfl, hL]
  by_cases hn : n < 0
  simp only [hn, decide_true, if_true]; omega
  simp only [hn, decide_false, Bool.false_eq_true, if_false]; omega
 have e2 : d8 n.natAbs s = t := by rw [d8, hb, if_pos rfl, hL]; simp only; omega
 rw [e1, e2, hb]
 rfl
theorem sO {l : List UInt8} {k : Nat} (h : l.all bA = true) (hk : k < l.length) : 48 ≤ byteAt (S l) (k : Int) ∧ byteAt (S l) (k : Int) ≤ 57 := by
 have e := cO l (k : Int)
 rw [Int.toNat_natCast, List.getD_eq_getElem?_getD, List.getElem?_eq_getElem hk] at e
 have := List.all_eq_true.1 h _ (List.getElem_mem hk)
 rw [e]; simp only [Option.getD_some]
 simp only [bA, Bool.and_eq_true, decide_eq_true_eq] at this; omega
theorem w1 {n s : Int} {w : List UInt8} (hb : cZ n s = true) (he : bU n s = w) : eF (ppN w).natAbs ((ppA w).length : Int) = true ∧ bU (d9 (decide (ppN w < 0)) (ppN w).natAbs ((ppA w).length : Int)) (d8 (ppN w).natAbs ((ppA w).length : Int)) = w := by
 obtain ⟨p1, p2, p3⟩ := pp_of hb
 rw [he] at p1 p2 p3
 have h0 := (fG hb).1
 obtain ⟨f1, f2, f3⟩ := aC3 hb
 rw [p3, p2, Int.toNat_of_nonneg h0, f1, f2]
 exact ⟨f3, he⟩
def eR := And.intro @dY (And.intro @aD3 (And.intro @aF (@blS)))
def jN := And.intro @aF (@maxLen.eq_1)
theorem aDC (w : List UInt8) (hw : w.length < 4294967281) :
  SpG g 179 [.c (cS (S w))] [] (y6 (iZ w) (iY w) (gH w)) [] := by
 have hcz := aNL (Lib.trimPrefix w [45]) 46
 have htz := wG w [45]
 have hpl : (ppB w).length = (Lib.cut (Lib.trimPrefix w [45]) [46]).1.length + (Lib.cut (Lib.trimPrefix w [45]) [46]).2.1.length := by rw [ppB, List.length_append]
 have hpa : (ppA w).length = (Lib.cut (Lib.trimPrefix w [45]) [46]).2.1.length := rfl
 refine aG 76 Tryz.func179 (by kernel_rfl) fun fr hG => ?_
 refine zC hG [] [1, 0, 1] (decide ((((S w).size : Int) : Int) > 18)) (⟨[zS 0 (S w), zX 2 100 0, zB 3 false], [(100, .box 26 [cI 0, cI 0])]⟩) aA (fun hc1 => ?_) (fun hc1 => ?_)
 (try simp only [eR, ByteArray.size_append] at hc1)
 refine zR hG [] [] (y8) [] aA ?_ ?_
 have hno : ∀ n s, cZ n s = true → bU n s = w → False := by
  intro n s hb he
  have := aFQ hb; rw [he] at this; omega
 obtain ⟨r1, r2, r3⟩ := nF hno
 rw [r1, r2, r3]
 rfl
 (try simp only [eR, ByteArray.size_append] at hc1)
 refine zL hG [(3, 1, kC (y33 (S (Lib.trimPrefix (w) [45])) (Lib.hasPrefix (w) [45]))), (4, 1, kC (.tup [(false, [cS (S (Lib.cut (Lib.trimPrefix (w) [45]) [46]).1)]), (false, [cS (S (Lib.cut (Lib.trimPrefix (w) [45]) [46]).2.1)]), (false, [cB ((Lib.cut (Lib.trimPrefix (w) [45]) [46]).2.2)])]))] [0, 1, 0, 1, 1, 1, 1, 1, 1] (fun (zz : Nat × Int × ByteArray) => match zz with | (k, v, bs) => ((ppB w).length - k, ⟨[zS 0 (S w), zX 2 100 0, zB 3 false, zS 4 bs, zB 5 (Lib.hasPrefix (w) [45]), zS 7 (S (Lib.cut (Lib.trimPrefix (w) [45]) [46]).2.1), zI 9 v, zI 32 (((S (Lib.cut (Lib.trimPrefix (w) [45]) [46]).1) ++ (S (Lib.cut (Lib.trimPrefix (w) [45]) [46]).2.1)).size : Int), zI 33 (k : Int)], [(100, .box 26 [cI 0, cI 0])]⟩, bs = S (ppB w) ∧ k ≤ (ppB w).length ∧ ((ppB w).take k).all bA = true ∧ v = (cQ ((ppB w).take k) : Int))) (0, 0, (S (Lib.cut (Lib.trimPrefix (w) [45]) [46]).1) ++ (S (Lib.cut (Lib.trimPrefix (w) [45]) [46]).2.1)) (aC (pZ (w) [45] : SpG g _ _ _ _ _) (aC (cut_ok' (Lib.trimPrefix (w) [45]) [46] (by omega) : SpG g _ _ _ _ _) (aB (by intros; (try simp only [jN, ByteArray.size_append] at *); first | omega | decide | (unfold inR; omega) : (S (Lib.cut (Lib.trimPrefix (w) [45]) [46]).1).size + (S (Lib.cut (Lib.trimPrefix (w) [45]) [46]).2.1).size ≤ maxLen)))) ?_ ?_
 exact ⟨by rw [bI]; rfl, Nat.zero_le _, rfl, rfl⟩
 rintro ⟨k, v, bs⟩ ⟨hbs, hk, hd, hv⟩
 have hbz : bs.size = (ppB w).length := by rw [hbs, aF]
 have hdl := sL hd
 rw [List.length_take, Nat.min_eq_left hk] at hdl
 have hp : 10 ^ k ≤ 10 ^ 18 := Nat.pow_le_pow_right (by decide) (by omega)
 have hp2 : k < (ppB w).length → 10 ^ k ≤ 10 ^ 17 := fun h => Nat.pow_le_pow_right (by decide) (by omega)
 have hcs : ¬ byteAt bs (k : Int) < 48 → ¬ byteAt bs (k : Int) > 57 → bA ((ppB w).getD k 0) = true ∧ IntKind.wrap .i64 (IntKind.wrap .u8 (byteAt bs (k : Int) - 48)) = ((((ppB w).getD k 0).toNat - 48 : Nat) : Int) := by rw [hbs]; exact fun a b => pP a b
 have hcl : ∀ b : UInt8, bA b = true → 0 ≤ (b.toNat : Int) - 48 ∧ b.toNat - 48 ≤ 9 := by intro b hb; simp only [bA, Bool.and_eq_true, decide_eq_true_eq] at hb; omega
 refine zc hG [] [0, 1] (decide (((k : Int) : Int) < (((S (Lib.cut (Lib.trimPrefix (w) [45]) [46]).1) ++ (S (Lib.cut (Lib.trimPrefix (w) [45]) [46]).2.1)).size : Int))) aA (fun hc3 => ?_) (fun hc3 => ?_)
 (try simp only [eR, ByteArray.size_append] at hc3)
 refine zC hG [] [1, 0, 1, 0, 0, 1, 1] ((decide ((byteAt (bs) (k : Int) : Int) < 48)) || (decide ((byteAt (bs) (k : Int) : Int) > 57))) (⟨[zS 0 (S w), zX 2 100 0, zB 3 false, zS 4 bs, zB 5 (Lib.hasPrefix (w) [45]), zS 7 (S (Lib.cut (Lib.trimPrefix (w) [45]) [46]).2.1), zI 9 v, zI 10 (k : Int), zI 32 (((S (Lib.cut (Lib.trimPrefix (w) [45]) [46]).1) ++ (S (Lib.cut (Lib.trimPrefix (w) [45]) [46]).2.1)).size : Int), zI 33 (k : Int)], [(100, .box 26 [cI 0, cI 0])]⟩) (aC (by intros; (try simp only [jN, ByteArray.size_append] at *); first | omega | decide | (unfold inR; omega) : (0 : Int) ≤ (k : Int) ∧ (k : Int) < ((bs).size : Int)) (aB (by intros; (try simp only [jN, ByteArray.size_append] at *); first | omega | decide | (unfold inR; omega) : (decide ((byteAt (bs) (k : Int) : Int) < 48)) = false → (0 : Int) ≤ (k : Int) ∧ (k : Int) < ((bs).size : Int)))) (fun hc4 => ?_) (fun hc4 => ?_)
 (try simp only [eR, ByteArray.size_append] at hc4)
 refine zE hG [] .ret (⟨[zS 0 (S w), zX 2 100 0, zB 3 false, zB 5 (Lib.hasPrefix (w) [45]), zS 7 (S (Lib.cut (Lib.trimPrefix (w) [45]) [46]).2.1), zI 9 v], [(100, .box 26 [cI 0, cI 0])]⟩) aA rfl ?_
 refine zR hG [] [] (y8) [] aA ?_ ?_
 have hno : ∀ n s, cZ n s = true → bU n s = w → False := by
  intro n s hb he
  have hal := (jZ n.natAbs s.toNat).2
  rw [← (pp_of hb).1, he] at hal
  have hag := sO (k := k) hal (by omega)
  rw [← hbs] at hag; omega
 obtain ⟨r1, r2, r3⟩ := nF hno
 rw [r1, r2, r3]
 rfl
 (try simp only [eR, ByteArray.size_append] at hc4)
 obtain ⟨q1, q2⟩ := hcs (by omega) (by omega)
 have q3 := hcl _ q1
 have hp4 := hp2 (by omega)
 refine zD hG [] (k + 1, v * 10 + IntKind.wrap .i64 (IntKind.wrap .u8 (byteAt bs (k : Int) - 48)), bs) (aC (by intros; (try simp only [jN, ByteArray.size_append] at *); first | omega | decide | (unfold inR; omega) : inR (v * 10)) (aC (by intros; (try simp only [jN, ByteArray.size_append] at *); first | omega | decide | (unfold inR; omega) : (0 : Int) ≤ (k : Int) ∧ (k : Int) < ((bs).size : Int)) (aC (by intros; (try simp only [jN, ByteArray.size_append] at *); first | omega | decide | (unfold inR; omega) : inR ((v * 10) + (IntKind.wrap .i64 (IntKind.wrap .u8 ((byteAt (bs) (k : Int)) - 48))))) (aB (by intros; (try simp only [jN, ByteArray.size_append] at *); first | omega | decide | (unfold inR; omega) : inR ((k : Int) + 1)))))) ?_ ?_
 (try dsimp only); omega
 refine ⟨hbs, by omega, vK (by omega) hd q1, ?_⟩
 rw [q2, nD (by omega), hv]; push_cast; omega
 (try simp only [eR, ByteArray.size_append] at hc3)
 have hvv : v = (cQ (ppB w) : Int) := by rw [hv, List.take_of_length_le (by omega)]
 have hkl : k = (ppB w).length := by omega
 have hp3 : (10 : Nat) ^ k ≤ 10 ^ 18 := hp
 have hbsz : (S (Lib.cut (Lib.trimPrefix w [45]) [46]).2.1).size = (ppA w).length := by rw [aF]; rfl
 refine zE hG [] (.exit 0) (⟨[zS 0 (S w), zX 2 100 0, zB 3 false, zB 5 (Lib.hasPrefix (w) [45]), zS 7 (S (Lib.cut (Lib.trimPrefix (w) [45]) [46]).2.1), zI 9 v], [(100, .box 26 [cI 0, cI 0])]⟩) aA rfl ?_
 refine zC hG [] [1, 0, 1, 1, 1, 1, 1, 1, 1] (Lib.hasPrefix (w) [45]) (⟨[zS 0 (S w), zX 2 100 0, zB 3 false, zS 7 (S (Lib.cut (Lib.trimPrefix (w) [45]) [46]).2.1), zI 9 v], [(100, .box 26 [cI 0, cI 0])]⟩) aA (fun hc5 => ?_) (fun hc5 => ?_)
 (try simp only [eR, ByteArray.size_append] at hc5)
 have hpn : IntKind.wrap .i64 (0 - v) = ppN w := by
  rw [wrap64 (by unfold inR; omega), ppN, if_pos hc5]; omega
 have hpb : -1000000000000000000 ≤ ppN w ∧ ppN w ≤ 1000000000000000000 := by
  rw [← hpn, wrap64 (by unfold inR; omega)]; omega
 refine zC hG [(16, 3, kC (y6 (d9 (decide ((IntKind.wrap .i64 (0 - v)) < 0)) (IntKind.wrap .i64 (0 - v)).natAbs ((S (Lib.cut (Lib.trimPrefix (w) [45]) [46]).2.1).size : Int)) (d8 (IntKind.wrap .i64 (0 - v)).natAbs ((S (Lib.cut (Lib.trimPrefix (w) [45]) [46]).2.1).size : Int)) (eF (IntKind.wrap .i64 (0 - v)).natAbs ((S (Lib.cut (Lib.trimPrefix (w) [45]) [46]).2.1).size : Int)))), (17, 4, kS (S (bU (d9 (decide ((IntKind.wrap .i64 (0 - v)) < 0)) (IntKind.wrap .i64 (0 - v)).natAbs ((S (Lib.cut (Lib.trimPrefix (w) [45]) [46]).2.1).size : Int)) (d8 (IntKind.wrap .i64 (0 - v)).natAbs ((S (Lib.cut (Lib.trimPrefix (w) [45]) [46]).2.1).size : Int)))))] [1, 0, 1, 1, 1, 1, 1, 1, 1, 1, 1] ((!(eF (IntKind.wrap .i64 (0 - v)).natAbs ((S (Lib.cut (Lib.trimPrefix (w) [45]) [46]).2.1).size : Int))) || (!((S (bU (d9 (decide ((IntKind.wrap .i64 (0 - v)) < 0)) (IntKind.wrap .i64 (0 - v)).natAbs ((S (Lib.cut (Lib.trimPrefix (w) [45]) [46]).2.1).size : Int)) (d8 (IntKind.wrap .i64 (0 - v)).natAbs ((S (Lib.cut (Lib.trimPrefix (w) [45]) [46]).2.1).size : Int)))).toList == (S w).toList))) (⟨[zX 2 100 0, zB 3 false, zX 11 1707 0], [(100, .box 26 [cI 0, cI 0]), (1707, .box 26 [cI (d9 (decide ((IntKind.wrap .i64 (0 - v)) < 0)) (IntKind.wrap .i64 (0 - v)).natAbs ((S (Lib.cut (Lib.trimPrefix (w) [45]) [46]).2.1).size : Int)), cI (d8 (IntKind.wrap .i64 (0 - v)).natAbs ((S (Lib.cut (Lib.trimPrefix (w) [45]) [46]).2.1).size : Int))])]⟩) (aC (uX (IntKind.wrap .i64 (0 - v)) ((S (Lib.cut (Lib.trimPrefix (w) [45]) [46]).2.1).size : Int) (by omega) (by unfold inR; omega) (by omega) (by omega) : SpG g _ _ _ _ _) (aB (fun (hg1 : (!(eF (IntKind.wrap .i64 (0 - v)).natAbs ((S (Lib.cut (Lib.trimPrefix (w) [45]) [46]).2.1).size : Int))) = false) => (lD (d9 (decide ((IntKind.wrap .i64 (0 - v)) < 0)) (IntKind.wrap .i64 (0 - v)).natAbs ((S (Lib.cut (Lib.trimPrefix (w) [45]) [46]).2.1).size : Int)) (d8 (IntKind.wrap .i64 (0 - v)).natAbs ((S (Lib.cut (Lib.trimPrefix (w) [45]) [46]).2.1).size : Int)) (gL _ _ _) : SpG g _ _ _ _ _)))) (fun hc6 => ?_) (fun hc6 => ?_)
 (try simp only [eR, ByteArray.size_append] at hc6)
 refine zR hG [] [] (y8) [] aA ?_ ?_
 have hno : ∀ n s, cZ n s = true → bU n s = w → False := by
  intro n s hb he
  obtain ⟨m1, m2⟩ := w1 hb he
  rw [← hpn] at m1 m2
  rcases hc6 with h | h
  exact absurd (h.symm.trans m1) (by decide)
  exact h m2
 obtain ⟨r1, r2, r3⟩ := nF hno
 rw [r1, r2, r3]
 rfl
 (try simp only [eR, ByteArray.size_append] at hc6)
 refine zR hG [] [] (y9 (d9 (decide ((IntKind.wrap .i64 (0 - v)) < 0)) (IntKind.wrap .i64 (0 - v)).natAbs ((S (Lib.cut (Lib.trimPrefix (w) [45]) [46]).2.1).size : Int)) (d8 (IntKind.wrap .i64 (0 - v)).natAbs ((S (Lib.cut (Lib.trimPrefix (w) [45]) [46]).2.1).size : Int))) [] aA ?_ ?_
 obtain ⟨r1, r2, r3⟩ := mJ (gL _ _ _) (hc6.2)
 rw [r1, r2, r3]; simp only [aF]
 rfl
 (try simp only [eR, ByteArray.size_append] at hc5)
 have hpn : v = ppN w := by
  rw [ppN, if_neg (by rw [hc5]; decide)]; exact hvv
 have hpb : -1000000000000000000 ≤ ppN w ∧ ppN w ≤ 1000000000000000000 := by omega
 refine zC hG [(16, 3, kC (y6 (d9 (decide (v < 0)) (v).natAbs ((S (Lib.cut (Lib.trimPrefix (w) [45]) [46]).2.1).size : Int)) (d8 (v).natAbs ((S (Lib.cut (Lib.trimPrefix (w) [45]) [46]).2.1).size : Int)) (eF (v).natAbs ((S (Lib.cut (Lib.trimPrefix (w) [45]) [46]).2.1).size : Int)))), (17, 4, kS (S (bU (d9 (decide (v < 0)) (v).natAbs ((S (Lib.cut (Lib.trimPrefix (w) [45]) [46]).2.1).size : Int)) (d8 (v).natAbs ((S (Lib.cut (Lib.trimPrefix (w) [45]) [46]).2.1).size : Int)))))] [1, 0, 1, 1, 1, 1, 1, 1, 1, 1, 1] ((!(eF (v).natAbs ((S (Lib.cut (Lib.trimPrefix (w) [45]) [46]).2.1).size : Int))) || (!((S (bU (d9 (decide (v < 0)) (v).natAbs ((S (Lib.cut (Lib.trimPrefix (w) [45]) [46]).2.1).size : Int)) (d8 (v).natAbs ((S (Lib.cut (Lib.trimPrefix (w) [45]) [46]).2.1).size : Int)))).toList == (S w).toList))) (⟨[zX 2 100 0, zB 3 false, zX 11 1707 0], [(100, .box 26 [cI 0, cI 0]), (1707, .box 26 [cI (d9 (decide (v < 0)) (v).natAbs ((S (Lib.cut (Lib.trimPrefix (w) [45]) [46]).2.1).size : Int)), cI (d8 (v).natAbs ((S (Lib.cut (Lib.trimPrefix (w) [45]) [46]).2.1).size : Int))])]⟩) (aC (uX v ((S (Lib.cut (Lib.trimPrefix (w) [45]) [46]).2.1).size : Int) (by omega) (by unfold inR; omega) (by omega) (by omega) : SpG g _ _ _ _ _) (aB (fun (hg1 : (!(eF (v).natAbs ((S (Lib.cut (Lib.trimPrefix (w) [45]) [46]).2.1).size : Int))) = false) => (lD (d9 (decide (v < 0)) (v).natAbs ((S (Lib.cut (Lib.trimPrefix (w) [45]) [46]).2.1).size : Int)) (d8 (v).natAbs ((S (Lib.cut (Lib.trimPrefix (w) [45]) [46]).2.1).size : Int)) (gL _ _ _) : SpG g _ _ _ _ _)))) (fun hc7 => ?_) (fun hc7 => ?_)
 (try simp only [eR, ByteArray.size_append] at hc7)
 refine zR hG [] [] (y8) [] aA ?_ ?_
 have hno : ∀ n s, cZ n s = true → bU n s = w → False := by
  intro n s hb he
  obtain ⟨m1, m2⟩ := w1 hb he
  rw [← hpn] at m1 m2
  rcases hc7 with h | h
  exact absurd (h.symm.trans m1) (by decide)
  exact h m2
 obtain ⟨r1, r2, r3⟩ := nF hno
 rw [r1, r2, r3]
 rfl
 (try simp only [eR, ByteArray.size_append] at hc7)
 refine zR hG [] [] (y9 (d9 (decide (v < 0)) (v).natAbs ((S (Lib.cut (Lib.trimPrefix (w) [45]) [46]).2.1).size : Int)) (d8 (v).natAbs ((S (Lib.cut (Lib.trimPrefix (w) [45]) [46]).2.1).size : Int))) [] aA ?_ ?_
 obtain ⟨r1, r2, r3⟩ := mJ (gL _ _ _) (hc7.2)
 rw [r1, r2, r3]; simp only [aF]
 rfl
end Go.Proofs.YtmpgfchkkemngaaGreatDoor
namespace Go.Proofs.YtmpgfchkkemngaaGreatDoor
open Go.RowKit Go.V
open Go.Eng (inR byteAt u8 bH)
variable {g : Gv}
def scL : Bool → Bool × List UInt8 × Bool × Int → List UInt8 → Option (Bool × List UInt8 × Bool × Int)
 | _, st, [] => some st
 | f, (ng, ds, dt, k), c :: r =>
  if f = true ∧ c = 45 then scL false (true, ds, dt, k) r
  else if c = 46 ∧ dt = false then scL false (ng, ds, true, k) r
  else if bA c = true then scL false (ng, ds ++ [c], dt, if dt then k + 1 else k) r
  else none
theorem aBG (l r : List UInt8) (h : l.all bA = true) (hl : 0 < l.length) (f ng : Bool) (ds : List UInt8) (dt : Bool) (k : Int) :
  scL f (ng, ds, dt, k) (l ++ r) = scL false (ng, ds ++ l, dt, if dt then k + l.length else k) r := by
 induction l generalizing f ds k with
 | nil => simp at hl
 | cons c l ih =>
  rw [List.all_cons, Bool.and_eq_true] at h
  have hc := aFO h.1
  rw [List.cons_append, scL, if_neg (fun x => hc.1 x.2), if_neg (fun x => hc.2 x.1), if_pos h.1]
  cases l with
  | nil => cases dt <;> simp
  | cons d l =>
   rw [ih h.2 (by simp)]
   cases dt
   simp
   simp only [if_true, List.append_assoc, List.singleton_append, List.length_cons]
   congr 4; push_cast; omega
theorem aBF {n s : Int} (h : cZ n s = true) : scL true (false, [], false, 0) (bU n s) = some (decide (n < 0), eK n.natAbs s.toNat, decide (¬ s = 0), s) := by
 have h0 := (fG h).1
 have key : ∀ f ng, scL f (ng, [], false, 0) (mP n.natAbs s.toNat) = some (ng, eK n.natAbs s.toNat, decide (¬ s = 0), s) := by
  intro f ng
  have hd := (jZ n.natAbs s.toNat).2
  rw [iC, List.all_append, Bool.and_eq_true] at hd
  rw [vP, aBG _ _ hd.1 (l8 _), iC]
  by_cases hs : s = 0
  subst hs
  simp [scL, mA]
  have hs' : ¬ s.toNat = 0 := by omega
  have e : (mA s.toNat n.natAbs) = mA s.toNat n.natAbs ++ [] := by simp
  rw [if_neg hs', scL, if_neg (by decide), if_pos ⟨rfl, rfl⟩, e, aBG _ _ hd.2 (by rw [gZ]; omega), scL]
  simp only [List.append_nil, List.nil_append, if_true, gZ, hs, not_false_eq_true, decide_true, Bool.false_eq_true, if_false]
  congr 4; omega
 rw [kD h0]
 by_cases hn : n < 0
 rw [if_pos hn, List.singleton_append, scL, if_pos ⟨rfl, rfl⟩, key]; simp [hn]
 rw [if_neg hn, List.nil_append, key]; simp [hn]
theorem aKK {f : Bool} {w : List UInt8} {i : Nat} (hi : i < w.length) (ng : Bool) (ds : List UInt8) (dt : Bool) (k : Int) :
    scL f (ng, ds, dt, k) (w.drop i) =
      (if f = true ∧ w.getD i 0 = 45 then scL false (true, ds, dt, k) (w.drop (i + 1))
       else if w.getD i 0 = 46 ∧ dt = false then scL false (ng, ds, true, k) (w.drop (i + 1))
       else if bA (w.getD i 0) = true then scL false (ng, ds ++ [w.getD i 0], dt, if dt then k + 1 else k) (w.drop (i + 1))
       else none) := by
  have e : w.drop i = w.getD i 0 :: w.drop (i + 1) := by
    rw [List.getD_eq_getElem?_getD, List.getElem?_eq_getElem hi]; exact List.drop_eq_getElem_cons hi
  rw [e, scL]
theorem at_eq {w : List UInt8} {i : Nat} {c : UInt8} : (byteAt (S w) (i : Int) = (c.toNat : Int)) = (w.getD i 0 = c) := by
 have e := cO w (i : Int)
 rw [Int.toNat_natCast] at e
 rw [e]
 apply propext
 constructor
 intro h; exact UInt8.toNat_inj.1 (by omega)
 rintro h; rw [h]
theorem aJT {w : List UInt8} {i : Nat} : (byteAt (S w) (i : Int) = 45) = (w.getD i 0 = 45) := at_eq (c := 45)
theorem at46 {w : List UInt8} {i : Nat} : (byteAt (S w) (i : Int) = 46) = (w.getD i 0 = 46) := at_eq (c := 46)
theorem aN1 {w : List UInt8} {i : Nat} : bA (w.getD i 0) = decide (48 ≤ byteAt (S w) (i : Int) ∧ byteAt (S w) (i : Int) ≤ 57) := by
 have e := cO w (i : Int)
 rw [Int.toNat_natCast] at e
 rw [e, bA]
 apply Bool.eq_iff_iff.2
 simp only [Bool.and_eq_true, decide_eq_true_eq]; omega
theorem aNE {l : List UInt8} (h : l.all bA = true) {k : Nat} (hk : k < l.length) : IntKind.wrap .i64 (IntKind.wrap .u8 (byteAt (S l) (k : Int) - 48)) = (((l.getD k 0).toNat - 48 : Nat) : Int) := by
 have := sO h hk
 exact (pP (by omega) (by omega)).2
theorem nb_dval {l : List UInt8} (h : l.all bA = true) : (nb (cQ l)).length ≤ l.length :=
 gJ (Nat.lt_of_lt_of_le (sL h) (Nat.pow_le_pow_left (by decide) _))
theorem nb_lt (n : Nat) : n < 256 ^ (nb n).length := by
 rcases Nat.lt_or_ge n (256 ^ (nb n).length) with h | h
 exact h
 have := qR h; omega
theorem nb_mul1 (m : Nat) : (nb (m * 10)).length ≤ (nb m).length + 1 :=
 gJ (by have := nb_lt m; rw [Nat.pow_succ]; omega)
theorem aLL (x : Int) (n : Nat) (h : x = n) (hn : n ≤ 1000) : SpG g 136 [.c (cI x)] [] (.c (cS (S (nb n)))) [] := by
 subst h; exact lH _ ⟨by omega, by omega⟩
theorem tO (w : List UInt8) (hw : w.length ≤ 100000000) :
  SpG g 94 [.c (cS (S w))] [] (y6 (iZ w) (iY w) (gH w)) [] := by
 refine aG 94 Tryz.func94 (by kernel_rfl) fun fr hG => ?_
 refine zL hG [] [0, 1, 0, 1, 1, 1, 1] (fun (zz : Nat × Bool × List UInt8 × ByteArray × Bool × Int) => match zz with | (i, ng, ds, dv, dt, sc) => (w.length - i, ⟨[zS 0 (S w), zX 2 100 0, zB 3 false, zX 4 201 0, zS 5 dv, zB 6 dt, zI 7 (i : Int)], [(100, .box 26 [cI 0, cI 0]), (201, .box 123 [cB ng, cS (S []), cI sc])]⟩, dv = S ds ∧ i ≤ w.length ∧ ds.length ≤ i ∧ 0 ≤ sc ∧ sc ≤ i ∧ ds.all bA = true ∧ scL true (false, [], false, 0) w = scL (decide (i = 0)) (ng, ds, dt, sc) (w.drop i))) (0, false, [], S [], false, 0) aA ?_ ?_
 exact ⟨rfl, Nat.zero_le _, Nat.le_refl _, Int.le_refl _, Int.le_refl _, rfl, rfl⟩
 rintro ⟨i, ng, ds, dv, dt, sc⟩ ⟨hdv, hi, hdl, hs0, hs1, hda, hsc⟩
 have hds : dv.size = ds.length := by rw [hdv, aF]
 have hst : i < w.length → _ := fun h => aKK (f := decide (i = 0)) h ng ds dt sc
 refine zc hG [] [1, 0] (decide (((i : Int) : Int) < ((S w).size : Int))) aA (fun hc2 => ?_) (fun hc2 => ?_)
 (try simp only [eR] at hc2)
 refine zc hG [] [1, 0, 0, 0, 1] ((decide (((i : Int) : Int) = 0)) && (decide ((byteAt (S w) (i : Int) : Int) = 45))) (aB (by intros; (try simp only [jN, ByteArray.size_append, ByteArray.size_extract] at *); first | omega | decide | (unfold inR; omega) : (decide (((i : Int) : Int) = 0)) = true → (0 : Int) ≤ (i : Int) ∧ (i : Int) < ((S w).size : Int))) (fun hc3 => ?_) (fun hc3 => ?_)
 (try simp only [eR] at hc3)
 have h45 : (decide (i = 0) = true ∧ w.getD i 0 = 45) := by rw [decide_eq_true_eq, ← aJT]; omega
 refine zD hG [] (i + 1, true, ds, dv, dt, sc) (aB (by intros; (try simp only [jN, ByteArray.size_append, ByteArray.size_extract] at *); first | omega | decide | (unfold inR; omega) : inR ((i : Int) + 1))) ?_ ?_
 (try dsimp only); omega
 refine ⟨?_, by omega, by (try simp only [dB]); omega, by omega, by omega, ?_, ?_⟩
 first | exact hdv | (rw [hdv, dX (by omega), bI])
 first | exact hda | (rw [List.all_append, hda]; simp only [List.all_cons, List.all_nil, hdg]; rfl)
 have hz : decide (i + 1 = 0) = false := by simp
 rw [hsc, hst (by omega), hz]
 first | rw [if_pos h45] | rw [if_neg h45, if_pos h46] | (rw [if_neg h45, if_neg h46, if_pos hdg]; simp only [hdt, if_true, Bool.false_eq_true, if_false])
 (try simp only [eR] at hc3)
 have h45 : ¬ (decide (i = 0) = true ∧ w.getD i 0 = 45) := by rw [decide_eq_true_eq, ← aJT]; omega
 refine zc hG [] [1, 1, 1, 0, 0, 0, 1] ((decide ((byteAt (S w) (i : Int) : Int) = 46)) && !dt) (aB (by intros; (try simp only [jN, ByteArray.size_append, ByteArray.size_extract] at *); first | omega | decide | (unfold inR; omega) : (0 : Int) ≤ (i : Int) ∧ (i : Int) < ((S w).size : Int))) (fun hc4 => ?_) (fun hc4 => ?_)
 (try simp only [eR] at hc4)
 have h46 : w.getD i 0 = 46 ∧ dt = false := by rw [← at46]; exact hc4
 refine zD hG [] (i + 1, ng, ds, dv, true, sc) (aB (by intros; (try simp only [jN, ByteArray.size_append, ByteArray.size_extract] at *); first | omega | decide | (unfold inR; omega) : inR ((i : Int) + 1))) ?_ ?_
 (try dsimp only); omega
 refine ⟨?_, by omega, by (try simp only [dB]); omega, by omega, by omega, ?_, ?_⟩
 first | exact hdv | (rw [hdv, dX (by omega), bI])
 first | exact hda | (rw [List.all_append, hda]; simp only [List.all_cons, List.all_nil, hdg]; rfl)
 have hz : decide (i + 1 = 0) = false := by simp
 rw [hsc, hst (by omega), hz]
 first | rw [if_pos h45] | rw [if_neg h45, if_pos h46] | (rw [if_neg h45, if_neg h46, if_pos hdg]; simp only [hdt, if_true, Bool.false_eq_true, if_false])
 (try simp only [eR] at hc4)
 have h46 : ¬ (w.getD i 0 = 46 ∧ dt = false) := by
  rw [← at46]; rintro ⟨a, b⟩; rcases hc4 with h | h
  exact h a
  rw [b] at h; cases h
 refine zc hG [] [1, 1, 1, 1, 1, 0, 0, 0, 1] ((decide ((byteAt (S w) (i : Int) : Int) ≥ 48)) && (decide ((byteAt (S w) (i : Int) : Int) ≤ 57))) (aC (by intros; (try simp only [jN, ByteArray.size_append, ByteArray.size_extract] at *); first | omega | decide | (unfold inR; omega) : (0 : Int) ≤ (i : Int) ∧ (i : Int) < ((S w).size : Int)) (aB (by intros; (try simp only [jN, ByteArray.size_append, ByteArray.size_extract] at *); first | omega | decide | (unfold inR; omega) : (decide ((byteAt (S w) (i : Int) : Int) ≥ 48)) = true → (0 : Int) ≤ (i : Int) ∧ (i : Int) < ((S w).size : Int)))) (fun hc5 => ?_) (fun hc5 => ?_)
 (try simp only [eR] at hc5)
 have hdg : bA (w.getD i 0) = true := by rw [aN1, decide_eq_true_eq]; omega
 refine zC hG [] [1, 1, 0, 1, 1, 1, 1, 1, 0, 0, 0, 1] (dt) (⟨[zS 0 (S w), zX 2 100 0, zB 3 false, zX 4 201 0, zS 5 (dv ++ ((S w).extract i ((i : Int) + 1 : Int).toNat)), zB 6 dt, zI 7 (i : Int)], [(100, .box 26 [cI 0, cI 0]), (201, .box 123 [cB ng, cS (S []), cI sc])]⟩) (aC (by intros; (try simp only [jN, ByteArray.size_append, ByteArray.size_extract] at *); first | omega | decide | (unfold inR; omega) : inR ((i : Int) + 1)) (aC (by intros; (try simp only [jN, ByteArray.size_append, ByteArray.size_extract] at *); first | omega | decide | (unfold inR; omega) : (0 : Int) ≤ (i : Int) ∧ ((i : Int) : Int) ≤ ((i : Int) + 1) ∧ ((i : Int) + 1) ≤ ((S w).size : Int)) (aB (by intros; (try simp only [jN, ByteArray.size_append, ByteArray.size_extract] at *); first | omega | decide | (unfold inR; omega) : (dv).size + ((S w).extract i ((i : Int) + 1 : Int).toNat).size ≤ maxLen)))) (fun hc6 => ?_) (fun hc6 => ?_)
 (try simp only [eR] at hc6)
 have hdt := hc6
 refine zD hG [] (i + 1, ng, ds ++ [w.getD i 0], dv ++ ((S w).extract i ((i : Int) + 1 : Int).toNat), dt, sc + 1) (aC (by intros; (try simp only [jN, ByteArray.size_append, ByteArray.size_extract] at *); first | omega | decide | (unfold inR; omega) : inR (sc + 1)) (aB (by intros; (try simp only [jN, ByteArray.size_append, ByteArray.size_extract] at *); first | omega | decide | (unfold inR; omega) : inR ((i : Int) + 1)))) ?_ ?_
 (try dsimp only); omega
 refine ⟨?_, by omega, by (try simp only [dB]); omega, by omega, by omega, ?_, ?_⟩
 first | exact hdv | (rw [hdv, dX (by omega), bI])
 first | exact hda | (rw [List.all_append, hda]; simp only [List.all_cons, List.all_nil, hdg]; rfl)
 have hz : decide (i + 1 = 0) = false := by simp
 rw [hsc, hst (by omega), hz]
 first | rw [if_pos h45] | rw [if_neg h45, if_pos h46] | (rw [if_neg h45, if_neg h46, if_pos hdg]; simp only [hdt, if_true, Bool.false_eq_true, if_false])
 (try simp only [eR] at hc6)
 have hdt := hc6
 refine zD hG [] (i + 1, ng, ds ++ [w.getD i 0], dv ++ ((S w).extract i ((i : Int) + 1 : Int).toNat), dt, sc) (aB (by intros; (try simp only [jN, ByteArray.size_append, ByteArray.size_extract] at *); first | omega | decide | (unfold inR; omega) : inR ((i : Int) + 1))) ?_ ?_
 (try dsimp only); omega
 refine ⟨?_, by omega, by (try simp only [dB]); omega, by omega, by omega, ?_, ?_⟩
 first | exact hdv | (rw [hdv, dX (by omega), bI])
 first | exact hda | (rw [List.all_append, hda]; simp only [List.all_cons, List.all_nil, hdg]; rfl)
 have hz : decide (i + 1 = 0) = false := by simp
 rw [hsc, hst (by omega), hz]
 first | rw [if_pos h45] | rw [if_neg h45, if_pos h46] | (rw [if_neg h45, if_neg h46, if_pos hdg]; simp only [hdt, if_true, Bool.false_eq_true, if_false])
 (try simp only [eR] at hc5)
 have hdg : ¬ bA (w.getD i 0) = true := by rw [aN1, decide_eq_true_eq]; omega
 refine zE hG [] .ret (⟨[zS 0 (S w), zX 2 100 0, zB 3 false, zX 4 201 0, zS 5 dv], [(100, .box 26 [cI 0, cI 0]), (201, .box 123 [cB ng, cS (S []), cI sc])]⟩) aA rfl ?_
 refine zR hG [] [] (y8) [] aA ?_ ?_
 have hno : ∀ n s, cZ n s = true → bU n s = w → False := by
  intro n s hb he
  have e := aBF hb
  rw [he, hsc, hst (by omega), if_neg h45, if_neg h46, if_neg hdg] at e
  cases e
 obtain ⟨r1, r2, r3⟩ := nF hno
 rw [r1, r2, r3]
 rfl
 (try simp only [eR] at hc2)
 refine zE hG [] (.exit 0) (⟨[zS 0 (S w), zX 2 100 0, zB 3 false, zX 4 201 0, zS 5 dv], [(100, .box 26 [cI 0, cI 0]), (201, .box 123 [cB ng, cS (S []), cI sc])]⟩) aA rfl ?_
 refine zL hG [] [0, 1, 0, 1, 1, 1, 1, 1] (fun (zz : Nat × Nat) => match zz with | (k, m) => (ds.length - k, ⟨[zS 0 (S w), zX 2 100 0, zB 3 false, zX 4 201 0, zS 5 dv, zI 8 (k : Int)], [(100, .box 26 [cI 0, cI 0]), (201, y7 ng (S (nb m)) sc)]⟩, k ≤ ds.length ∧ m = cQ (ds.take k))) (0, 0) aA ?_ ?_
 exact ⟨Nat.zero_le _, rfl⟩
 rintro ⟨k, m⟩ ⟨hk, hm⟩
 have hdk : (ds.take k).all bA = true := by
  rw [List.all_eq_true]; exact fun x hx => List.all_eq_true.1 hda x (List.mem_of_mem_take hx)
 have hnl := nb_dval hdk
 rw [List.length_take, Nat.min_eq_left hk, ← hm] at hnl
 have hds : dv.size = ds.length := by rw [hdv, aF]
 have hdw : k < ds.length → IntKind.wrap .i64 (IntKind.wrap .u8 (byteAt dv (k : Int) - 48)) = (((ds.getD k 0).toNat - 48 : Nat) : Int) := fun h => by rw [hdv]; exact aNE hda h
 have hdl9 : k < ds.length → (ds.getD k 0).toNat - 48 ≤ 9 := fun h => by have := sO hda h; have e := cO ds (k : Int); rw [Int.toNat_natCast] at e; omega
 have hn9 : k < ds.length → (nb ((ds.getD k 0).toNat - 48)).length ≤ 1 := fun h => gJ (by have := hdl9 h; omega)
 have hnm := nb_mul1 m
 have h10 := aLS
 refine zc hG [] [1, 0] (decide (((k : Int) : Int) < ((dv).size : Int))) aA (fun hc8 => ?_) (fun hc8 => ?_)
 (try simp only [eR] at hc8)
 refine zD hG [(19, 2, kS (S (nb 10))), (19, 3, kS (S (nb (m * 10)))), (19, 9, kS (S (nb ((ds.getD k 0).toNat - 48)))), (19, 10, kS (S (nb ((m * 10) + ((ds.getD k 0).toNat - 48)))))] (k + 1, m * 10 + ((ds.getD k 0).toNat - 48)) (aC (aLL 10 10 rfl (by decide) : SpG g _ _ _ _ _) (aC (aLW m 10 (by omega) (by omega) (by omega) : SpG g _ _ _ _ _) (aC (by intros; (try simp only [jN, ByteArray.size_append, ByteArray.size_extract] at *); first | omega | decide | (unfold inR; omega) : (0 : Int) ≤ (k : Int) ∧ (k : Int) < ((dv).size : Int)) (aC (aLL (IntKind.wrap .i64 (IntKind.wrap .u8 ((byteAt (dv) (k : Int)) - 48))) ((ds.getD k 0).toNat - 48) (hdw (by omega)) (by have := hdl9 (by omega); omega) : SpG g _ _ _ _ _) (aC (aAT (m * 10) ((ds.getD k 0).toNat - 48) (by omega) (by omega) : SpG g _ _ _ _ _) (aB (by intros; (try simp only [jN, ByteArray.size_append, ByteArray.size_extract] at *); first | omega | decide | (unfold inR; omega) : inR ((k : Int) + 1)))))))) ?_ ?_
 (try dsimp only); omega
 exact ⟨by omega, by rw [nD (by omega), hm, Nat.mul_comm]⟩
 (try simp only [eR] at hc8)
 refine zE hG [] (.exit 3) (⟨[zS 0 (S w), zX 2 100 0, zB 3 false, zX 4 201 0], [(100, .box 26 [cI 0, cI 0]), (201, y7 ng (S (nb m)) sc)]⟩) aA rfl ?_
 refine zC hG [(20, 1, kC (y6 (d9 (ng) m sc) (d8 m sc) (eF m sc))), (21, 4, kS (S (bU (d9 (ng) m sc) (d8 m sc))))] [1, 0, 1, 1, 1, 1, 1, 1, 1] ((!(eF m sc)) || (!((S (bU (d9 (ng) m sc) (d8 m sc))).toList == (S w).toList))) (⟨[zX 2 100 0, zB 3 false, zX 9 2105 0], [(100, .box 26 [cI 0, cI 0]), (2105, .box 26 [cI (d9 (ng) m sc), cI (d8 m sc)])]⟩) (aC (aMO (ng) m sc (by omega) (by omega) (by omega) : SpG g _ _ _ _ _) (aB (fun (hg1 : (!(eF m sc)) = false) => (nW (d9 (ng) m sc) (d8 m sc) (gL _ _ _) : SpG g _ _ _ _ _)))) (fun hc9 => ?_) (fun hc9 => ?_)
 (try simp only [eR] at hc9)
 refine zR hG [] [] (y8) [] aA ?_ ?_
 have hno : ∀ n s, cZ n s = true → bU n s = w → False := by
  intro n s hb he
  have e := aBF hb
  rw [he, hsc, show w.drop i = [] from List.drop_eq_nil_iff.2 (by omega), scL] at e
  obtain ⟨e1, e2, e3, e4⟩ : ng = decide (n < 0) ∧ ds = eK n.natAbs s.toNat ∧ dt = decide (¬ s = 0) ∧ sc = s := by
   simp only [Option.some.injEq, Prod.mk.injEq] at e; exact e
  have hmm : m = n.natAbs := by rw [hm, List.take_of_length_le (by omega), e2, (jZ _ _).1]
  obtain ⟨f1, f2, f3⟩ := aC3 hb
  rw [e1, hmm, e4, f1, f2, f3] at hc9
  rcases hc9 with h | h
  cases h
  exact h he
 obtain ⟨r1, r2, r3⟩ := nF hno
 rw [r1, r2, r3]
 rfl
 (try simp only [eR] at hc9)
 refine zR hG [] [] (y9 (d9 (ng) m sc) (d8 m sc)) [] aA ?_ ?_
 obtain ⟨r1, r2, r3⟩ := mJ (gL _ _ _) (hc9.2)
 rw [r1, r2, r3]
 rfl
end Go.Proofs.YtmpgfchkkemngaaGreatDoor
namespace Go.Proofs.YtmpgfchkkemngaaGreatDoor
open Go.RowKit Go.V
open Go.Eng (inR byteAt u8 bH)
variable {g : Gv}
noncomputable def eG (w : List UInt8) : Bool := decide (0 ≤ oO w ∧ oO w ≤ 3652058) && decide (aR (oO w) = w)
noncomputable def eZ (w : List UInt8) : Int := if eG w then oO w else 0
theorem nG {n : Int} {w : List UInt8} (h0 : 0 ≤ n) (h1 : n ≤ 3652058) (e : aR n = w) : eG w = true ∧ eZ w = n := by
 have hp := xU h0 h1
 rw [e] at hp
 have hk : eG w = true := by rw [eG, hp]; simp [h0, h1, e]
 exact ⟨hk, by rw [eZ, if_pos hk, hp]⟩
theorem kE {w : List UInt8} (h : ∀ n, 0 ≤ n → n ≤ 3652058 → aR n = w → False) : eG w = false ∧ eZ w = 0 := by
 have hk : eG w = false := by
  cases hb : eG w with
  | false => rfl
  | true =>
   simp only [eG, Bool.and_eq_true, decide_eq_true_eq] at hb
   exact (h _ hb.1.1 hb.1.2 hb.2).elim
 exact ⟨hk, by rw [eZ, hk]; rfl⟩
theorem oN {n : Int} {w : List UInt8} (h0 : 0 ≤ n) (h1 : n ≤ 3652058) (e : aR n = w) :
  w = w.take 4 ++ 45 :: ((w.drop 5).take 2 ++ 45 :: w.drop 8) ∧ w.length = 10 ∧ (w.take 4).all bA = true ∧ ((w.drop 5).take 2).all bA = true ∧ (w.drop 8).all bA = true ∧
  (cQ (w.take 4) : Int) = (civ n).1 ∧ (cQ ((w.drop 5).take 2) : Int) = (civ n).2.1 ∧ (cQ (w.drop 8) : Int) = (civ n).2.2 := by
 obtain ⟨a, b, c, d, e', f⟩ := oQ h0 h1
 have ly := fF (x := (civ n).1) (k := 4) (by omega) (.inr ⟨rfl, by omega⟩)
 have lm := fF (x := (civ n).2.1) (k := 2) (by omega) (.inl ⟨rfl, by omega⟩)
 have ld := fF (x := (civ n).2.2) (k := 2) (by omega) (.inl ⟨rfl, by omega⟩)
 have vy := dF (x := (civ n).1) (k := 4) (by omega) (by omega) (by decide)
 have vm := dF (x := (civ n).2.1) (k := 2) (by omega) (by omega) (by decide)
 have vd := dF (x := (civ n).2.2) (k := 2) (by omega) (by omega) (by decide)
 have hT : w = cY 5 (civ n).1 4 [] ++ [45] ++ cY 5 (civ n).2.1 2 [] ++ [45] ++ cY 5 (civ n).2.2 2 [] := e.symm
 generalize cY 5 (civ n).1 4 [] = Y at *
 generalize cY 5 (civ n).2.1 2 [] = M at *
 generalize cY 5 (civ n).2.2 2 [] = X at *
 have e1 : w.take 4 = Y := by rw [hT]; simp [List.take_append, ly]
 have e2 : (w.drop 5).take 2 = M := by rw [hT]; simp [List.drop_append, List.take_append, ly, lm]
 have e3 : w.drop 8 = X := by
  have l1 : Y.length = 4 := ly
  have l2 : M.length = 2 := lm
  rw [hT, List.drop_left' (by simp [l1, l2])]
 rw [e1, e2, e3]
 refine ⟨by rw [hT]; simp, by rw [hT]; simp [ly, lm, ld], vy.2, vm.2, vd.2, by rw [vy.1]; omega, by rw [vm.1]; omega, by rw [vd.1]; omega⟩
theorem uV : ∀ {a b : List UInt8}, a.length = b.length → a.all bA = true → b.all bA = true → cQ a = cQ b → a = b := by
 intro a
 induction a using o8 with
 | h0 => intro b hl _ _ _; exact (List.length_eq_zero_iff.1 (by simpa using hl.symm)).symm
 | h1 a x ih =>
  intro b
  induction b using o8 with
  | h0 => intro hl; simp at hl
  | h1 b y _ =>
   intro hl ha hb hv
   rw [List.all_append, Bool.and_eq_true] at ha hb
   have hx := ha.2
   have hy := hb.2
   simp only [List.all_cons, List.all_nil, bA, Bool.and_true, Bool.and_eq_true, decide_eq_true_eq] at hx hy
   rw [j9, j9] at hv
   have e1 : x = y := UInt8.toNat_inj.1 (by omega)
   rw [ih (by simpa using hl) ha.1 hb.1 (by omega), e1]
theorem aJJ {w : List UInt8} (hl : w.length = 10) (h4 : w.getD 4 0 = 45) (h7 : w.getD 7 0 = 45) (hy : (w.take 4).all bA = true) (hm : ((w.take 7).drop 5).all bA = true) (hd : (w.drop 8).all bA = true)
  (hv : vld (cQ (w.take 4)) (cQ ((w.take 7).drop 5)) (cQ (w.drop 8))) : aR (eO (cQ (w.take 4)) (cQ ((w.take 7).drop 5)) (cQ (w.drop 8))) = w := by
 have hvv := hv
 obtain ⟨a, b, c, d, e, f⟩ := hv
 have hdi := iF (cQ (w.take 4)) (cQ ((w.take 7).drop 5))
 rw [aR, vB hvv rfl]
 have ly := fF (x := (cQ (w.take 4) : Int)) (k := 4) (by omega) (.inr ⟨rfl, by omega⟩)
 have lm := fF (x := (cQ ((w.take 7).drop 5) : Int)) (k := 2) (by omega) (.inl ⟨rfl, by omega⟩)
 have ld := fF (x := (cQ (w.drop 8) : Int)) (k := 2) (by omega) (.inl ⟨rfl, by omega⟩)
 have vy := dF (x := (cQ (w.take 4) : Int)) (k := 4) (by omega) (by omega) (by decide)
 have vm := dF (x := (cQ ((w.take 7).drop 5) : Int)) (k := 2) (by omega) (by omega) (by decide)
 have vd := dF (x := (cQ (w.drop 8) : Int)) (k := 2) (by omega) (by omega) (by decide)
 rw [uV (by rw [ly]; simp [hl]) vy.2 hy (by rw [vy.1, Int.toNat_natCast]), uV (by rw [lm]; simp [hl]) vm.2 hm (by rw [vm.1, Int.toNat_natCast]), uV (by rw [ld]; simp [hl]) vd.2 hd (by rw [vd.1, Int.toNat_natCast])]
 match w, hl with
 | [c0, c1, c2, c3, c4, c5, c6, c7, c8, c9], _ =>
  simp only [List.getD_cons_succ, List.getD_cons_zero] at h4 h7
  subst h4; subst h7; rfl
theorem aGX {y m d : Int} (h : vld y m d) : 0 ≤ eO y m d ∧ eO y m d ≤ 3652058 := by
 obtain ⟨a, b, c, d1, e, f⟩ := h
 have h1 := oM y a (by omega)
 have h2 := i6 y 1 m (by omega) c
 have h3 := i6 y (m + 1) 13 (by omega) (by omega)
 have h4 := mL y a
 have h5 := oM (y + 1) (by omega) (by omega)
 have h6 := eM y m c
 rw [u5] at h2
 rw [rE] at h3
 unfold eO; omega
def eD (l : List UInt8) : Int := if l.all bA then (cQ l : Int) else 0
theorem numR_nn (l : List UInt8) : 0 ≤ eD l := by unfold eD; split <;> omega
theorem iD {l : List UInt8} (h : l.all bA = true) : eD l = (cQ l : Int) := by rw [eD, h]; rfl
theorem take7 (w : List UInt8) : (w.take 7).drop 5 = (w.drop 5).take 2 := by rw [List.drop_take]
theorem aCX {a b : List UInt8} {c : UInt8} {k : Nat} (h : a.length = k) : (a ++ c :: b).getD k 0 = c := by
 subst h; simp
theorem aJK {w : List UInt8} (p0 : w = w.take 4 ++ 45 :: ((w.drop 5).take 2 ++ 45 :: w.drop 8)) (p1 : w.length = 10) : w.getD 4 0 = 45 ∧ w.getD 7 0 = 45 := by
 have e : w.take 4 ++ 45 :: ((w.drop 5).take 2 ++ 45 :: w.drop 8) = (w.take 4 ++ 45 :: ((w.drop 5).take 2)) ++ 45 :: w.drop 8 := by simp
 have q := p0.trans e
 exact ⟨(congrArg (fun x => List.getD x 4 0) p0).trans (aCX (by simp [p1])), (congrArg (fun x => List.getD x 7 0) q).trans (aCX (by simp [p1]))⟩
theorem at4 {w : List UInt8} (h : byteAt (S w) 4 = 45) : w.getD 4 0 = 45 := Eq.mp (aJT (w := w) (i := 4)) h
theorem at7 {w : List UInt8} (h : byteAt (S w) 7 = 45) : w.getD 7 0 = 45 := Eq.mp (aJT (w := w) (i := 7)) h
theorem at4' {w : List UInt8} (h : w.getD 4 0 = 45) : byteAt (S w) 4 = 45 := Eq.mpr (aJT (w := w) (i := 4)) h
theorem at7' {w : List UInt8} (h : w.getD 7 0 = 45) : byteAt (S w) 7 = 45 := Eq.mpr (aJT (w := w) (i := 7)) h
theorem aHU (y m d : Int) :
  SpG g 231 [.c (cI y), .c (cI m), .c (cI d)] [] (.c (cB (eT y m d))) [] := by
 refine aG 30 Tryz.func231 (by kernel_rfl) fun fr hG => ?_
 refine zC hG [] [1, 0, 1] ((((decide ((y : Int) < 1)) || (decide ((y : Int) > 9999))) || (decide ((m : Int) < 1))) || (decide ((m : Int) > 12))) (⟨[zI 0 y, zI 1 m, zI 2 d, zB 6 false], []⟩) aA (fun hc1 => ?_) (fun hc1 => ?_)
 (try simp only [blS] at hc1)
 refine zR hG [] [] (.c (cB false)) [] aA ?_ ?_
 ·first | rfl | (show SV.c (C.d (D.b _)) = SV.c (C.d (D.b _)); congr 3; simp only [eT]; rw [Bool.eq_iff_iff]; simp; done) | (show SV.c (C.d (D.b _)) = SV.c (C.d (D.b _)); congr 3; simp only [eT]; rw [Bool.eq_iff_iff]; simp; omega)
 rfl
 (try simp only [blS] at hc1)
 refine zR hG [(3, 6, kI (dI y m))] [] (.c (cB ((decide ((d : Int) ≥ 1)) && (decide ((d : Int) ≤ (dI y m)))))) [] (aB (fun (hg1 : (decide ((d : Int) ≥ 1)) = true) => (pX y m (by omega) (by omega) (by omega) : SpG g _ _ _ _ _))) ?_ ?_
 ·first | rfl | (show SV.c (C.d (D.b _)) = SV.c (C.d (D.b _)); congr 3; simp only [eT]; rw [Bool.eq_iff_iff]; simp; done) | (show SV.c (C.d (D.b _)) = SV.c (C.d (D.b _)); congr 3; simp only [eT]; rw [Bool.eq_iff_iff]; simp; omega)
 rfl
theorem yQ (y m d : Int) (h0 : 0 ≤ y) :
  SpG g 182 [.c (cI y), .c (cI m), .c (cI d)] [] (.c (cB (eT y m d))) [] := by
 refine aG 32 Tryz.func182 (by kernel_rfl) fun fr hG => ?_
 refine zR hG [(1, 22, kI (dI y m))] [] (.c (cB ((((((decide ((y : Int) ≥ 1)) && (decide ((y : Int) ≤ 9999))) && (decide ((m : Int) ≥ 1))) && (decide ((m : Int) ≤ 12))) && (decide ((d : Int) ≥ 1))) && (decide ((d : Int) ≤ (dI y m)))))) [] (aB (fun (hg1 : (((((decide ((y : Int) ≥ 1)) && (decide ((y : Int) ≤ 9999))) && (decide ((m : Int) ≥ 1))) && (decide ((m : Int) ≤ 12))) && (decide ((d : Int) ≥ 1))) = true) => (jJ y m (by omega) : SpG g _ _ _ _ _))) ?_ ?_
 ·first | rfl | (show SV.c (C.d (D.b _)) = SV.c (C.d (D.b _)); congr 3; simp only [eT]; rw [Bool.eq_iff_iff]; simp; done) | (show SV.c (C.d (D.b _)) = SV.c (C.d (D.b _)); congr 3; simp only [eT]; rw [Bool.eq_iff_iff]; simp; omega)
 rfl
theorem aE0 (y m d : Int) (h1 : 1 ≤ y) (h2 : y ≤ 9999) (h3 : 1 ≤ m) (h4 : m ≤ 12) (h5 : 1 ≤ d) (h6 : d ≤ 31) :
  SpG g 232 [.c (cI y), .c (cI m), .c (cI d)] [] (.c (cI (eO y m d))) [] := by
 have hdb := oM y h1 (by omega)
 refine aG 25 Tryz.func232 (by kernel_rfl) fun fr hG => ?_
 refine zL hG [(1, 1, kI (dby y))] [0, 1, 0, 1, 1] (fun (zz : Int × Int) => match zz with | (t, k) => ((m - k).toNat, ⟨[zI 0 y, zI 1 m, zI 6 0, zI 7 t, zI 8 k], []⟩, 1 ≤ k ∧ k ≤ m ∧ t = dby y + d - 1 + cum y k)) (dby y + d - 1, 1) (aC (oR y (by omega) (by omega) : SpG g _ _ _ _ _) (aC (by intros; first | omega | decide | (simp only [zq0] at *; omega) : inR ((dby y) + d)) (aB (by intros; first | omega | decide | (simp only [zq0] at *; omega) : inR (((dby y) + d) - 1))))) ?_ ?_
 exact ⟨by omega, by omega, by rw [u5]; omega⟩
 rintro ⟨t, k⟩ ⟨hk1, hk2, ht⟩
 have hcb := u4 y k hk1 (by omega)
 have hdl := iF y k
 have hcs := eM y k hk1
 refine zp hG [] [1, 0] ((k : Int) < m) aA (fun hc2 => ?_) (fun hc2 => ?_)
 skip
 refine zD hG [(5, 3, kI (dI y k))] (t + dI y k, k + 1) (aC (pX y k (by omega) (by omega) (by omega) : SpG g _ _ _ _ _) (aC (by intros; first | omega | decide | (simp only [zq0] at *; omega) : inR (t + (dI y k))) (aB (by intros; first | omega | decide | (simp only [zq0] at *; omega) : inR (k + 1))))) ?_ ?_
 (try dsimp only); omega
 exact ⟨by omega, by omega, by omega⟩
 skip
 refine zE hG [] (.exit 0) (⟨[zI 6 0, zI 7 t], []⟩) aA rfl ?_
 refine zR hG [] [] (.c (cI t)) [] aA ?_ ?_
 obtain rfl : k = m := by omega
 rw [ht]; rfl
 rfl
theorem aC8 (y m d : Int) :
  SpG g 225 [.c (cI y), .c (cI m), .c (cI d)] [] (y2 (if eT y m d then eO y m d else 0) (eT y m d)) [] := by
 refine aG 17 Tryz.func225 (by kernel_rfl) fun fr hG => ?_
 refine zC hG [(1, 3, kB (eT y m d))] [1, 0, 1] (!(eT y m d)) (⟨[zI 0 y, zI 1 m, zI 2 d, zI 6 0, zB 7 false], []⟩) (aB (aHU y m d : SpG g _ _ _ _ _)) (fun hc1 => ?_) (fun hc1 => ?_)
 (try simp only [blS] at hc1)
 refine zR hG [] [] (y3) [] aA ?_ ?_
 rw [hc1]; rfl
 rfl
 (try simp only [blS] at hc1)
 have hv := yE hc1
 have hdl := iF y m
 refine zR hG [(3, 3, kI (eO y m d))] [] (y4 (eO y m d)) [] (aB (aE0 y m d hv.1 hv.2.1 hv.2.2.1 hv.2.2.2.1 hv.2.2.2.2.1 (by have := hv.2.2.2.2.2; omega) : SpG g _ _ _ _ _)) ?_ ?_
 rw [hc1]; rfl
 rfl
theorem vW (y m d : Int) (h0 : 0 ≤ y) :
  SpG g 153 [.c (cI y), .c (cI m), .c (cI d)] [] (y2 (if eT y m d then eO y m d else 0) (eT y m d)) [] := by
 refine aG 33 Tryz.func153 (by kernel_rfl) fun fr hG => ?_
 refine zC hG [(1, 3, kB (eT y m d))] [1, 0, 1, 1] (!(eT y m d)) (⟨[zI 0 y, zI 1 m, zI 2 d, zI 6 0, zB 7 false], []⟩) (aB (yQ y m d (by omega) : SpG g _ _ _ _ _)) (fun hc1 => ?_) (fun hc1 => ?_)
 (try simp only [blS] at hc1)
 refine zR hG [] [] (y3) [] aA ?_ ?_
 rw [hc1]; rfl
 rfl
 (try simp only [blS] at hc1)
 have hv := yE hc1
 obtain ⟨g1, g2, g3, g4, g5, g6⟩ := hv
 have hdl := iF y m
 have hdb := oM y g1 (by omega)
 refine zL hG [(4, 1, kI (dby y))] [0, 1, 0, 1, 1, 1, 1] (fun (zz : Int × Int) => match zz with | (t, k) => ((m - k).toNat, ⟨[zI 0 y, zI 1 m, zI 6 0, zB 7 false, zI 9 t, zI 10 k], []⟩, 1 ≤ k ∧ k ≤ m ∧ t = dby y + d - 1 + cum y k)) (dby y + d - 1, 1) (aC (kT y (by omega) (by omega) : SpG g _ _ _ _ _) (aC (by intros; first | omega | decide | (simp only [zq0] at *; omega) : inR ((dby y) + d)) (aB (by intros; first | omega | decide | (simp only [zq0] at *; omega) : inR (((dby y) + d) - 1))))) ?_ ?_
 exact ⟨by omega, by omega, by rw [u5]; omega⟩
 rintro ⟨t, k⟩ ⟨hk1, hk2, ht⟩
 have hcb := u4 y k hk1 (by omega)
 have hdl2 := iF y k
 have hcs := eM y k hk1
 refine zp hG [] [1, 0] ((k : Int) < m) aA (fun hc3 => ?_) (fun hc3 => ?_)
 skip
 refine zD hG [(8, 3, kI (dI y k))] (t + dI y k, k + 1) (aC (jJ y k (by omega) : SpG g _ _ _ _ _) (aC (by intros; first | omega | decide | (simp only [zq0] at *; omega) : inR (t + (dI y k))) (aB (by intros; first | omega | decide | (simp only [zq0] at *; omega) : inR (k + 1))))) ?_ ?_
 (try dsimp only); omega
 exact ⟨by omega, by omega, by omega⟩
 skip
 refine zE hG [] (.exit 0) (⟨[zI 6 0, zB 7 false, zI 9 t], []⟩) aA rfl ?_
 refine zR hG [] [] (y4 t) [] aA ?_ ?_
 obtain rfl : k = m := by omega
 rw [hc1, ht]; rfl
 rfl
theorem wU (l : List UInt8) (hl : l.length ≤ 4) :
  SpG g 152 [.c (cS (S l))] [] (y2 (eD l) (l.all bA && decide (0 < l.length))) [] := by
 refine aG 39 Tryz.func152 (by kernel_rfl) fun fr hG => ?_
 refine zL hG [] [0, 1, 0, 1, 1] (fun (zz : Nat × Int) => match zz with | (k, v) => (l.length - k, ⟨[zS 0 (S l), zI 2 0, zB 3 false, zI 4 v, zI 5 (k : Int)], []⟩, k ≤ l.length ∧ (l.take k).all bA = true ∧ v = (cQ (l.take k) : Int))) (0, 0) aA ?_ ?_
 exact ⟨Nat.zero_le _, rfl, rfl⟩
 rintro ⟨k, v⟩ ⟨hk, hd, hv⟩
 have hdl := sL hd
 rw [List.length_take, Nat.min_eq_left hk] at hdl
 have hp : 10 ^ k ≤ 10 ^ 4 := Nat.pow_le_pow_right (by decide) (by omega)
 have hcl : ∀ b : UInt8, bA b = true → 0 ≤ (b.toNat : Int) - 48 ∧ b.toNat - 48 ≤ 9 := by intro b hb; simp only [bA, Bool.and_eq_true, decide_eq_true_eq] at hb; omega
 refine zc hG [] [1, 0] (decide (((k : Int) : Int) < ((S l).size : Int))) aA (fun hc2 => ?_) (fun hc2 => ?_)
 (try simp only [eS] at hc2)
 refine zc hG [] [1, 0, 0, 0, 1] ((decide ((byteAt (S l) (k : Int) : Int) < 48)) || (decide ((byteAt (S l) (k : Int) : Int) > 57))) (aC (by intros; (try simp only [aF] at *); first | omega | decide | (simp only [inR] at *; omega) : (0 : Int) ≤ (k : Int) ∧ (k : Int) < ((S l).size : Int)) (aB (by intros; (try simp only [aF] at *); first | omega | decide | (simp only [inR] at *; omega) : (decide ((byteAt (S l) (k : Int) : Int) < 48)) = false → (0 : Int) ≤ (k : Int) ∧ (k : Int) < ((S l).size : Int)))) (fun hc3 => ?_) (fun hc3 => ?_)
 (try simp only [eS] at hc3)
 refine zE hG [] .ret (⟨[zS 0 (S l), zI 2 0, zB 3 false, zI 4 v], []⟩) aA rfl ?_
 refine zR hG [] [] (y3) [] aA ?_ ?_
 have hno : l.all bA = false := by
  cases hb : l.all bA with
  | false => rfl
  | true => have := sO (k := k) hb (by omega); exfalso; omega
 rw [eD, hno]; rfl
 rfl
 (try simp only [eS] at hc3)
 obtain ⟨q1, q2⟩ := pP (l := l) (k := k) (by omega) (by omega)
 have q3 := hcl _ q1
 refine zD hG [] (k + 1, 10 * v + IntKind.wrap .i64 (IntKind.wrap .u8 (byteAt (S l) (k : Int) - 48))) (aC (by intros; (try simp only [aF] at *); first | omega | decide | (simp only [inR] at *; omega) : inR (10 * v)) (aC (by intros; (try simp only [aF] at *); first | omega | decide | (simp only [inR] at *; omega) : (0 : Int) ≤ (k : Int) ∧ (k : Int) < ((S l).size : Int)) (aC (by intros; (try simp only [aF] at *); first | omega | decide | (simp only [inR] at *; omega) : inR ((10 * v) + (IntKind.wrap .i64 (IntKind.wrap .u8 ((byteAt (S l) (k : Int)) - 48))))) (aB (by intros; (try simp only [aF] at *); first | omega | decide | (simp only [inR] at *; omega) : inR ((k : Int) + 1)))))) ?_ ?_
 (try dsimp only); omega
 refine ⟨by omega, vK (by omega) hd q1, ?_⟩
 rw [q2, nD (by omega), hv]; push_cast; omega
 (try simp only [eS] at hc2)
 refine zE hG [] (.exit 0) (⟨[zS 0 (S l), zI 2 0, zB 3 false, zI 4 v], []⟩) aA rfl ?_
 refine zR hG [] [] (y2 v ((decide ((((S l).size : Int) : Int) > 0)) && (decide ((((S l).size : Int) : Int) < 5)))) [] aA ?_ ?_
 rw [List.take_of_length_le (by omega)] at hd hv
 rw [eD, hd, hv]; simp only [aF, if_true, Bool.true_and]
 have e : (decide ((l.length : Int) > 0) && decide ((l.length : Int) < 5)) = decide (0 < l.length) := by rw [Bool.eq_iff_iff]; simp; omega
 rw [e]
 rfl
theorem tN (w : List UInt8) (a b : Nat) (h : b ≤ a + 4) : SpG g 152 [.c (cS ((S w).extract a b))] [] (y2 (eD ((w.take b).drop a)) (((w.take b).drop a).all bA && decide (0 < ((w.take b).drop a).length))) [] := by
 rw [jG]; exact wU _ (by simp; omega)
theorem aBW (w : List UInt8) (a : Nat) (h : w.length ≤ a + 4) : SpG g 152 [.c (cS ((S w).extract a (S w).size))] [] (y2 (eD (w.drop a)) ((w.drop a).all bA && decide (0 < (w.drop a).length))) [] := by
 rw [eI]; exact wU _ (by simp; omega)
def aJ1 := And.intro @aF (And.intro @decide_eq_false_iff_not (@decide_eq_true_eq))
theorem sA (w : List UInt8) (hw : w.length < 4294967281) :
  SpG g 95 [.c (cS (S w))] [] (y2 (eZ w) (eG w)) [] := by
 refine aG 65 Tryz.func95 (by kernel_rfl) fun fr hG => ?_
 refine zC hG [] [1, 0, 1] (((!decide ((((S w).size : Int) : Int) = 10)) || (!decide ((byteAt (S w) 4 : Int) = 45))) || (!decide ((byteAt (S w) 7 : Int) = 45))) (⟨[zS 0 (S w), zI 2 0, zB 3 false], []⟩) (aC (by intros; (try simp only [aJ1, Bool.not_eq_false', beq_iff_eq, Bool.or_eq_false_iff, Bool.not_eq_true] at *); first | omega | decide | (simp only [inR] at *; omega) : (!decide ((((S w).size : Int) : Int) = 10)) = false → (0 : Int) ≤ 4 ∧ 4 < ((S w).size : Int)) (aB (by intros; (try simp only [aJ1, Bool.not_eq_false', beq_iff_eq, Bool.or_eq_false_iff, Bool.not_eq_true] at *); first | omega | decide | (simp only [inR] at *; omega) : ((!decide ((((S w).size : Int) : Int) = 10)) || (!decide ((byteAt (S w) 4 : Int) = 45))) = false → (0 : Int) ≤ 7 ∧ 7 < ((S w).size : Int)))) (fun hc1 => ?_) (fun hc1 => ?_)
 (try simp only [eS] at hc1)
 refine zR hG [] [] (y3) [] aA ?_ ?_
 have hno : ∀ n, 0 ≤ n → n ≤ 3652058 → aR n = w → False := by
  intro n h0 h1 he
  obtain ⟨p0, p1, p2, p3, p4, p5, p6, p7⟩ := oN h0 h1 he
  have g := aJK p0 p1
  have g4 := at4' g.1
  have g7 := at7' g.2
  omega
 obtain ⟨r1, r2⟩ := kE hno
 rw [r1, r2]
 rfl
 (try simp only [eS] at hc1)
 refine zC hG [(3, 2, kC (y2 (eD ((w.take 4).drop 0)) (((w.take 4).drop 0).all bA && decide (0 < ((w.take 4).drop 0).length)))), (4, 2, kC (y2 (eD ((w.take 7).drop 5)) (((w.take 7).drop 5).all bA && decide (0 < ((w.take 7).drop 5).length)))), (5, 2, kC (y2 (eD (w.drop 8)) ((w.drop 8).all bA && decide (0 < (w.drop 8).length)))), (6, 3, kC (y2 (if eT (eD ((w.take 4).drop 0)) (eD ((w.take 7).drop 5)) (eD (w.drop 8)) then eO (eD ((w.take 4).drop 0)) (eD ((w.take 7).drop 5)) (eD (w.drop 8)) else 0) (eT (eD ((w.take 4).drop 0)) (eD ((w.take 7).drop 5)) (eD (w.drop 8)))))] [1, 0, 1, 1, 1, 1, 1, 1] ((((!(((w.take 4).drop 0).all bA && decide (0 < ((w.take 4).drop 0).length))) || (!(((w.take 7).drop 5).all bA && decide (0 < ((w.take 7).drop 5).length)))) || (!((w.drop 8).all bA && decide (0 < (w.drop 8).length)))) || (!(eT (eD ((w.take 4).drop 0)) (eD ((w.take 7).drop 5)) (eD (w.drop 8))))) (⟨[zI 2 0, zB 3 false, zI 10 (if eT (eD ((w.take 4).drop 0)) (eD ((w.take 7).drop 5)) (eD (w.drop 8)) then eO (eD ((w.take 4).drop 0)) (eD ((w.take 7).drop 5)) (eD (w.drop 8)) else 0)], []⟩) (aC (by intros; (try simp only [aJ1, Bool.not_eq_false', beq_iff_eq, Bool.or_eq_false_iff, Bool.not_eq_true] at *); first | omega | decide | (simp only [inR] at *; omega) : (0 : Int) ≤ 0 ∧ (0 : Int) ≤ 4 ∧ 4 ≤ ((S w).size : Int)) (aC (tN w 0 4 (by decide) : SpG g _ _ _ _ _) (aC (by intros; (try simp only [aJ1, Bool.not_eq_false', beq_iff_eq, Bool.or_eq_false_iff, Bool.not_eq_true] at *); first | omega | decide | (simp only [inR] at *; omega) : (0 : Int) ≤ 5 ∧ (5 : Int) ≤ 7 ∧ 7 ≤ ((S w).size : Int)) (aC (tN w 5 7 (by decide) : SpG g _ _ _ _ _) (aC (by intros; (try simp only [aJ1, Bool.not_eq_false', beq_iff_eq, Bool.or_eq_false_iff, Bool.not_eq_true] at *); first | omega | decide | (simp only [inR] at *; omega) : (0 : Int) ≤ 8 ∧ (8 : Int) ≤ ((S w).size : Int) ∧ ((S w).size : Int) ≤ ((S w).size : Int)) (aC (aBW w 8 (by omega) : SpG g _ _ _ _ _) (aB (vW (eD ((w.take 4).drop 0)) (eD ((w.take 7).drop 5)) (eD (w.drop 8)) (numR_nn _) : SpG g _ _ _ _ _)))))))) (fun hc2 => ?_) (fun hc2 => ?_)
 (try simp only [eS] at hc2)
 refine zR hG [] [] (y3) [] aA ?_ ?_
 have hno : ∀ n, 0 ≤ n → n ≤ 3652058 → aR n = w → False := by
  intro n h0 h1 he
  obtain ⟨p0, p1, p2, p3, p4, p5, p6, p7⟩ := oN h0 h1 he
  have v := aD8 (kG h0 h1).1
  rw [← p5, ← p6, ← p7, ← iD p2, ← iD p3, ← iD p4] at v
  simp only [List.drop_zero, take7, p2, p3, p4, v, Bool.true_and, List.length_take, List.length_drop, p1] at hc2
  simp at hc2
 obtain ⟨r1, r2⟩ := kE hno
 rw [r1, r2]
 rfl
 (try simp only [eS] at hc2)
 refine zR hG [] [] (y4 (if eT (eD ((w.take 4).drop 0)) (eD ((w.take 7).drop 5)) (eD (w.drop 8)) then eO (eD ((w.take 4).drop 0)) (eD ((w.take 7).drop 5)) (eD (w.drop 8)) else 0)) [] aA ?_ ?_
 simp only [List.drop_zero] at hc2
 obtain ⟨⟨⟨⟨a1, a2⟩, b1, b2⟩, c1, c2⟩, v⟩ := hc2
 obtain ⟨⟨s1, s2⟩, s3⟩ := hc1
 have v2 := v
 rw [iD a1, iD b1, iD c1] at v2
 have hv := yE v2
 have nb := aGX hv
 obtain ⟨r1, r2⟩ := nG nb.1 nb.2 (aJJ (by omega) (at4 s2) (at7 s3) a1 b1 c1 hv)
 rw [r1, r2]
 simp only [List.drop_zero, v2, if_true, iD a1, iD b1, iD c1]
 rfl
end Go.Proofs.YtmpgfchkkemngaaGreatDoor
namespace Go.Proofs.YtmpgfchkkemngaaGreatDoor
open Go.RowKit Go.V
open Go.Eng (inR byteAt u8 bH)
variable {g : Gv}
def ldN : Nat → List UInt8 → Nat
 | 0, _ => 0
 | _ + 1, [] => 0
 | k + 1, c :: r => if bA c then ldN k r + 1 else 0
theorem aG5 (k : Nat) : ldN k [] = 0 := by cases k <;> rfl
theorem aL8 : ∀ (k : Nat) (l : List UInt8), ldN k l ≤ k ∧ ldN k l ≤ l.length
 | 0, l => ⟨Nat.le_refl _, Nat.zero_le _⟩
 | k + 1, [] => ⟨Nat.zero_le _, Nat.zero_le _⟩
 | k + 1, c :: r => by
  have ih := aL8 k r
  unfold ldN; split
  simp only [List.length_cons]; omega
  omega
theorem aL7 {k i : Nat} {l : List UInt8} (hi : i < l.length) (hk : i < k) (hd : bA (l.getD i 0) = true) : ldN (k - i) (l.drop i) = ldN (k - (i + 1)) (l.drop (i + 1)) + 1 := by
 have e : l.drop i = l.getD i 0 :: l.drop (i + 1) := by
  rw [List.getD_eq_getElem?_getD, List.getElem?_eq_getElem hi]; exact List.drop_eq_getElem_cons hi
 rw [e, show k - i = (k - (i + 1)) + 1 by omega, ldN, if_pos hd]
theorem aL6 {k i : Nat} {l : List UInt8} (h : l.length ≤ i ∨ k ≤ i ∨ ¬ bA (l.getD i 0) = true) : ldN (k - i) (l.drop i) = 0 := by
 rcases h with h | h | h
 rw [List.drop_eq_nil_iff.2 h, aG5]
 rw [show k - i = 0 by omega]; rfl
 rcases Nat.lt_or_ge i l.length with hi | hi
 have e : l.drop i = l.getD i 0 :: l.drop (i + 1) := by
  rw [List.getD_eq_getElem?_getD, List.getElem?_eq_getElem hi]; exact List.drop_eq_getElem_cons hi
 rw [e]
 cases k - i with
 | zero => rfl
 | succ j => rw [ldN, if_neg h]
 rw [List.drop_eq_nil_iff.2 hi, aG5]
def dgC (s : ByteArray) (k : Nat) : Int := ldN k s.data.toList
def dgV (s : ByteArray) (k : Nat) : Int := cQ (s.data.toList.take (ldN k s.data.toList))
def dgR (s : ByteArray) (k : Nat) : ByteArray := s.extract (dgC s k).toNat s.size
theorem rA (s : ByteArray) (k : Nat) : 0 ≤ dgC s k ∧ dgC s k ≤ s.size := by
 have := (aL8 k s.data.toList).2
 have e : s.data.toList.length = s.size := by rw [← aF, aD2]
 unfold dgC; omega
def rs1 (w : List UInt8) : ByteArray := dgR (S w) 4
def rs2 (w : List UInt8) : ByteArray := S (Lib.trimPrefix (rs1 w).data.toList [45])
def rs3 (w : List UInt8) : ByteArray := dgR (rs2 w) 2
def rs4 (w : List UInt8) : ByteArray := S (Lib.trimPrefix (rs3 w).data.toList [45])
def rs5 (w : List UInt8) : ByteArray := dgR (rs4 w) 2
def rdY (w : List UInt8) : Int := dgV (S w) 4
def rdM (w : List UInt8) : Int := dgV (rs2 w) 2
def rdD (w : List UInt8) : Int := dgV (rs4 w) 2
def rpA (w : List UInt8) : Bool := Lib.hasPrefix (rs1 w).data.toList [45]
def rpB (w : List UInt8) : Bool := Lib.hasPrefix (rs3 w).data.toList [45]
theorem aC9 (s : ByteArray) (k : Nat) : (dgR s k).size ≤ s.size := by
 unfold dgR; rw [ByteArray.size_extract]; omega
theorem aF6 (s : ByteArray) (p : List UInt8) : (S (Lib.trimPrefix s.data.toList p)).size ≤ s.size := by
 have h := wG s.data.toList p
 have e : s.data.toList.length = s.size := by rw [← aF, aD2]
 rw [aF]; omega
theorem rsz1 (w : List UInt8) : (rs1 w).size ≤ w.length := by have := aC9 (S w) 4; rw [aF] at this; exact this
theorem rsz2 (w : List UInt8) : (rs2 w).size ≤ w.length := Nat.le_trans (aF6 _ _) (rsz1 w)
theorem rsz3 (w : List UInt8) : (rs3 w).size ≤ w.length := Nat.le_trans (aC9 _ _) (rsz2 w)
theorem rsz4 (w : List UInt8) : (rs4 w).size ≤ w.length := Nat.le_trans (aF6 _ _) (rsz3 w)
theorem aG6 : ∀ {l r : List UInt8}, l.all bA = true → ldN l.length (l ++ r) = l.length
 | [], r, _ => rfl
 | c :: l, r, h => by
  rw [List.all_cons, Bool.and_eq_true] at h
  rw [List.cons_append, List.length_cons, ldN, if_pos h.1, aG6 h.2]
theorem aFP {l r : List UInt8} {k : Nat} (h : l.all bA = true) (hk : l.length = k) : dgV (S (l ++ r)) k = cQ l ∧ dgR (S (l ++ r)) k = S r := by
 subst hk
 have e := aG6 (r := r) h
 unfold dgV dgR dgC
 rw [jF, e]
 refine ⟨by simp, ?_⟩
 rw [Int.toNat_natCast, eI]; simp
theorem sE (r : List UInt8) : Lib.trimPrefix (S (45 :: r)).data.toList [45] = r ∧ Lib.hasPrefix (S (45 :: r)).data.toList [45] = true := by
 rw [jF]
 have h : Lib.hasPrefix (45 :: r) [45] = true := by simp [Lib.hasPrefix]
 exact ⟨by rw [Lib.trimPrefix, h]; rfl, h⟩
theorem kU {n : Int} {w : List UInt8} (h0 : 0 ≤ n) (h1 : n ≤ 3652058) (e : aR n = w) : rpA w = true ∧ rpB w = true ∧ rdY w = (civ n).1 ∧ rdM w = (civ n).2.1 ∧ rdD w = (civ n).2.2 := by
 obtain ⟨p0, p1, p2, p3, p4, p5, p6, p7⟩ := oN h0 h1 e
 generalize hY : w.take 4 = Y at *
 generalize hM : (w.drop 5).take 2 = M at *
 generalize hX : w.drop 8 = X at *
 have l1 : Y.length = 4 := by rw [← hY]; simp [p1]
 have l2 : M.length = 2 := by rw [← hM]; simp [p1]
 have l3 : X.length = 2 := by rw [← hX]; simp [p1]
 have a1 := aFP (r := 45 :: (M ++ 45 :: X)) p2 l1
 rw [← p0] at a1
 have e1 : rs1 w = S (45 :: (M ++ 45 :: X)) := a1.2
 have e2 : rs2 w = S (M ++ 45 :: X) := by rw [rs2, e1, (sE _).1]
 have a2 := aFP (r := 45 :: X) p3 l2
 have e3 : rs3 w = S (45 :: X) := by rw [rs3, e2]; exact a2.2
 have e4 : rs4 w = S X := by rw [rs4, e3, (sE _).1]
 have a3 := aFP (r := []) p4 l3
 rw [List.append_nil] at a3
 refine ⟨by rw [rpA, e1]; exact (sE _).2, by rw [rpB, e3]; exact (sE _).2, ?_, ?_, ?_⟩
 rw [← p5]; exact a1.1
 rw [← p6, rdM, e2]; exact a2.1
 rw [← p7, rdD, e4]; exact a3.1
theorem sI (y m d : Int) : 0 ≤ (if eT y m d then eO y m d else 0) ∧ (if eT y m d then eO y m d else 0) ≤ 3652058 := by
 split
 exact aGX (yE (by assumption))
 decide
theorem aKY (w : List UInt8) : rpA w = false ∨ (rpA w = true ∧ rpB w = false) ∨ (rpA w = true ∧ rpB w = true) := by
 cases rpA w <;> cases rpB w <;> simp
abbrev y34 (a0 : Int) (a1 : Int) : SV := .tup [(false, [cI a0]), (false, [cI a1])]
theorem aNC (l : List UInt8) (k : Nat) (hk : k ≤ 5) (hl : l.length < 4294967281) :
  SpG g 224 [.c (cS (S l)), .c (cI (k : Int))] [] (y34 (cQ (l.take (ldN k l))) (ldN k l)) [] := by
 refine aG 36 Tryz.func224 (by kernel_rfl) fun fr hG => ?_
 refine zL hG [] [0, 0, 1] (fun (zz : Nat × Int) => match zz with | (i, v) => (l.length - i, ⟨[zS 0 (S l), zI 1 (k : Int), zI 4 v, zI 5 (i : Int)], []⟩, i ≤ l.length ∧ i ≤ k ∧ (l.take i).all bA = true ∧ v = (cQ (l.take i) : Int) ∧ ldN k l = i + ldN (k - i) (l.drop i))) (0, 0) aA ?_ ?_
 exact ⟨Nat.zero_le _, Nat.zero_le _, rfl, rfl, by simp⟩
 rintro ⟨i, v⟩ ⟨hi, hik, hd, hv, hn⟩
 have hdl := sL hd
 rw [List.length_take, Nat.min_eq_left hi] at hdl
 have hp : 10 ^ i ≤ 10 ^ 5 := Nat.pow_le_pow_right (by decide) (by omega)
 have hcl : ∀ b : UInt8, bA b = true → 0 ≤ (b.toNat : Int) - 48 ∧ b.toNat - 48 ≤ 9 := by intro b hb; simp only [bA, Bool.and_eq_true, decide_eq_true_eq] at hb; omega
 refine zc hG [] [1, 0] (((decide (((i : Int) : Int) < (if ((k : Int) : Int) < ((S l).size : Int) then (k : Int) else ((S l).size : Int)))) && (decide ((byteAt (S l) (i : Int) : Int) ≥ 48))) && (decide ((byteAt (S l) (i : Int) : Int) ≤ 57))) (aC (by intros; (try simp only [sP, Bool.and_eq_true] at *); first | omega | decide | (simp only [inR] at *; omega) | (split at * <;> first | omega | (simp only [inR] at *; omega)) : (decide (((i : Int) : Int) < (if ((k : Int) : Int) < ((S l).size : Int) then (k : Int) else ((S l).size : Int)))) = true → (0 : Int) ≤ (i : Int) ∧ (i : Int) < ((S l).size : Int)) (aB (by intros; (try simp only [sP, Bool.and_eq_true] at *); first | omega | decide | (simp only [inR] at *; omega) | (split at * <;> first | omega | (simp only [inR] at *; omega)) : ((decide (((i : Int) : Int) < (if ((k : Int) : Int) < ((S l).size : Int) then (k : Int) else ((S l).size : Int)))) && (decide ((byteAt (S l) (i : Int) : Int) ≥ 48))) = true → (0 : Int) ≤ (i : Int) ∧ (i : Int) < ((S l).size : Int)))) (fun hc2 => ?_) (fun hc2 => ?_)
 (try simp only [eS] at hc2)
 have hmn : i < l.length ∧ i < k := by have := hc2.1.1; split at this <;> omega
 obtain ⟨q1, q2⟩ := pP (l := l) (k := i) (by omega) (by omega)
 have q3 := hcl _ q1
 refine zD hG [] (i + 1, v * 10 + IntKind.wrap .i64 (IntKind.wrap .u8 (byteAt (S l) (i : Int) - 48))) (aC (by intros; (try simp only [sP, Bool.and_eq_true] at *); first | omega | decide | (simp only [inR] at *; omega) | (split at * <;> first | omega | (simp only [inR] at *; omega)) : inR (v * 10)) (aC (by intros; (try simp only [sP, Bool.and_eq_true] at *); first | omega | decide | (simp only [inR] at *; omega) | (split at * <;> first | omega | (simp only [inR] at *; omega)) : (0 : Int) ≤ (i : Int) ∧ (i : Int) < ((S l).size : Int)) (aC (by intros; (try simp only [sP, Bool.and_eq_true] at *); first | omega | decide | (simp only [inR] at *; omega) | (split at * <;> first | omega | (simp only [inR] at *; omega)) : inR ((v * 10) + (IntKind.wrap .i64 (IntKind.wrap .u8 ((byteAt (S l) (i : Int)) - 48))))) (aB (by intros; (try simp only [sP, Bool.and_eq_true] at *); first | omega | decide | (simp only [inR] at *; omega) | (split at * <;> first | omega | (simp only [inR] at *; omega)) : inR ((i : Int) + 1)))))) ?_ ?_
 (try dsimp only); omega
 refine ⟨by omega, by omega, vK (by omega) hd q1, ?_, ?_⟩
 rw [q2, nD (by omega), hv]; push_cast; omega
 rw [hn, aL7 (by omega) (by omega) q1]; omega
 (try simp only [eS] at hc2)
 refine zE hG [] (.exit 0) (⟨[zI 4 v, zI 5 (i : Int)], []⟩) aA rfl ?_
 refine zR hG [] [] (y34 v (i : Int)) [] aA ?_ ?_
 have hz : ldN (k - i) (l.drop i) = 0 := aL6 (by
  rcases Nat.lt_or_ge i l.length with h1 | h1
  rcases Nat.lt_or_ge i k with h2 | h2
  right; right; intro hd2
  rw [aN1, decide_eq_true_eq] at hd2
  rcases hc2 with (h | h) | h
  split at h <;> omega
  omega
  omega
  exact .inr (.inl h2)
  exact .inl h1)
 rw [hz, Nat.add_zero] at hn
 rw [hn, hv]
 rfl
theorem q5 (s : ByteArray) (k : Nat) (hk : k ≤ 5) (hl : s.size < 4294967281) : SpG g 224 [.c (cS s), .c (cI (k : Int))] [] (y34 (dgV s k) (dgC s k)) [] := by
 have := aNC (g := g) s.data.toList k hk (by have := aF s.data.toList; rw [aD2] at this; omega)
 rw [aD2] at this; exact this
theorem r4 (s : ByteArray) (p : List UInt8) : SpG g 205 [.c (cS s), .c (cS (S p))] [] (y33 (S (Lib.trimPrefix s.data.toList p)) (Lib.hasPrefix s.data.toList p)) [] := by
 have := pZ (g := g) s.data.toList p
 rw [aD2] at this; exact this
theorem aK1 (b4 b5 b6 b7 b8 b9 D l : Nat) (fn : FuncId) (tm : Array Value) (h4 : tm.getD 4 undef = .pointer (some ⟨b4, 0, none⟩)) (h5 : tm.getD 5 undef = .pointer (some ⟨b5, 0, none⟩)) (h6 : tm.getD 6 undef = .pointer (some ⟨b6, 0, none⟩)) (h7 : tm.getD 7 undef = .pointer (some ⟨b7, 0, none⟩)) (h8 : tm.getD 8 undef = .pointer (some ⟨b8, 0, none⟩)) (h9 : tm.getD 9 undef = .pointer (some ⟨b9, 0, none⟩)) (hn : tm.size = 80) (y m d : Int) (s : ByteArray) (hl : s.size < 4294967281) :
  cC Tryz.prog (Gl g) l [y21] [(0, zK Tryz.f208 [0, 1, 0, 1, 1, 1, 1] fn tm D l), (1, .box ⟨.c 3, some b4⟩ [cI 0]), (2, .box ⟨.c 4, some b5⟩ [cB false]), (3, .box ⟨.c 3, some b6⟩ [cI y]), (4, .box ⟨.c 3, some b7⟩ [cI m]), (5, .box ⟨.c 3, some b8⟩ [cI d]), (6, .box ⟨.c 9, some b9⟩ [cS s])] (.c (cB true)) [(0, zK Tryz.f208 [0, 1, 0, 1, 1, 1, 1] fn tm D l), (1, .box ⟨.c 3, some b4⟩ [cI 0]), (2, .box ⟨.c 4, some b5⟩ [cB false]), (3, .box ⟨.c 3, some b6⟩ [cI (dgV s 4)]), (4, .box ⟨.c 3, some b7⟩ [cI m]), (5, .box ⟨.c 3, some b8⟩ [cI d]), (6, .box ⟨.c 9, some b9⟩ [cS (dgR s 4)])] := by
 refine fS (iL := 0) (p := 25) (env0 := [zX 4 1 0, zX 5 2 0, zX 6 3 0, zX 7 4 0, zX 8 5 0, zX 9 6 0]) (n := 80) (r := (aX (aM Tryz.f208) [0, 1, 0, 1, 1, 1, 1] fn tm D)) rfl (by kernel_rfl) hn (by decide) ⟨rfl, ⟨_, _, _, rfl, rfl, h4⟩, ⟨rfl, ⟨_, _, _, rfl, rfl, h5⟩, ⟨rfl, ⟨_, _, _, rfl, rfl, h6⟩, ⟨rfl, ⟨_, _, _, rfl, rfl, h7⟩, ⟨rfl, ⟨_, _, _, rfl, rfl, h8⟩, ⟨rfl, ⟨_, _, _, rfl, rfl, h9⟩, trivial⟩⟩⟩⟩⟩⟩ rfl fun fr hG => ?_
 refine iS hG cW [] (⟨[zX 4 1 0, zX 5 2 0, zX 6 3 0, zX 7 4 0, zX 8 5 0, zX 9 6 0, zX 10 700 0], [(0, zK Tryz.f208 [0, 1, 0, 1, 1, 1, 1] fn tm D l), (1, .box ⟨.c 3, some b4⟩ [cI 0]), (2, .box ⟨.c 4, some b5⟩ [cB false]), (3, .box ⟨.c 3, some b6⟩ [cI y]), (4, .box ⟨.c 3, some b7⟩ [cI m]), (5, .box ⟨.c 3, some b8⟩ [cI d]), (6, .box ⟨.c 9, some b9⟩ [cS s]), (700, y24)]⟩) 0 (r := (aX (aM Tryz.f208) [0, 1, 0, 1, 1, 1, 1] fn tm D)) (by kernel_rfl) aA rfl rfl ?_
 refine fU hG (⟨[zX 4 1 0, zX 5 2 0, zX 6 3 0, zX 7 4 0, zX 8 5 0, zX 9 6 0, zX 10 700 0], [(0, .box ⟨.raw (.loop { (aX (aM Tryz.f208) [0, 1, 0, 1, 1, 1, 1] fn tm D) with state := .busy }), some l⟩ []), (1, .box ⟨.c 3, some b4⟩ [cI 0]), (2, .box ⟨.c 4, some b5⟩ [cB false]), (3, .box ⟨.c 3, some b6⟩ [cI y]), (4, .box ⟨.c 3, some b7⟩ [cI m]), (5, .box ⟨.c 3, some b8⟩ [cI d]), (6, .box ⟨.c 9, some b9⟩ [cS s]), (700, y24)]⟩) (by kernel_rfl) ?_
 refine zc hG [] [1, 0, 0] (false) aA (fun hc1 => absurd hc1 (by decide)) (fun _ => ?_)
 refine zC hG [(12, 5, kC (y34 (dgV s 4) (dgC s 4)))] [1, 0, 1, 1, 1, 1, 0] (true) (⟨[zX 4 1 0, zX 5 2 0, zX 6 3 0, zX 7 4 0, zX 8 5 0, zI 13 (dgV s 4), (53, [], .c (.d (.y 89)))], [(0, .box ⟨.raw (.loop { (aX (aM Tryz.f208) [0, 1, 0, 1, 1, 1, 1] fn tm D) with state := .busy }), some l⟩ []), (1, .box ⟨.c 3, some b4⟩ [cI 0]), (2, .box ⟨.c 4, some b5⟩ [cB false]), (3, .box ⟨.c 3, some b6⟩ [cI y]), (4, .box ⟨.c 3, some b7⟩ [cI m]), (5, .box ⟨.c 3, some b8⟩ [cI d]), (6, .box ⟨.c 9, some b9⟩ [cS ((s).extract (dgC s 4 : Int).toNat (s).size)])]⟩) (aC (q5 s 4 (by decide) (by first | assumption | omega) : SpG g _ _ _ _ _) (aC (by intros; have g4 := rA s 4; have g2 := rA s 2; first | decide | omega | (simp only [inR] at *; omega) : (0 : Int) ≤ (dgC s 4) ∧ (dgC s 4 : Int) ≤ ((s).size : Int) ∧ ((s).size : Int) ≤ ((s).size : Int)) (aB (by decide : (0 : Int) ≤ 0 ∧ 0 < ((S [89, 89, 89, 89]).size : Int))))) (fun _ => ?_) (fun hc2 => absurd hc2 (by decide))
 refine iR hG cW [] [] 0 .normal [(0, .box ⟨.raw (jQ { (aX (aM Tryz.f208) [0, 1, 0, 1, 1, 1, 1] fn tm D) with state := .busy } .normal), some l⟩ []), (3, .box ⟨.c 3, some b6⟩ [cI (dgV s 4)]), (1, .box ⟨.c 3, some b4⟩ [cI 0]), (2, .box ⟨.c 4, some b5⟩ [cB false]), (4, .box ⟨.c 3, some b7⟩ [cI m]), (5, .box ⟨.c 3, some b8⟩ [cI d]), (6, .box ⟨.c 9, some b9⟩ [cS ((s).extract (dgC s 4 : Int).toNat (s).size)])] (by kernel_rfl) aA ?_ ?_
 rfl
 funext i; simp only [bG, upd]; (repeat' split) <;> first | rfl | (exfalso; omega)
theorem readM (b4 b5 b6 b7 b8 b9 D l : Nat) (fn : FuncId) (tm : Array Value) (h4 : tm.getD 4 undef = .pointer (some ⟨b4, 0, none⟩)) (h5 : tm.getD 5 undef = .pointer (some ⟨b5, 0, none⟩)) (h6 : tm.getD 6 undef = .pointer (some ⟨b6, 0, none⟩)) (h7 : tm.getD 7 undef = .pointer (some ⟨b7, 0, none⟩)) (h8 : tm.getD 8 undef = .pointer (some ⟨b8, 0, none⟩)) (h9 : tm.getD 9 undef = .pointer (some ⟨b9, 0, none⟩)) (hn : tm.size = 80) (y m d : Int) (s : ByteArray) (hl : s.size < 4294967281) :
  cC Tryz.prog (Gl g) l [y26] [(0, zK Tryz.f208 [0, 1, 0, 1, 1, 1, 1] fn tm D l), (1, .box ⟨.c 3, some b4⟩ [cI 0]), (2, .box ⟨.c 4, some b5⟩ [cB false]), (3, .box ⟨.c 3, some b6⟩ [cI y]), (4, .box ⟨.c 3, some b7⟩ [cI m]), (5, .box ⟨.c 3, some b8⟩ [cI d]), (6, .box ⟨.c 9, some b9⟩ [cS s])] (.c (cB true)) [(0, zK Tryz.f208 [0, 1, 0, 1, 1, 1, 1] fn tm D l), (1, .box ⟨.c 3, some b4⟩ [cI 0]), (2, .box ⟨.c 4, some b5⟩ [cB false]), (3, .box ⟨.c 3, some b6⟩ [cI y]), (4, .box ⟨.c 3, some b7⟩ [cI (dgV s 2)]), (5, .box ⟨.c 3, some b8⟩ [cI d]), (6, .box ⟨.c 9, some b9⟩ [cS (dgR s 2)])] := by
 refine fS (iL := 0) (p := 25) (env0 := [zX 4 1 0, zX 5 2 0, zX 6 3 0, zX 7 4 0, zX 8 5 0, zX 9 6 0]) (n := 80) (r := (aX (aM Tryz.f208) [0, 1, 0, 1, 1, 1, 1] fn tm D)) rfl (by kernel_rfl) hn (by decide) ⟨rfl, ⟨_, _, _, rfl, rfl, h4⟩, ⟨rfl, ⟨_, _, _, rfl, rfl, h5⟩, ⟨rfl, ⟨_, _, _, rfl, rfl, h6⟩, ⟨rfl, ⟨_, _, _, rfl, rfl, h7⟩, ⟨rfl, ⟨_, _, _, rfl, rfl, h8⟩, ⟨rfl, ⟨_, _, _, rfl, rfl, h9⟩, trivial⟩⟩⟩⟩⟩⟩ rfl fun fr hG => ?_
 refine iS hG cW [] (⟨[zX 4 1 0, zX 5 2 0, zX 6 3 0, zX 7 4 0, zX 8 5 0, zX 9 6 0, zX 10 700 0], [(0, zK Tryz.f208 [0, 1, 0, 1, 1, 1, 1] fn tm D l), (1, .box ⟨.c 3, some b4⟩ [cI 0]), (2, .box ⟨.c 4, some b5⟩ [cB false]), (3, .box ⟨.c 3, some b6⟩ [cI y]), (4, .box ⟨.c 3, some b7⟩ [cI m]), (5, .box ⟨.c 3, some b8⟩ [cI d]), (6, .box ⟨.c 9, some b9⟩ [cS s]), (700, y27)]⟩) 0 (r := (aX (aM Tryz.f208) [0, 1, 0, 1, 1, 1, 1] fn tm D)) (by kernel_rfl) aA rfl rfl ?_
 refine fU hG (⟨[zX 4 1 0, zX 5 2 0, zX 6 3 0, zX 7 4 0, zX 8 5 0, zX 9 6 0, zX 10 700 0], [(0, .box ⟨.raw (.loop { (aX (aM Tryz.f208) [0, 1, 0, 1, 1, 1, 1] fn tm D) with state := .busy }), some l⟩ []), (1, .box ⟨.c 3, some b4⟩ [cI 0]), (2, .box ⟨.c 4, some b5⟩ [cB false]), (3, .box ⟨.c 3, some b6⟩ [cI y]), (4, .box ⟨.c 3, some b7⟩ [cI m]), (5, .box ⟨.c 3, some b8⟩ [cI d]), (6, .box ⟨.c 9, some b9⟩ [cS s]), (700, y27)]⟩) (by kernel_rfl) ?_
 refine zc hG [] [1, 0, 0] (false) aA (fun hc1 => absurd hc1 (by decide)) (fun _ => ?_)
 refine zC hG [(12, 5, kC (y34 (dgV s 2) (dgC s 2)))] [1, 0, 1, 1, 1, 1, 0] (false) (⟨[zX 4 1 0, zX 5 2 0, zX 6 3 0, zX 7 4 0, zX 8 5 0, zI 13 (dgV s 2), (53, [], .c (.d (.y 77)))], [(0, .box ⟨.raw (.loop { (aX (aM Tryz.f208) [0, 1, 0, 1, 1, 1, 1] fn tm D) with state := .busy }), some l⟩ []), (1, .box ⟨.c 3, some b4⟩ [cI 0]), (2, .box ⟨.c 4, some b5⟩ [cB false]), (3, .box ⟨.c 3, some b6⟩ [cI y]), (4, .box ⟨.c 3, some b7⟩ [cI m]), (5, .box ⟨.c 3, some b8⟩ [cI d]), (6, .box ⟨.c 9, some b9⟩ [cS ((s).extract (dgC s 2 : Int).toNat (s).size)])]⟩) (aC (q5 s 2 (by decide) (by first | assumption | omega) : SpG g _ _ _ _ _) (aC (by intros; have g4 := rA s 4; have g2 := rA s 2; first | decide | omega | (simp only [inR] at *; omega) : (0 : Int) ≤ (dgC s 2) ∧ (dgC s 2 : Int) ≤ ((s).size : Int) ∧ ((s).size : Int) ≤ ((s).size : Int)) (aB (by decide : (0 : Int) ≤ 0 ∧ 0 < ((S [77, 77]).size : Int))))) (fun hc2 => absurd hc2 (by decide)) (fun _ => ?_)
 refine zC hG [] [1, 1, 1, 0, 1, 1, 1, 1, 0] (true) (⟨[zX 4 1 0, zX 5 2 0, zX 7 4 0, zX 8 5 0, zI 13 (dgV s 2)], [(0, .box ⟨.raw (.loop { (aX (aM Tryz.f208) [0, 1, 0, 1, 1, 1, 1] fn tm D) with state := .busy }), some l⟩ []), (1, .box ⟨.c 3, some b4⟩ [cI 0]), (2, .box ⟨.c 4, some b5⟩ [cB false]), (3, .box ⟨.c 3, some b6⟩ [cI y]), (4, .box ⟨.c 3, some b7⟩ [cI m]), (5, .box ⟨.c 3, some b8⟩ [cI d]), (6, .box ⟨.c 9, some b9⟩ [cS ((s).extract (dgC s 2 : Int).toNat (s).size)])]⟩) aA (fun _ => ?_) (fun hc3 => absurd hc3 (by decide))
 refine iR hG cW [] [] 0 .normal [(0, .box ⟨.raw (jQ { (aX (aM Tryz.f208) [0, 1, 0, 1, 1, 1, 1] fn tm D) with state := .busy } .normal), some l⟩ []), (4, .box ⟨.c 3, some b7⟩ [cI (dgV s 2)]), (1, .box ⟨.c 3, some b4⟩ [cI 0]), (2, .box ⟨.c 4, some b5⟩ [cB false]), (3, .box ⟨.c 3, some b6⟩ [cI y]), (5, .box ⟨.c 3, some b8⟩ [cI d]), (6, .box ⟨.c 9, some b9⟩ [cS ((s).extract (dgC s 2 : Int).toNat (s).size)])] (by kernel_rfl) aA ?_ ?_
 rfl
 funext i; simp only [bG, upd]; (repeat' split) <;> first | rfl | (exfalso; omega)
theorem readD (b4 b5 b6 b7 b8 b9 D l : Nat) (fn : FuncId) (tm : Array Value) (h4 : tm.getD 4 undef = .pointer (some ⟨b4, 0, none⟩)) (h5 : tm.getD 5 undef = .pointer (some ⟨b5, 0, none⟩)) (h6 : tm.getD 6 undef = .pointer (some ⟨b6, 0, none⟩)) (h7 : tm.getD 7 undef = .pointer (some ⟨b7, 0, none⟩)) (h8 : tm.getD 8 undef = .pointer (some ⟨b8, 0, none⟩)) (h9 : tm.getD 9 undef = .pointer (some ⟨b9, 0, none⟩)) (hn : tm.size = 80) (y m d : Int) (s : ByteArray) (hl : s.size < 4294967281) :
  cC Tryz.prog (Gl g) l [y28] [(0, zK Tryz.f208 [0, 1, 0, 1, 1, 1, 1] fn tm D l), (1, .box ⟨.c 3, some b4⟩ [cI 0]), (2, .box ⟨.c 4, some b5⟩ [cB false]), (3, .box ⟨.c 3, some b6⟩ [cI y]), (4, .box ⟨.c 3, some b7⟩ [cI m]), (5, .box ⟨.c 3, some b8⟩ [cI d]), (6, .box ⟨.c 9, some b9⟩ [cS s])] (.c (cB true)) [(0, zK Tryz.f208 [0, 1, 0, 1, 1, 1, 1] fn tm D l), (1, .box ⟨.c 3, some b4⟩ [cI 0]), (2, .box ⟨.c 4, some b5⟩ [cB false]), (3, .box ⟨.c 3, some b6⟩ [cI y]), (4, .box ⟨.c 3, some b7⟩ [cI m]), (5, .box ⟨.c 3, some b8⟩ [cI (dgV s 2)]), (6, .box ⟨.c 9, some b9⟩ [cS (dgR s 2)])] := by
 refine fS (iL := 0) (p := 25) (env0 := [zX 4 1 0, zX 5 2 0, zX 6 3 0, zX 7 4 0, zX 8 5 0, zX 9 6 0]) (n := 80) (r := (aX (aM Tryz.f208) [0, 1, 0, 1, 1, 1, 1] fn tm D)) rfl (by kernel_rfl) hn (by decide) ⟨rfl, ⟨_, _, _, rfl, rfl, h4⟩, ⟨rfl, ⟨_, _, _, rfl, rfl, h5⟩, ⟨rfl, ⟨_, _, _, rfl, rfl, h6⟩, ⟨rfl, ⟨_, _, _, rfl, rfl, h7⟩, ⟨rfl, ⟨_, _, _, rfl, rfl, h8⟩, ⟨rfl, ⟨_, _, _, rfl, rfl, h9⟩, trivial⟩⟩⟩⟩⟩⟩ rfl fun fr hG => ?_
 refine iS hG cW [] (⟨[zX 4 1 0, zX 5 2 0, zX 6 3 0, zX 7 4 0, zX 8 5 0, zX 9 6 0, zX 10 700 0], [(0, zK Tryz.f208 [0, 1, 0, 1, 1, 1, 1] fn tm D l), (1, .box ⟨.c 3, some b4⟩ [cI 0]), (2, .box ⟨.c 4, some b5⟩ [cB false]), (3, .box ⟨.c 3, some b6⟩ [cI y]), (4, .box ⟨.c 3, some b7⟩ [cI m]), (5, .box ⟨.c 3, some b8⟩ [cI d]), (6, .box ⟨.c 9, some b9⟩ [cS s]), (700, y29)]⟩) 0 (r := (aX (aM Tryz.f208) [0, 1, 0, 1, 1, 1, 1] fn tm D)) (by kernel_rfl) aA rfl rfl ?_
 refine fU hG (⟨[zX 4 1 0, zX 5 2 0, zX 6 3 0, zX 7 4 0, zX 8 5 0, zX 9 6 0, zX 10 700 0], [(0, .box ⟨.raw (.loop { (aX (aM Tryz.f208) [0, 1, 0, 1, 1, 1, 1] fn tm D) with state := .busy }), some l⟩ []), (1, .box ⟨.c 3, some b4⟩ [cI 0]), (2, .box ⟨.c 4, some b5⟩ [cB false]), (3, .box ⟨.c 3, some b6⟩ [cI y]), (4, .box ⟨.c 3, some b7⟩ [cI m]), (5, .box ⟨.c 3, some b8⟩ [cI d]), (6, .box ⟨.c 9, some b9⟩ [cS s]), (700, y29)]⟩) (by kernel_rfl) ?_
 refine zc hG [] [1, 0, 0] (false) aA (fun hc1 => absurd hc1 (by decide)) (fun _ => ?_)
 refine zC hG [(12, 5, kC (y34 (dgV s 2) (dgC s 2)))] [1, 0, 1, 1, 1, 1, 0] (false) (⟨[zX 4 1 0, zX 5 2 0, zX 6 3 0, zX 7 4 0, zX 8 5 0, zI 13 (dgV s 2), (53, [], .c (.d (.y 68)))], [(0, .box ⟨.raw (.loop { (aX (aM Tryz.f208) [0, 1, 0, 1, 1, 1, 1] fn tm D) with state := .busy }), some l⟩ []), (1, .box ⟨.c 3, some b4⟩ [cI 0]), (2, .box ⟨.c 4, some b5⟩ [cB false]), (3, .box ⟨.c 3, some b6⟩ [cI y]), (4, .box ⟨.c 3, some b7⟩ [cI m]), (5, .box ⟨.c 3, some b8⟩ [cI d]), (6, .box ⟨.c 9, some b9⟩ [cS ((s).extract (dgC s 2 : Int).toNat (s).size)])]⟩) (aC (q5 s 2 (by decide) (by first | assumption | omega) : SpG g _ _ _ _ _) (aC (by intros; have g4 := rA s 4; have g2 := rA s 2; first | decide | omega | (simp only [inR] at *; omega) : (0 : Int) ≤ (dgC s 2) ∧ (dgC s 2 : Int) ≤ ((s).size : Int) ∧ ((s).size : Int) ≤ ((s).size : Int)) (aB (by decide : (0 : Int) ≤ 0 ∧ 0 < ((S [68, 68]).size : Int))))) (fun hc2 => absurd hc2 (by decide)) (fun _ => ?_)
 refine zC hG [] [1, 1, 1, 0, 1, 1, 1, 1, 0] (false) (⟨[zX 4 1 0, zX 5 2 0, zX 7 4 0, zX 8 5 0, zI 13 (dgV s 2)], [(0, .box ⟨.raw (.loop { (aX (aM Tryz.f208) [0, 1, 0, 1, 1, 1, 1] fn tm D) with state := .busy }), some l⟩ []), (1, .box ⟨.c 3, some b4⟩ [cI 0]), (2, .box ⟨.c 4, some b5⟩ [cB false]), (3, .box ⟨.c 3, some b6⟩ [cI y]), (4, .box ⟨.c 3, some b7⟩ [cI m]), (5, .box ⟨.c 3, some b8⟩ [cI d]), (6, .box ⟨.c 9, some b9⟩ [cS ((s).extract (dgC s 2 : Int).toNat (s).size)])]⟩) aA (fun hc3 => absurd hc3 (by decide)) (fun _ => ?_)
 refine iR hG cW [] [] 0 .normal [(0, .box ⟨.raw (jQ { (aX (aM Tryz.f208) [0, 1, 0, 1, 1, 1, 1] fn tm D) with state := .busy } .normal), some l⟩ []), (5, .box ⟨.c 3, some b8⟩ [cI (dgV s 2)]), (1, .box ⟨.c 3, some b4⟩ [cI 0]), (2, .box ⟨.c 4, some b5⟩ [cB false]), (3, .box ⟨.c 3, some b6⟩ [cI y]), (4, .box ⟨.c 3, some b7⟩ [cI m]), (6, .box ⟨.c 9, some b9⟩ [cS ((s).extract (dgC s 2 : Int).toNat (s).size)])] (by kernel_rfl) aA ?_ ?_
 rfl
 funext i; simp only [bG, upd]; (repeat' split) <;> first | rfl | (exfalso; omega)
theorem readS (b4 b5 b6 b7 b8 b9 D l : Nat) (fn : FuncId) (tm : Array Value) (h4 : tm.getD 4 undef = .pointer (some ⟨b4, 0, none⟩)) (h5 : tm.getD 5 undef = .pointer (some ⟨b5, 0, none⟩)) (h6 : tm.getD 6 undef = .pointer (some ⟨b6, 0, none⟩)) (h7 : tm.getD 7 undef = .pointer (some ⟨b7, 0, none⟩)) (h8 : tm.getD 8 undef = .pointer (some ⟨b8, 0, none⟩)) (h9 : tm.getD 9 undef = .pointer (some ⟨b9, 0, none⟩)) (hn : tm.size = 80) (y m d : Int) (s : ByteArray) (hl : s.size < 4294967281) (hp : Lib.hasPrefix s.data.toList [45] = true) :
  cC Tryz.prog (Gl g) l [y25] [(0, zK Tryz.f208 [0, 1, 0, 1, 1, 1, 1] fn tm D l), (1, .box ⟨.c 3, some b4⟩ [cI 0]), (2, .box ⟨.c 4, some b5⟩ [cB false]), (3, .box ⟨.c 3, some b6⟩ [cI y]), (4, .box ⟨.c 3, some b7⟩ [cI m]), (5, .box ⟨.c 3, some b8⟩ [cI d]), (6, .box ⟨.c 9, some b9⟩ [cS s])] (.c (cB true)) [(0, zK Tryz.f208 [0, 1, 0, 1, 1, 1, 1] fn tm D l), (1, .box ⟨.c 3, some b4⟩ [cI 0]), (2, .box ⟨.c 4, some b5⟩ [cB false]), (3, .box ⟨.c 3, some b6⟩ [cI y]), (4, .box ⟨.c 3, some b7⟩ [cI m]), (5, .box ⟨.c 3, some b8⟩ [cI d]), (6, .box ⟨.c 9, some b9⟩ [cS (S (Lib.trimPrefix s.data.toList [45]))])] := by
 refine fS (iL := 0) (p := 25) (env0 := [zX 4 1 0, zX 5 2 0, zX 6 3 0, zX 7 4 0, zX 8 5 0, zX 9 6 0]) (n := 80) (r := (aX (aM Tryz.f208) [0, 1, 0, 1, 1, 1, 1] fn tm D)) rfl (by kernel_rfl) hn (by decide) ⟨rfl, ⟨_, _, _, rfl, rfl, h4⟩, ⟨rfl, ⟨_, _, _, rfl, rfl, h5⟩, ⟨rfl, ⟨_, _, _, rfl, rfl, h6⟩, ⟨rfl, ⟨_, _, _, rfl, rfl, h7⟩, ⟨rfl, ⟨_, _, _, rfl, rfl, h8⟩, ⟨rfl, ⟨_, _, _, rfl, rfl, h9⟩, trivial⟩⟩⟩⟩⟩⟩ rfl fun fr hG => ?_
 refine iS hG cW [] (⟨[zX 4 1 0, zX 5 2 0, zX 6 3 0, zX 7 4 0, zX 8 5 0, zX 9 6 0, zX 10 700 0], [(0, zK Tryz.f208 [0, 1, 0, 1, 1, 1, 1] fn tm D l), (1, .box ⟨.c 3, some b4⟩ [cI 0]), (2, .box ⟨.c 4, some b5⟩ [cB false]), (3, .box ⟨.c 3, some b6⟩ [cI y]), (4, .box ⟨.c 3, some b7⟩ [cI m]), (5, .box ⟨.c 3, some b8⟩ [cI d]), (6, .box ⟨.c 9, some b9⟩ [cS s]), (700, y30)]⟩) 0 (r := (aX (aM Tryz.f208) [0, 1, 0, 1, 1, 1, 1] fn tm D)) (by kernel_rfl) aA rfl rfl ?_
 refine fU hG (⟨[zX 4 1 0, zX 5 2 0, zX 6 3 0, zX 7 4 0, zX 8 5 0, zX 9 6 0, zX 10 700 0], [(0, .box ⟨.raw (.loop { (aX (aM Tryz.f208) [0, 1, 0, 1, 1, 1, 1] fn tm D) with state := .busy }), some l⟩ []), (1, .box ⟨.c 3, some b4⟩ [cI 0]), (2, .box ⟨.c 4, some b5⟩ [cB false]), (3, .box ⟨.c 3, some b6⟩ [cI y]), (4, .box ⟨.c 3, some b7⟩ [cI m]), (5, .box ⟨.c 3, some b8⟩ [cI d]), (6, .box ⟨.c 9, some b9⟩ [cS s]), (700, y30)]⟩) (by kernel_rfl) ?_
 refine zc hG [] [1, 0, 0] (true) aA (fun _ => ?_) (fun hc1 => absurd hc1 (by decide))
 refine zC hG [(8, 3, kC (y33 (S (Lib.trimPrefix (s).data.toList [45])) (Lib.hasPrefix (s).data.toList [45])))] [1, 0, 1, 0, 1, 0, 0] (!(Lib.hasPrefix (s).data.toList [45])) (⟨[zX 4 1 0, zX 5 2 0, zX 6 3 0, zX 7 4 0, zX 8 5 0, zX 9 6 0, zX 10 700 0, zS 11 (S (Lib.trimPrefix (s).data.toList [45]))], [(0, .box ⟨.raw (.loop { (aX (aM Tryz.f208) [0, 1, 0, 1, 1, 1, 1] fn tm D) with state := .busy }), some l⟩ []), (1, .box ⟨.c 3, some b4⟩ [cI 0]), (2, .box ⟨.c 4, some b5⟩ [cB false]), (3, .box ⟨.c 3, some b6⟩ [cI y]), (4, .box ⟨.c 3, some b7⟩ [cI m]), (5, .box ⟨.c 3, some b8⟩ [cI d]), (6, .box ⟨.c 9, some b9⟩ [cS s]), (700, y30)]⟩) (aB (r4 (s) [45] : SpG g _ _ _ _ _)) (fun hc2 => ?_) (fun hc2 => ?_)
 (try simp only [blS] at hc2)
 exfalso; simp [hp] at hc2
 (try simp only [blS] at hc2)
 refine iR hG cW [] [] 0 .normal [(0, .box ⟨.raw (jQ { (aX (aM Tryz.f208) [0, 1, 0, 1, 1, 1, 1] fn tm D) with state := .busy } .normal), some l⟩ []), (6, .box ⟨.c 9, some b9⟩ [cS (S (Lib.trimPrefix (s).data.toList [45]))]), (1, .box ⟨.c 3, some b4⟩ [cI 0]), (2, .box ⟨.c 4, some b5⟩ [cB false]), (3, .box ⟨.c 3, some b6⟩ [cI y]), (4, .box ⟨.c 3, some b7⟩ [cI m]), (5, .box ⟨.c 3, some b8⟩ [cI d])] (by kernel_rfl) aA ?_ ?_
 rfl
 funext i; simp only [bG, upd]; (repeat' split) <;> first | rfl | (exfalso; omega)
theorem readF (b4 b5 b6 b7 b8 b9 D l : Nat) (fn : FuncId) (tm : Array Value) (h4 : tm.getD 4 undef = .pointer (some ⟨b4, 0, none⟩)) (h5 : tm.getD 5 undef = .pointer (some ⟨b5, 0, none⟩)) (h6 : tm.getD 6 undef = .pointer (some ⟨b6, 0, none⟩)) (h7 : tm.getD 7 undef = .pointer (some ⟨b7, 0, none⟩)) (h8 : tm.getD 8 undef = .pointer (some ⟨b8, 0, none⟩)) (h9 : tm.getD 9 undef = .pointer (some ⟨b9, 0, none⟩)) (hn : tm.size = 80) (y m d : Int) (s : ByteArray) (hl : s.size < 4294967281) (hp : Lib.hasPrefix s.data.toList [45] = false) :
  cC Tryz.prog (Gl g) l [y25] [(0, zK Tryz.f208 [0, 1, 0, 1, 1, 1, 1] fn tm D l), (1, .box ⟨.c 3, some b4⟩ [cI 0]), (2, .box ⟨.c 4, some b5⟩ [cB false]), (3, .box ⟨.c 3, some b6⟩ [cI y]), (4, .box ⟨.c 3, some b7⟩ [cI m]), (5, .box ⟨.c 3, some b8⟩ [cI d]), (6, .box ⟨.c 9, some b9⟩ [cS s])] (.c (cB false)) [(0, .box ⟨.raw (.loop { (aX (aM Tryz.f208) [0, 1, 0, 1, 1, 1, 1] fn tm D) with state := .done, pending := some .ret }), some l⟩ []), (1, .box ⟨.c 3, some b4⟩ [cI 0]), (2, .box ⟨.c 4, some b5⟩ [cB false]), (3, .box ⟨.c 3, some b6⟩ [cI y]), (4, .box ⟨.c 3, some b7⟩ [cI m]), (5, .box ⟨.c 3, some b8⟩ [cI d]), (6, .box ⟨.c 9, some b9⟩ [cS s])] := by
 refine fS (iL := 0) (p := 25) (env0 := [zX 4 1 0, zX 5 2 0, zX 6 3 0, zX 7 4 0, zX 8 5 0, zX 9 6 0]) (n := 80) (r := (aX (aM Tryz.f208) [0, 1, 0, 1, 1, 1, 1] fn tm D)) rfl (by kernel_rfl) hn (by decide) ⟨rfl, ⟨_, _, _, rfl, rfl, h4⟩, ⟨rfl, ⟨_, _, _, rfl, rfl, h5⟩, ⟨rfl, ⟨_, _, _, rfl, rfl, h6⟩, ⟨rfl, ⟨_, _, _, rfl, rfl, h7⟩, ⟨rfl, ⟨_, _, _, rfl, rfl, h8⟩, ⟨rfl, ⟨_, _, _, rfl, rfl, h9⟩, trivial⟩⟩⟩⟩⟩⟩ rfl fun fr hG => ?_
 refine iS hG cW [] (⟨[zX 4 1 0, zX 5 2 0, zX 6 3 0, zX 7 4 0, zX 8 5 0, zX 9 6 0, zX 10 700 0], [(0, zK Tryz.f208 [0, 1, 0, 1, 1, 1, 1] fn tm D l), (1, .box ⟨.c 3, some b4⟩ [cI 0]), (2, .box ⟨.c 4, some b5⟩ [cB false]), (3, .box ⟨.c 3, some b6⟩ [cI y]), (4, .box ⟨.c 3, some b7⟩ [cI m]), (5, .box ⟨.c 3, some b8⟩ [cI d]), (6, .box ⟨.c 9, some b9⟩ [cS s]), (700, y30)]⟩) 0 (r := (aX (aM Tryz.f208) [0, 1, 0, 1, 1, 1, 1] fn tm D)) (by kernel_rfl) aA rfl rfl ?_
 refine fU hG (⟨[zX 4 1 0, zX 5 2 0, zX 6 3 0, zX 7 4 0, zX 8 5 0, zX 9 6 0, zX 10 700 0], [(0, .box ⟨.raw (.loop { (aX (aM Tryz.f208) [0, 1, 0, 1, 1, 1, 1] fn tm D) with state := .busy }), some l⟩ []), (1, .box ⟨.c 3, some b4⟩ [cI 0]), (2, .box ⟨.c 4, some b5⟩ [cB false]), (3, .box ⟨.c 3, some b6⟩ [cI y]), (4, .box ⟨.c 3, some b7⟩ [cI m]), (5, .box ⟨.c 3, some b8⟩ [cI d]), (6, .box ⟨.c 9, some b9⟩ [cS s]), (700, y30)]⟩) (by kernel_rfl) ?_
 refine zc hG [] [1, 0, 0] (true) aA (fun _ => ?_) (fun hc1 => absurd hc1 (by decide))
 refine zC hG [(8, 3, kC (y33 (S (Lib.trimPrefix (s).data.toList [45])) (Lib.hasPrefix (s).data.toList [45])))] [1, 0, 1, 0, 1, 0, 0] (!(Lib.hasPrefix (s).data.toList [45])) (⟨[zX 4 1 0, zX 5 2 0, zX 6 3 0, zX 7 4 0, zX 8 5 0, zX 9 6 0, zX 10 700 0, zS 11 (S (Lib.trimPrefix (s).data.toList [45]))], [(0, .box ⟨.raw (.loop { (aX (aM Tryz.f208) [0, 1, 0, 1, 1, 1, 1] fn tm D) with state := .busy }), some l⟩ []), (1, .box ⟨.c 3, some b4⟩ [cI 0]), (2, .box ⟨.c 4, some b5⟩ [cB false]), (3, .box ⟨.c 3, some b6⟩ [cI y]), (4, .box ⟨.c 3, some b7⟩ [cI m]), (5, .box ⟨.c 3, some b8⟩ [cI d]), (6, .box ⟨.c 9, some b9⟩ [cS s]), (700, y30)]⟩) (aB (r4 (s) [45] : SpG g _ _ _ _ _)) (fun hc2 => ?_) (fun hc2 => ?_)
 (try simp only [blS] at hc2)
 refine iR hG cW [] [] 0 .ret [(0, .box ⟨.raw (jQ { (aX (aM Tryz.f208) [0, 1, 0, 1, 1, 1, 1] fn tm D) with state := .busy } .ret), some l⟩ []), (2, .box ⟨.c 4, some b5⟩ [cB false]), (1, .box ⟨.c 3, some b4⟩ [cI 0]), (3, .box ⟨.c 3, some b6⟩ [cI y]), (4, .box ⟨.c 3, some b7⟩ [cI m]), (5, .box ⟨.c 3, some b8⟩ [cI d]), (6, .box ⟨.c 9, some b9⟩ [cS s])] (by kernel_rfl) aA ?_ ?_
 rfl
 funext i; simp only [bG, upd]; (repeat' split) <;> first | rfl | (exfalso; omega)
 (try simp only [blS] at hc2)
 exfalso; simp [hp] at hc2
noncomputable def rdO (b0 b4 b5 b6 b7 b8 b9 D l : Nat) (w : List UInt8) (fn : FuncId) (tm : Array Value) : Nat → bL
 | 0 => [(0, .box ⟨.c 9, some b0⟩ [cS (S [89, 89, 89, 89, 45, 77, 77, 45, 68, 68])]), (1, zK Tryz.f208 [0, 1, 0, 1, 1, 1, 1] fn tm D l), (2, .box ⟨.c 3, some b4⟩ [cI 0]), (3, .box ⟨.c 4, some b5⟩ [cB false]), (4, .box ⟨.c 3, some b6⟩ [cI 0]), (5, .box ⟨.c 3, some b7⟩ [cI 0]), (6, .box ⟨.c 3, some b8⟩ [cI 0]), (7, .box ⟨.c 9, some b9⟩ [cS (S w)])]
 | 1 => [(0, .box ⟨.c 9, some b0⟩ [cS (S [45, 77, 77, 45, 68, 68])]), (1, zK Tryz.f208 [0, 1, 0, 1, 1, 1, 1] fn tm D l), (2, .box ⟨.c 3, some b4⟩ [cI 0]), (3, .box ⟨.c 4, some b5⟩ [cB false]), (4, .box ⟨.c 3, some b6⟩ [cI (rdY w)]), (5, .box ⟨.c 3, some b7⟩ [cI 0]), (6, .box ⟨.c 3, some b8⟩ [cI 0]), (7, .box ⟨.c 9, some b9⟩ [cS (rs1 w)])]
 | 2 => [(0, .box ⟨.c 9, some b0⟩ [cS (S [77, 77, 45, 68, 68])]), (1, zK Tryz.f208 [0, 1, 0, 1, 1, 1, 1] fn tm D l), (2, .box ⟨.c 3, some b4⟩ [cI 0]), (3, .box ⟨.c 4, some b5⟩ [cB false]), (4, .box ⟨.c 3, some b6⟩ [cI (rdY w)]), (5, .box ⟨.c 3, some b7⟩ [cI 0]), (6, .box ⟨.c 3, some b8⟩ [cI 0]), (7, .box ⟨.c 9, some b9⟩ [cS (rs2 w)])]
 | 3 => [(0, .box ⟨.c 9, some b0⟩ [cS (S [45, 68, 68])]), (1, zK Tryz.f208 [0, 1, 0, 1, 1, 1, 1] fn tm D l), (2, .box ⟨.c 3, some b4⟩ [cI 0]), (3, .box ⟨.c 4, some b5⟩ [cB false]), (4, .box ⟨.c 3, some b6⟩ [cI (rdY w)]), (5, .box ⟨.c 3, some b7⟩ [cI (rdM w)]), (6, .box ⟨.c 3, some b8⟩ [cI 0]), (7, .box ⟨.c 9, some b9⟩ [cS (rs3 w)])]
 | 4 => [(0, .box ⟨.c 9, some b0⟩ [cS (S [68, 68])]), (1, zK Tryz.f208 [0, 1, 0, 1, 1, 1, 1] fn tm D l), (2, .box ⟨.c 3, some b4⟩ [cI 0]), (3, .box ⟨.c 4, some b5⟩ [cB false]), (4, .box ⟨.c 3, some b6⟩ [cI (rdY w)]), (5, .box ⟨.c 3, some b7⟩ [cI (rdM w)]), (6, .box ⟨.c 3, some b8⟩ [cI 0]), (7, .box ⟨.c 9, some b9⟩ [cS (rs4 w)])]
 | _ => [(0, .box ⟨.c 9, some b0⟩ [cS (S [])]), (1, zK Tryz.f208 [0, 1, 0, 1, 1, 1, 1] fn tm D l), (2, .box ⟨.c 3, some b4⟩ [cI 0]), (3, .box ⟨.c 4, some b5⟩ [cB false]), (4, .box ⟨.c 3, some b6⟩ [cI (rdY w)]), (5, .box ⟨.c 3, some b7⟩ [cI (rdM w)]), (6, .box ⟨.c 3, some b8⟩ [cI (rdD w)]), (7, .box ⟨.c 9, some b9⟩ [cS (rs5 w)])]
theorem readItA (b0 : Nat) (b4 b5 b6 b7 b8 b9 D l : Nat) (fn : FuncId) (tm : Array Value) (h4 : tm.getD 4 undef = .pointer (some ⟨b4, 0, none⟩)) (h5 : tm.getD 5 undef = .pointer (some ⟨b5, 0, none⟩)) (h6 : tm.getD 6 undef = .pointer (some ⟨b6, 0, none⟩)) (h7 : tm.getD 7 undef = .pointer (some ⟨b7, 0, none⟩)) (h8 : tm.getD 8 undef = .pointer (some ⟨b8, 0, none⟩)) (h9 : tm.getD 9 undef = .pointer (some ⟨b9, 0, none⟩)) (hn : tm.size = 80) (w : List UInt8) (hw : w.length < 4294967281) (hA : rpA w = false) :
  SpG g 172 [.c (.d (.v (.func (.yield l) #[] #[]))), .c (.bx 0 0)] [(0, .box ⟨.c 9, some b0⟩ [cS (S [89, 89, 89, 89, 45, 77, 77, 45, 68, 68])]), (1, zK Tryz.f208 [0, 1, 0, 1, 1, 1, 1] fn tm D l), (2, .box ⟨.c 3, some b4⟩ [cI 0]), (3, .box ⟨.c 4, some b5⟩ [cB false]), (4, .box ⟨.c 3, some b6⟩ [cI 0]), (5, .box ⟨.c 3, some b7⟩ [cI 0]), (6, .box ⟨.c 3, some b8⟩ [cI 0]), (7, .box ⟨.c 9, some b9⟩ [cS (S w)])] (.tup []) [(0, .box ⟨.c 9, some b0⟩ [cS (S [45, 77, 77, 45, 68, 68])]), (1, .box ⟨.raw (.loop { (aX (aM Tryz.f208) [0, 1, 0, 1, 1, 1, 1] fn tm D) with state := .done, pending := some .ret }), some l⟩ []), (2, .box ⟨.c 3, some b4⟩ [cI 0]), (3, .box ⟨.c 4, some b5⟩ [cB false]), (4, .box ⟨.c 3, some b6⟩ [cI (rdY w)]), (5, .box ⟨.c 3, some b7⟩ [cI 0]), (6, .box ⟨.c 3, some b8⟩ [cI 0]), (7, .box ⟨.c 9, some b9⟩ [cS (rs1 w)])] := by
 refine aG 17 Tryz.func172 (by kernel_rfl) fun fr hG => ?_
 refine zL hG [] [0] (fun (zz : Nat) => match zz with | k => (2 - k, ⟨[(0, [], .c (.d (.v (.func (.yield l) #[] #[])))), zX 1 0 0], rdO b0 b4 b5 b6 b7 b8 b9 D l w fn tm k⟩, k ≤ 1)) 0 aA ?_ ?_
 exact Nat.zero_le _
 rintro k hI
 rcases (by omega : k = 0 ∨ k = 1) with rfl | rfl
 skip
 refine zc hG [] [1, 0] (true) aA (fun _ => ?_) (fun hc2 => absurd hc2 (by decide))
 refine zC hG [(1, 1, kC (y21)), (2, 2, .callG (.c (cB true)) [1, 2, 3, 4, 5, 6, 7] [(0, zK Tryz.f208 [0, 1, 0, 1, 1, 1, 1] fn tm D l), (1, .box ⟨.c 3, some b4⟩ [cI 0]), (2, .box ⟨.c 4, some b5⟩ [cB false]), (3, .box ⟨.c 3, some b6⟩ [cI (rdY w)]), (4, .box ⟨.c 3, some b7⟩ [cI 0]), (5, .box ⟨.c 3, some b8⟩ [cI 0]), (6, .box ⟨.c 9, some b9⟩ [cS (rs1 w)])])] [1, 0, 1, 0, 1] (false) (⟨[(0, [], .c (.d (.v (.func (.yield l) #[] #[])))), zX 1 0 0, zX 3 202 0], [(0, .box ⟨.c 9, some b0⟩ [cS (S [89, 89, 89, 89, 45, 77, 77, 45, 68, 68])]), (1, zK Tryz.f208 [0, 1, 0, 1, 1, 1, 1] fn tm D l), (2, .box ⟨.c 3, some b4⟩ [cI 0]), (3, .box ⟨.c 4, some b5⟩ [cB false]), (4, .box ⟨.c 3, some b6⟩ [cI (rdY w)]), (5, .box ⟨.c 3, some b7⟩ [cI 0]), (6, .box ⟨.c 3, some b8⟩ [cI 0]), (7, .box ⟨.c 9, some b9⟩ [cS (rs1 w)]), (202, y24)]⟩) (aC (uR : SpG g _ _ _ _ _) (aB (aK1 b4 b5 b6 b7 b8 b9 D l fn tm h4 h5 h6 h7 h8 h9 hn 0 0 0 (S w) (by rw [aF]; exact hw) : cC Tryz.prog (Gl g) _ _ _ _ _))) (fun hc3 => absurd hc3 (by decide)) (fun _ => ?_)
 refine zD hG [] 1 (aB (by decide : (0 : Int) ≤ 4 ∧ (4 : Int) ≤ ((S [89, 89, 89, 89, 45, 77, 77, 45, 68, 68]).size : Int) ∧ ((S [89, 89, 89, 89, 45, 77, 77, 45, 68, 68]).size : Int) ≤ ((S [89, 89, 89, 89, 45, 77, 77, 45, 68, 68]).size : Int))) ?_ ?_
 (try dsimp only); decide
 (try dsimp only); decide
 skip
 refine zc hG [] [1, 0] (true) aA (fun _ => ?_) (fun hc4 => absurd hc4 (by decide))
 refine zC hG [(1, 1, kC (y25)), (2, 2, .callG (.c (cB false)) [1, 2, 3, 4, 5, 6, 7] [(0, .box ⟨.raw (.loop { (aX (aM Tryz.f208) [0, 1, 0, 1, 1, 1, 1] fn tm D) with state := .done, pending := some .ret }), some l⟩ []), (1, .box ⟨.c 3, some b4⟩ [cI 0]), (2, .box ⟨.c 4, some b5⟩ [cB false]), (3, .box ⟨.c 3, some b6⟩ [cI (rdY w)]), (4, .box ⟨.c 3, some b7⟩ [cI 0]), (5, .box ⟨.c 3, some b8⟩ [cI 0]), (6, .box ⟨.c 9, some b9⟩ [cS (rs1 w)])])] [1, 0, 1, 0, 1] (true) (⟨[(0, [], .c (.d (.v (.func (.yield l) #[] #[])))), zX 1 0 0, zX 3 202 0], [(0, .box ⟨.c 9, some b0⟩ [cS (S [45, 77, 77, 45, 68, 68])]), (1, .box ⟨.raw (.loop { (aX (aM Tryz.f208) [0, 1, 0, 1, 1, 1, 1] fn tm D) with state := .done, pending := some .ret }), some l⟩ []), (2, .box ⟨.c 3, some b4⟩ [cI 0]), (3, .box ⟨.c 4, some b5⟩ [cB false]), (4, .box ⟨.c 3, some b6⟩ [cI (rdY w)]), (5, .box ⟨.c 3, some b7⟩ [cI 0]), (6, .box ⟨.c 3, some b8⟩ [cI 0]), (7, .box ⟨.c 9, some b9⟩ [cS (rs1 w)]), (202, y30)]⟩) (aC (uQ : SpG g _ _ _ _ _) (aB (readF b4 b5 b6 b7 b8 b9 D l fn tm h4 h5 h6 h7 h8 h9 hn (rdY w) 0 0 (rs1 w) (Nat.lt_of_le_of_lt (rsz1 w) hw) hA : cC Tryz.prog (Gl g) _ _ _ _ _))) (fun _ => ?_) (fun hc5 => absurd hc5 (by decide))
 refine zE hG [] .ret (⟨[], [(0, .box ⟨.c 9, some b0⟩ [cS (S [45, 77, 77, 45, 68, 68])]), (1, .box ⟨.raw (.loop { (aX (aM Tryz.f208) [0, 1, 0, 1, 1, 1, 1] fn tm D) with state := .done, pending := some .ret }), some l⟩ []), (2, .box ⟨.c 3, some b4⟩ [cI 0]), (3, .box ⟨.c 4, some b5⟩ [cB false]), (4, .box ⟨.c 3, some b6⟩ [cI (rdY w)]), (5, .box ⟨.c 3, some b7⟩ [cI 0]), (6, .box ⟨.c 3, some b8⟩ [cI 0]), (7, .box ⟨.c 9, some b9⟩ [cS (rs1 w)])]⟩) aA rfl ?_
 exact zr hG [] [] aA
theorem readItB (b0 : Nat) (b4 b5 b6 b7 b8 b9 D l : Nat) (fn : FuncId) (tm : Array Value) (h4 : tm.getD 4 undef = .pointer (some ⟨b4, 0, none⟩)) (h5 : tm.getD 5 undef = .pointer (some ⟨b5, 0, none⟩)) (h6 : tm.getD 6 undef = .pointer (some ⟨b6, 0, none⟩)) (h7 : tm.getD 7 undef = .pointer (some ⟨b7, 0, none⟩)) (h8 : tm.getD 8 undef = .pointer (some ⟨b8, 0, none⟩)) (h9 : tm.getD 9 undef = .pointer (some ⟨b9, 0, none⟩)) (hn : tm.size = 80) (w : List UInt8) (hw : w.length < 4294967281) (hA : rpA w = true) (hB : rpB w = false) :
  SpG g 172 [.c (.d (.v (.func (.yield l) #[] #[]))), .c (.bx 0 0)] [(0, .box ⟨.c 9, some b0⟩ [cS (S [89, 89, 89, 89, 45, 77, 77, 45, 68, 68])]), (1, zK Tryz.f208 [0, 1, 0, 1, 1, 1, 1] fn tm D l), (2, .box ⟨.c 3, some b4⟩ [cI 0]), (3, .box ⟨.c 4, some b5⟩ [cB false]), (4, .box ⟨.c 3, some b6⟩ [cI 0]), (5, .box ⟨.c 3, some b7⟩ [cI 0]), (6, .box ⟨.c 3, some b8⟩ [cI 0]), (7, .box ⟨.c 9, some b9⟩ [cS (S w)])] (.tup []) [(0, .box ⟨.c 9, some b0⟩ [cS (S [45, 68, 68])]), (1, .box ⟨.raw (.loop { (aX (aM Tryz.f208) [0, 1, 0, 1, 1, 1, 1] fn tm D) with state := .done, pending := some .ret }), some l⟩ []), (2, .box ⟨.c 3, some b4⟩ [cI 0]), (3, .box ⟨.c 4, some b5⟩ [cB false]), (4, .box ⟨.c 3, some b6⟩ [cI (rdY w)]), (5, .box ⟨.c 3, some b7⟩ [cI (rdM w)]), (6, .box ⟨.c 3, some b8⟩ [cI 0]), (7, .box ⟨.c 9, some b9⟩ [cS (rs3 w)])] := by
 refine aG 17 Tryz.func172 (by kernel_rfl) fun fr hG => ?_
 refine zL hG [] [0] (fun (zz : Nat) => match zz with | k => (4 - k, ⟨[(0, [], .c (.d (.v (.func (.yield l) #[] #[])))), zX 1 0 0], rdO b0 b4 b5 b6 b7 b8 b9 D l w fn tm k⟩, k ≤ 3)) 0 aA ?_ ?_
 exact Nat.zero_le _
 rintro k hI
 rcases (by omega : k = 0 ∨ k = 1 ∨ k = 2 ∨ k = 3) with rfl | rfl | rfl | rfl
 skip
 refine zc hG [] [1, 0] (true) aA (fun _ => ?_) (fun hc2 => absurd hc2 (by decide))
 refine zC hG [(1, 1, kC (y21)), (2, 2, .callG (.c (cB true)) [1, 2, 3, 4, 5, 6, 7] [(0, zK Tryz.f208 [0, 1, 0, 1, 1, 1, 1] fn tm D l), (1, .box ⟨.c 3, some b4⟩ [cI 0]), (2, .box ⟨.c 4, some b5⟩ [cB false]), (3, .box ⟨.c 3, some b6⟩ [cI (rdY w)]), (4, .box ⟨.c 3, some b7⟩ [cI 0]), (5, .box ⟨.c 3, some b8⟩ [cI 0]), (6, .box ⟨.c 9, some b9⟩ [cS (rs1 w)])])] [1, 0, 1, 0, 1] (false) (⟨[(0, [], .c (.d (.v (.func (.yield l) #[] #[])))), zX 1 0 0, zX 3 202 0], [(0, .box ⟨.c 9, some b0⟩ [cS (S [89, 89, 89, 89, 45, 77, 77, 45, 68, 68])]), (1, zK Tryz.f208 [0, 1, 0, 1, 1, 1, 1] fn tm D l), (2, .box ⟨.c 3, some b4⟩ [cI 0]), (3, .box ⟨.c 4, some b5⟩ [cB false]), (4, .box ⟨.c 3, some b6⟩ [cI (rdY w)]), (5, .box ⟨.c 3, some b7⟩ [cI 0]), (6, .box ⟨.c 3, some b8⟩ [cI 0]), (7, .box ⟨.c 9, some b9⟩ [cS (rs1 w)]), (202, y24)]⟩) (aC (uR : SpG g _ _ _ _ _) (aB (aK1 b4 b5 b6 b7 b8 b9 D l fn tm h4 h5 h6 h7 h8 h9 hn 0 0 0 (S w) (by rw [aF]; exact hw) : cC Tryz.prog (Gl g) _ _ _ _ _))) (fun hc3 => absurd hc3 (by decide)) (fun _ => ?_)
 refine zD hG [] 1 (aB (by decide : (0 : Int) ≤ 4 ∧ (4 : Int) ≤ ((S [89, 89, 89, 89, 45, 77, 77, 45, 68, 68]).size : Int) ∧ ((S [89, 89, 89, 89, 45, 77, 77, 45, 68, 68]).size : Int) ≤ ((S [89, 89, 89, 89, 45, 77, 77, 45, 68, 68]).size : Int))) ?_ ?_
 (try dsimp only); decide
 (try dsimp only); decide
 skip
 refine zc hG [] [1, 0] (true) aA (fun _ => ?_) (fun hc4 => absurd hc4 (by decide))
 refine zC hG [(1, 1, kC (y25)), (2, 2, .callG (.c (cB true)) [1, 2, 3, 4, 5, 6, 7] [(0, zK Tryz.f208 [0, 1, 0, 1, 1, 1, 1] fn tm D l), (1, .box ⟨.c 3, some b4⟩ [cI 0]), (2, .box ⟨.c 4, some b5⟩ [cB false]), (3, .box ⟨.c 3, some b6⟩ [cI (rdY w)]), (4, .box ⟨.c 3, some b7⟩ [cI 0]), (5, .box ⟨.c 3, some b8⟩ [cI 0]), (6, .box ⟨.c 9, some b9⟩ [cS (rs2 w)])])] [1, 0, 1, 0, 1] (false) (⟨[(0, [], .c (.d (.v (.func (.yield l) #[] #[])))), zX 1 0 0, zX 3 202 0], [(0, .box ⟨.c 9, some b0⟩ [cS (S [45, 77, 77, 45, 68, 68])]), (1, zK Tryz.f208 [0, 1, 0, 1, 1, 1, 1] fn tm D l), (2, .box ⟨.c 3, some b4⟩ [cI 0]), (3, .box ⟨.c 4, some b5⟩ [cB false]), (4, .box ⟨.c 3, some b6⟩ [cI (rdY w)]), (5, .box ⟨.c 3, some b7⟩ [cI 0]), (6, .box ⟨.c 3, some b8⟩ [cI 0]), (7, .box ⟨.c 9, some b9⟩ [cS (rs2 w)]), (202, y30)]⟩) (aC (uQ : SpG g _ _ _ _ _) (aB (readS b4 b5 b6 b7 b8 b9 D l fn tm h4 h5 h6 h7 h8 h9 hn (rdY w) 0 0 (rs1 w) (Nat.lt_of_le_of_lt (rsz1 w) hw) hA : cC Tryz.prog (Gl g) _ _ _ _ _))) (fun hc5 => absurd hc5 (by decide)) (fun _ => ?_)
 refine zD hG [] 2 (aB (by decide : (0 : Int) ≤ 1 ∧ (1 : Int) ≤ ((S [45, 77, 77, 45, 68, 68]).size : Int) ∧ ((S [45, 77, 77, 45, 68, 68]).size : Int) ≤ ((S [45, 77, 77, 45, 68, 68]).size : Int))) ?_ ?_
 (try dsimp only); decide
 (try dsimp only); decide
 skip
 refine zc hG [] [1, 0] (true) aA (fun _ => ?_) (fun hc6 => absurd hc6 (by decide))
 refine zC hG [(1, 1, kC (y26)), (2, 2, .callG (.c (cB true)) [1, 2, 3, 4, 5, 6, 7] [(0, zK Tryz.f208 [0, 1, 0, 1, 1, 1, 1] fn tm D l), (1, .box ⟨.c 3, some b4⟩ [cI 0]), (2, .box ⟨.c 4, some b5⟩ [cB false]), (3, .box ⟨.c 3, some b6⟩ [cI (rdY w)]), (4, .box ⟨.c 3, some b7⟩ [cI (rdM w)]), (5, .box ⟨.c 3, some b8⟩ [cI 0]), (6, .box ⟨.c 9, some b9⟩ [cS (rs3 w)])])] [1, 0, 1, 0, 1] (false) (⟨[(0, [], .c (.d (.v (.func (.yield l) #[] #[])))), zX 1 0 0, zX 3 202 0], [(0, .box ⟨.c 9, some b0⟩ [cS (S [77, 77, 45, 68, 68])]), (1, zK Tryz.f208 [0, 1, 0, 1, 1, 1, 1] fn tm D l), (2, .box ⟨.c 3, some b4⟩ [cI 0]), (3, .box ⟨.c 4, some b5⟩ [cB false]), (4, .box ⟨.c 3, some b6⟩ [cI (rdY w)]), (5, .box ⟨.c 3, some b7⟩ [cI (rdM w)]), (6, .box ⟨.c 3, some b8⟩ [cI 0]), (7, .box ⟨.c 9, some b9⟩ [cS (rs3 w)]), (202, y27)]⟩) (aC (aAD : SpG g _ _ _ _ _) (aB (readM b4 b5 b6 b7 b8 b9 D l fn tm h4 h5 h6 h7 h8 h9 hn (rdY w) 0 0 (rs2 w) (Nat.lt_of_le_of_lt (rsz2 w) hw) : cC Tryz.prog (Gl g) _ _ _ _ _))) (fun hc7 => absurd hc7 (by decide)) (fun _ => ?_)
 refine zD hG [] 3 (aB (by decide : (0 : Int) ≤ 2 ∧ (2 : Int) ≤ ((S [77, 77, 45, 68, 68]).size : Int) ∧ ((S [77, 77, 45, 68, 68]).size : Int) ≤ ((S [77, 77, 45, 68, 68]).size : Int))) ?_ ?_
 (try dsimp only); decide
 (try dsimp only); decide
 skip
 refine zc hG [] [1, 0] (true) aA (fun _ => ?_) (fun hc8 => absurd hc8 (by decide))
 refine zC hG [(1, 1, kC (y25)), (2, 2, .callG (.c (cB false)) [1, 2, 3, 4, 5, 6, 7] [(0, .box ⟨.raw (.loop { (aX (aM Tryz.f208) [0, 1, 0, 1, 1, 1, 1] fn tm D) with state := .done, pending := some .ret }), some l⟩ []), (1, .box ⟨.c 3, some b4⟩ [cI 0]), (2, .box ⟨.c 4, some b5⟩ [cB false]), (3, .box ⟨.c 3, some b6⟩ [cI (rdY w)]), (4, .box ⟨.c 3, some b7⟩ [cI (rdM w)]), (5, .box ⟨.c 3, some b8⟩ [cI 0]), (6, .box ⟨.c 9, some b9⟩ [cS (rs3 w)])])] [1, 0, 1, 0, 1] (true) (⟨[(0, [], .c (.d (.v (.func (.yield l) #[] #[])))), zX 1 0 0, zX 3 202 0], [(0, .box ⟨.c 9, some b0⟩ [cS (S [45, 68, 68])]), (1, .box ⟨.raw (.loop { (aX (aM Tryz.f208) [0, 1, 0, 1, 1, 1, 1] fn tm D) with state := .done, pending := some .ret }), some l⟩ []), (2, .box ⟨.c 3, some b4⟩ [cI 0]), (3, .box ⟨.c 4, some b5⟩ [cB false]), (4, .box ⟨.c 3, some b6⟩ [cI (rdY w)]), (5, .box ⟨.c 3, some b7⟩ [cI (rdM w)]), (6, .box ⟨.c 3, some b8⟩ [cI 0]), (7, .box ⟨.c 9, some b9⟩ [cS (rs3 w)]), (202, y30)]⟩) (aC (aAC : SpG g _ _ _ _ _) (aB (readF b4 b5 b6 b7 b8 b9 D l fn tm h4 h5 h6 h7 h8 h9 hn (rdY w) (rdM w) 0 (rs3 w) (Nat.lt_of_le_of_lt (rsz3 w) hw) hB : cC Tryz.prog (Gl g) _ _ _ _ _))) (fun _ => ?_) (fun hc9 => absurd hc9 (by decide))
 refine zE hG [] .ret (⟨[], [(0, .box ⟨.c 9, some b0⟩ [cS (S [45, 68, 68])]), (1, .box ⟨.raw (.loop { (aX (aM Tryz.f208) [0, 1, 0, 1, 1, 1, 1] fn tm D) with state := .done, pending := some .ret }), some l⟩ []), (2, .box ⟨.c 3, some b4⟩ [cI 0]), (3, .box ⟨.c 4, some b5⟩ [cB false]), (4, .box ⟨.c 3, some b6⟩ [cI (rdY w)]), (5, .box ⟨.c 3, some b7⟩ [cI (rdM w)]), (6, .box ⟨.c 3, some b8⟩ [cI 0]), (7, .box ⟨.c 9, some b9⟩ [cS (rs3 w)])]⟩) aA rfl ?_
 exact zr hG [] [] aA
theorem readItC (b0 : Nat) (b4 b5 b6 b7 b8 b9 D l : Nat) (fn : FuncId) (tm : Array Value) (h4 : tm.getD 4 undef = .pointer (some ⟨b4, 0, none⟩)) (h5 : tm.getD 5 undef = .pointer (some ⟨b5, 0, none⟩)) (h6 : tm.getD 6 undef = .pointer (some ⟨b6, 0, none⟩)) (h7 : tm.getD 7 undef = .pointer (some ⟨b7, 0, none⟩)) (h8 : tm.getD 8 undef = .pointer (some ⟨b8, 0, none⟩)) (h9 : tm.getD 9 undef = .pointer (some ⟨b9, 0, none⟩)) (hn : tm.size = 80) (w : List UInt8) (hw : w.length < 4294967281) (hA : rpA w = true) (hB : rpB w = true) :
  SpG g 172 [.c (.d (.v (.func (.yield l) #[] #[]))), .c (.bx 0 0)] [(0, .box ⟨.c 9, some b0⟩ [cS (S [89, 89, 89, 89, 45, 77, 77, 45, 68, 68])]), (1, zK Tryz.f208 [0, 1, 0, 1, 1, 1, 1] fn tm D l), (2, .box ⟨.c 3, some b4⟩ [cI 0]), (3, .box ⟨.c 4, some b5⟩ [cB false]), (4, .box ⟨.c 3, some b6⟩ [cI 0]), (5, .box ⟨.c 3, some b7⟩ [cI 0]), (6, .box ⟨.c 3, some b8⟩ [cI 0]), (7, .box ⟨.c 9, some b9⟩ [cS (S w)])] (.tup []) [(0, .box ⟨.c 9, some b0⟩ [cS (S [])]), (1, zK Tryz.f208 [0, 1, 0, 1, 1, 1, 1] fn tm D l), (2, .box ⟨.c 3, some b4⟩ [cI 0]), (3, .box ⟨.c 4, some b5⟩ [cB false]), (4, .box ⟨.c 3, some b6⟩ [cI (rdY w)]), (5, .box ⟨.c 3, some b7⟩ [cI (rdM w)]), (6, .box ⟨.c 3, some b8⟩ [cI (rdD w)]), (7, .box ⟨.c 9, some b9⟩ [cS (rs5 w)])] := by
 refine aG 17 Tryz.func172 (by kernel_rfl) fun fr hG => ?_
 refine zL hG [] [0] (fun (zz : Nat) => match zz with | k => (6 - k, ⟨[(0, [], .c (.d (.v (.func (.yield l) #[] #[])))), zX 1 0 0], rdO b0 b4 b5 b6 b7 b8 b9 D l w fn tm k⟩, k ≤ 5)) 0 aA ?_ ?_
 exact Nat.zero_le _
 rintro k hI
 rcases (by omega : k = 0 ∨ k = 1 ∨ k = 2 ∨ k = 3 ∨ k = 4 ∨ k = 5) with rfl | rfl | rfl | rfl | rfl | rfl
 skip
 refine zc hG [] [1, 0] (true) aA (fun _ => ?_) (fun hc2 => absurd hc2 (by decide))
 refine zC hG [(1, 1, kC (y21)), (2, 2, .callG (.c (cB true)) [1, 2, 3, 4, 5, 6, 7] [(0, zK Tryz.f208 [0, 1, 0, 1, 1, 1, 1] fn tm D l), (1, .box ⟨.c 3, some b4⟩ [cI 0]), (2, .box ⟨.c 4, some b5⟩ [cB false]), (3, .box ⟨.c 3, some b6⟩ [cI (rdY w)]), (4, .box ⟨.c 3, some b7⟩ [cI 0]), (5, .box ⟨.c 3, some b8⟩ [cI 0]), (6, .box ⟨.c 9, some b9⟩ [cS (rs1 w)])])] [1, 0, 1, 0, 1] (false) (⟨[(0, [], .c (.d (.v (.func (.yield l) #[] #[])))), zX 1 0 0, zX 3 202 0], [(0, .box ⟨.c 9, some b0⟩ [cS (S [89, 89, 89, 89, 45, 77, 77, 45, 68, 68])]), (1, zK Tryz.f208 [0, 1, 0, 1, 1, 1, 1] fn tm D l), (2, .box ⟨.c 3, some b4⟩ [cI 0]), (3, .box ⟨.c 4, some b5⟩ [cB false]), (4, .box ⟨.c 3, some b6⟩ [cI (rdY w)]), (5, .box ⟨.c 3, some b7⟩ [cI 0]), (6, .box ⟨.c 3, some b8⟩ [cI 0]), (7, .box ⟨.c 9, some b9⟩ [cS (rs1 w)]), (202, y24)]⟩) (aC (uR : SpG g _ _ _ _ _) (aB (aK1 b4 b5 b6 b7 b8 b9 D l fn tm h4 h5 h6 h7 h8 h9 hn 0 0 0 (S w) (by rw [aF]; exact hw) : cC Tryz.prog (Gl g) _ _ _ _ _))) (fun hc3 => absurd hc3 (by decide)) (fun _ => ?_)
 refine zD hG [] 1 (aB (by decide : (0 : Int) ≤ 4 ∧ (4 : Int) ≤ ((S [89, 89, 89, 89, 45, 77, 77, 45, 68, 68]).size : Int) ∧ ((S [89, 89, 89, 89, 45, 77, 77, 45, 68, 68]).size : Int) ≤ ((S [89, 89, 89, 89, 45, 77, 77, 45, 68, 68]).size : Int))) ?_ ?_
 (try dsimp only); decide
 (try dsimp only); decide
 skip
 refine zc hG [] [1, 0] (true) aA (fun _ => ?_) (fun hc4 => absurd hc4 (by decide))
 refine zC hG [(1, 1, kC (y25)), (2, 2, .callG (.c (cB true)) [1, 2, 3, 4, 5, 6, 7] [(0, zK Tryz.f208 [0, 1, 0, 1, 1, 1, 1] fn tm D l), (1, .box ⟨.c 3, some b4⟩ [cI 0]), (2, .box ⟨.c 4, some b5⟩ [cB false]), (3, .box ⟨.c 3, some b6⟩ [cI (rdY w)]), (4, .box ⟨.c 3, some b7⟩ [cI 0]), (5, .box ⟨.c 3, some b8⟩ [cI 0]), (6, .box ⟨.c 9, some b9⟩ [cS (rs2 w)])])] [1, 0, 1, 0, 1] (false) (⟨[(0, [], .c (.d (.v (.func (.yield l) #[] #[])))), zX 1 0 0, zX 3 202 0], [(0, .box ⟨.c 9, some b0⟩ [cS (S [45, 77, 77, 45, 68, 68])]), (1, zK Tryz.f208 [0, 1, 0, 1, 1, 1, 1] fn tm D l), (2, .box ⟨.c 3, some b4⟩ [cI 0]), (3, .box ⟨.c 4, some b5⟩ [cB false]), (4, .box ⟨.c 3, some b6⟩ [cI (rdY w)]), (5, .box ⟨.c 3, some b7⟩ [cI 0]), (6, .box ⟨.c 3, some b8⟩ [cI 0]), (7, .box ⟨.c 9, some b9⟩ [cS (rs2 w)]), (202, y30)]⟩) (aC (uQ : SpG g _ _ _ _ _) (aB (readS b4 b5 b6 b7 b8 b9 D l fn tm h4 h5 h6 h7 h8 h9 hn (rdY w) 0 0 (rs1 w) (Nat.lt_of_le_of_lt (rsz1 w) hw) hA : cC Tryz.prog (Gl g) _ _ _ _ _))) (fun hc5 => absurd hc5 (by decide)) (fun _ => ?_)
 refine zD hG [] 2 (aB (by decide : (0 : Int) ≤ 1 ∧ (1 : Int) ≤ ((S [45, 77, 77, 45, 68, 68]).size : Int) ∧ ((S [45, 77, 77, 45, 68, 68]).size : Int) ≤ ((S [45, 77, 77, 45, 68, 68]).size : Int))) ?_ ?_
 (try dsimp only); decide
 (try dsimp only); decide
 skip
 refine zc hG [] [1, 0] (true) aA (fun _ => ?_) (fun hc6 => absurd hc6 (by decide))
 refine zC hG [(1, 1, kC (y26)), (2, 2, .callG (.c (cB true)) [1, 2, 3, 4, 5, 6, 7] [(0, zK Tryz.f208 [0, 1, 0, 1, 1, 1, 1] fn tm D l), (1, .box ⟨.c 3, some b4⟩ [cI 0]), (2, .box ⟨.c 4, some b5⟩ [cB false]), (3, .box ⟨.c 3, some b6⟩ [cI (rdY w)]), (4, .box ⟨.c 3, some b7⟩ [cI (rdM w)]), (5, .box ⟨.c 3, some b8⟩ [cI 0]), (6, .box ⟨.c 9, some b9⟩ [cS (rs3 w)])])] [1, 0, 1, 0, 1] (false) (⟨[(0, [], .c (.d (.v (.func (.yield l) #[] #[])))), zX 1 0 0, zX 3 202 0], [(0, .box ⟨.c 9, some b0⟩ [cS (S [77, 77, 45, 68, 68])]), (1, zK Tryz.f208 [0, 1, 0, 1, 1, 1, 1] fn tm D l), (2, .box ⟨.c 3, some b4⟩ [cI 0]), (3, .box ⟨.c 4, some b5⟩ [cB false]), (4, .box ⟨.c 3, some b6⟩ [cI (rdY w)]), (5, .box ⟨.c 3, some b7⟩ [cI (rdM w)]), (6, .box ⟨.c 3, some b8⟩ [cI 0]), (7, .box ⟨.c 9, some b9⟩ [cS (rs3 w)]), (202, y27)]⟩) (aC (aAD : SpG g _ _ _ _ _) (aB (readM b4 b5 b6 b7 b8 b9 D l fn tm h4 h5 h6 h7 h8 h9 hn (rdY w) 0 0 (rs2 w) (Nat.lt_of_le_of_lt (rsz2 w) hw) : cC Tryz.prog (Gl g) _ _ _ _ _))) (fun hc7 => absurd hc7 (by decide)) (fun _ => ?_)
 refine zD hG [] 3 (aB (by decide : (0 : Int) ≤ 2 ∧ (2 : Int) ≤ ((S [77, 77, 45, 68, 68]).size : Int) ∧ ((S [77, 77, 45, 68, 68]).size : Int) ≤ ((S [77, 77, 45, 68, 68]).size : Int))) ?_ ?_
 (try dsimp only); decide
 (try dsimp only); decide
 skip
 refine zc hG [] [1, 0] (true) aA (fun _ => ?_) (fun hc8 => absurd hc8 (by decide))
 refine zC hG [(1, 1, kC (y25)), (2, 2, .callG (.c (cB true)) [1, 2, 3, 4, 5, 6, 7] [(0, zK Tryz.f208 [0, 1, 0, 1, 1, 1, 1] fn tm D l), (1, .box ⟨.c 3, some b4⟩ [cI 0]), (2, .box ⟨.c 4, some b5⟩ [cB false]), (3, .box ⟨.c 3, some b6⟩ [cI (rdY w)]), (4, .box ⟨.c 3, some b7⟩ [cI (rdM w)]), (5, .box ⟨.c 3, some b8⟩ [cI 0]), (6, .box ⟨.c 9, some b9⟩ [cS (rs4 w)])])] [1, 0, 1, 0, 1] (false) (⟨[(0, [], .c (.d (.v (.func (.yield l) #[] #[])))), zX 1 0 0, zX 3 202 0], [(0, .box ⟨.c 9, some b0⟩ [cS (S [45, 68, 68])]), (1, zK Tryz.f208 [0, 1, 0, 1, 1, 1, 1] fn tm D l), (2, .box ⟨.c 3, some b4⟩ [cI 0]), (3, .box ⟨.c 4, some b5⟩ [cB false]), (4, .box ⟨.c 3, some b6⟩ [cI (rdY w)]), (5, .box ⟨.c 3, some b7⟩ [cI (rdM w)]), (6, .box ⟨.c 3, some b8⟩ [cI 0]), (7, .box ⟨.c 9, some b9⟩ [cS (rs4 w)]), (202, y30)]⟩) (aC (aAC : SpG g _ _ _ _ _) (aB (readS b4 b5 b6 b7 b8 b9 D l fn tm h4 h5 h6 h7 h8 h9 hn (rdY w) (rdM w) 0 (rs3 w) (Nat.lt_of_le_of_lt (rsz3 w) hw) hB : cC Tryz.prog (Gl g) _ _ _ _ _))) (fun hc9 => absurd hc9 (by decide)) (fun _ => ?_)
 refine zD hG [] 4 (aB (by decide : (0 : Int) ≤ 1 ∧ (1 : Int) ≤ ((S [45, 68, 68]).size : Int) ∧ ((S [45, 68, 68]).size : Int) ≤ ((S [45, 68, 68]).size : Int))) ?_ ?_
 (try dsimp only); decide
 (try dsimp only); decide
 skip
 refine zc hG [] [1, 0] (true) aA (fun _ => ?_) (fun hc10 => absurd hc10 (by decide))
 refine zC hG [(1, 1, kC (y28)), (2, 2, .callG (.c (cB true)) [1, 2, 3, 4, 5, 6, 7] [(0, zK Tryz.f208 [0, 1, 0, 1, 1, 1, 1] fn tm D l), (1, .box ⟨.c 3, some b4⟩ [cI 0]), (2, .box ⟨.c 4, some b5⟩ [cB false]), (3, .box ⟨.c 3, some b6⟩ [cI (rdY w)]), (4, .box ⟨.c 3, some b7⟩ [cI (rdM w)]), (5, .box ⟨.c 3, some b8⟩ [cI (rdD w)]), (6, .box ⟨.c 9, some b9⟩ [cS (rs5 w)])])] [1, 0, 1, 0, 1] (false) (⟨[(0, [], .c (.d (.v (.func (.yield l) #[] #[])))), zX 1 0 0, zX 3 202 0], [(0, .box ⟨.c 9, some b0⟩ [cS (S [68, 68])]), (1, zK Tryz.f208 [0, 1, 0, 1, 1, 1, 1] fn tm D l), (2, .box ⟨.c 3, some b4⟩ [cI 0]), (3, .box ⟨.c 4, some b5⟩ [cB false]), (4, .box ⟨.c 3, some b6⟩ [cI (rdY w)]), (5, .box ⟨.c 3, some b7⟩ [cI (rdM w)]), (6, .box ⟨.c 3, some b8⟩ [cI (rdD w)]), (7, .box ⟨.c 9, some b9⟩ [cS (rs5 w)]), (202, y29)]⟩) (aC (aFG : SpG g _ _ _ _ _) (aB (readD b4 b5 b6 b7 b8 b9 D l fn tm h4 h5 h6 h7 h8 h9 hn (rdY w) (rdM w) 0 (rs4 w) (Nat.lt_of_le_of_lt (rsz4 w) hw) : cC Tryz.prog (Gl g) _ _ _ _ _))) (fun hc11 => absurd hc11 (by decide)) (fun _ => ?_)
 refine zD hG [] 5 (aB (by decide : (0 : Int) ≤ 2 ∧ (2 : Int) ≤ ((S [68, 68]).size : Int) ∧ ((S [68, 68]).size : Int) ≤ ((S [68, 68]).size : Int))) ?_ ?_
 (try dsimp only); decide
 (try dsimp only); decide
 skip
 refine zc hG [] [1, 0] (false) aA (fun hc12 => absurd hc12 (by decide)) (fun _ => ?_)
 refine zE hG [] (.exit 0) (⟨[], [(0, .box ⟨.c 9, some b0⟩ [cS (S [])]), (1, zK Tryz.f208 [0, 1, 0, 1, 1, 1, 1] fn tm D l), (2, .box ⟨.c 3, some b4⟩ [cI 0]), (3, .box ⟨.c 4, some b5⟩ [cB false]), (4, .box ⟨.c 3, some b6⟩ [cI (rdY w)]), (5, .box ⟨.c 3, some b7⟩ [cI (rdM w)]), (6, .box ⟨.c 3, some b8⟩ [cI (rdD w)]), (7, .box ⟨.c 9, some b9⟩ [cS (rs5 w)])]⟩) aA rfl ?_
 exact zr hG [] [] aA
def dZ := And.intro @dY (And.intro @aD3 (@blS))
theorem aDF (w : List UInt8) (hw : w.length < 4294967281) :
  SpG g 208 [.c (cS (S [89, 89, 89, 89, 45, 77, 77, 45, 68, 68])), .c (cS (S w))] [] (y2 (eZ w) (eG w)) [] := by
 refine aFN 80 Tryz.func208 (by kernel_rfl) fun fr hG => ?_
 refine zC hG [(1, 1, kB true)] [1, 0, 1] (false) (⟨[zS 0 (S [89, 89, 89, 89, 45, 77, 77, 45, 68, 68]), zS 1 (S w), zX 4 100 0, zX 5 101 0], [(100, .box 3 [cI 0]), (101, .box 4 [cB false])]⟩) (aB (pY : SpG g _ _ _ _ _)) (fun hc1 => absurd hc1 (by decide)) (fun _ => ?_)
 refine s7 hG cW [(5, 1, .call (.c (.fn 172 [] [(100, 0)])) [(100, y31)] [])] [0, 1, 0, 1, 1, 1, 1] (⟨[zS 0 (S [89, 89, 89, 89, 45, 77, 77, 45, 68, 68]), zS 1 (S w), zX 4 100 0, zX 5 101 0, zX 6 400 0, zX 7 401 0, zX 8 402 0, zX 9 501 0, (24, [], .c (.fn 172 [] [(601, 0)]))], [(100, .box 3 [cI 0]), (101, .box 4 [cB false]), (400, .box 3 [cI 0]), (401, .box 3 [cI 0]), (402, .box 3 [cI 0]), (501, .box 9 [cS (S w)]), (601, y31)]⟩) _ (by kernel_rfl) (aB (qC (S [89, 89, 89, 89, 45, 77, 77, 45, 68, 68]) : SpG g _ _ _ _ _)) ?_
 refine aEU (g := 24) (ps := rgP (aM Tryz.f208) [0, 1, 0, 1, 1, 1, 1]) (assign := rgA (aM Tryz.f208) [0, 1, 0, 1, 1, 1, 1]) (body := rgB (aM Tryz.f208) [0, 1, 0, 1, 1, 1, 1]) hG (by kernel_rfl) 9900 9901 9910 (by kernel_rfl) rfl (by kernel_rfl) fun b D l fn tm hT hn => ?_
 rcases aKY w with hA | ⟨hA, hB⟩ | ⟨hA, hB⟩
 skip
 refine ⟨.tup [], [601, 9901, 100, 101, 400, 401, 402, 501], [(0, .box ⟨.c 9, some (b 601)⟩ [cS (S [45, 77, 77, 45, 68, 68])]), (1, .box ⟨.raw (.loop { (aX (aM Tryz.f208) [0, 1, 0, 1, 1, 1, 1] fn tm D) with state := .done, pending := some .ret }), some l⟩ []), (2, .box ⟨.c 3, some (b 100)⟩ [cI 0]), (3, .box ⟨.c 4, some (b 101)⟩ [cB false]), (4, .box ⟨.c 3, some (b 400)⟩ [cI (rdY w)]), (5, .box ⟨.c 3, some (b 401)⟩ [cI 0]), (6, .box ⟨.c 3, some (b 402)⟩ [cI 0]), (7, .box ⟨.c 9, some (b 501)⟩ [cS (rs1 w)])], (some .ret), ⟨[zS 0 (S [89, 89, 89, 89, 45, 77, 77, 45, 68, 68]), zS 1 (S w), zX 4 100 0, zX 5 101 0, zX 6 400 0, zX 7 401 0, zX 8 402 0], [(100, .box ⟨.c 3, some (b 100)⟩ [cI 0]), (101, .box ⟨.c 4, some (b 101)⟩ [cB false]), (400, .box ⟨.c 3, some (b 400)⟩ [cI (rdY w)]), (401, .box ⟨.c 3, some (b 401)⟩ [cI 0]), (402, .box ⟨.c 3, some (b 402)⟩ [cI 0]), (9900, .box ⟨.raw (.deferred (some [])), some D⟩ [])]⟩, _, .ret, by kernel_rfl, aB (readItA (b 601) (b 100) (b 101) (b 400) (b 401) (b 402) (b 501) D l fn tm (hT.bx 4 100 0 rfl) (hT.bx 5 101 0 rfl) (hT.bx 6 400 0 rfl) (hT.bx 7 401 0 rfl) (hT.bx 8 402 0 rfl) (hT.bx 9 501 0 rfl) hn w hw hA : SpG g _ _ _ _ _), rfl, ?_⟩
 have hG0 := hG
 replace hG := j5 (D := D) hG
 refine n1 hG0 cW [] [] 9900 (y3) [] (by kernel_rfl) aA ?_ ?_
 have hno : ∀ n, 0 ≤ n → n ≤ 3652058 → aR n = w → False := by
  intro n h0 h1 he
  obtain ⟨pA, pB, py, pm, pd⟩ := kU h0 h1 he
  rw [hA] at pA; cases pA
 obtain ⟨r1, r2⟩ := kE hno
 rw [r1, r2]
 rfl
 skip
 refine ⟨.tup [], [601, 9901, 100, 101, 400, 401, 402, 501], [(0, .box ⟨.c 9, some (b 601)⟩ [cS (S [45, 68, 68])]), (1, .box ⟨.raw (.loop { (aX (aM Tryz.f208) [0, 1, 0, 1, 1, 1, 1] fn tm D) with state := .done, pending := some .ret }), some l⟩ []), (2, .box ⟨.c 3, some (b 100)⟩ [cI 0]), (3, .box ⟨.c 4, some (b 101)⟩ [cB false]), (4, .box ⟨.c 3, some (b 400)⟩ [cI (rdY w)]), (5, .box ⟨.c 3, some (b 401)⟩ [cI (rdM w)]), (6, .box ⟨.c 3, some (b 402)⟩ [cI 0]), (7, .box ⟨.c 9, some (b 501)⟩ [cS (rs3 w)])], (some .ret), ⟨[zS 0 (S [89, 89, 89, 89, 45, 77, 77, 45, 68, 68]), zS 1 (S w), zX 4 100 0, zX 5 101 0, zX 6 400 0, zX 7 401 0, zX 8 402 0], [(100, .box ⟨.c 3, some (b 100)⟩ [cI 0]), (101, .box ⟨.c 4, some (b 101)⟩ [cB false]), (400, .box ⟨.c 3, some (b 400)⟩ [cI (rdY w)]), (401, .box ⟨.c 3, some (b 401)⟩ [cI (rdM w)]), (402, .box ⟨.c 3, some (b 402)⟩ [cI 0]), (9900, .box ⟨.raw (.deferred (some [])), some D⟩ [])]⟩, _, .ret, by kernel_rfl, aB (readItB (b 601) (b 100) (b 101) (b 400) (b 401) (b 402) (b 501) D l fn tm (hT.bx 4 100 0 rfl) (hT.bx 5 101 0 rfl) (hT.bx 6 400 0 rfl) (hT.bx 7 401 0 rfl) (hT.bx 8 402 0 rfl) (hT.bx 9 501 0 rfl) hn w hw hA hB : SpG g _ _ _ _ _), rfl, ?_⟩
 have hG0 := hG
 replace hG := j5 (D := D) hG
 refine n1 hG0 cW [] [] 9900 (y3) [] (by kernel_rfl) aA ?_ ?_
 have hno : ∀ n, 0 ≤ n → n ≤ 3652058 → aR n = w → False := by
  intro n h0 h1 he
  obtain ⟨pA, pB, py, pm, pd⟩ := kU h0 h1 he
  rw [hB] at pB; cases pB
 obtain ⟨r1, r2⟩ := kE hno
 rw [r1, r2]
 rfl
 skip
 refine ⟨.tup [], [601, 9901, 100, 101, 400, 401, 402, 501], [(0, .box ⟨.c 9, some (b 601)⟩ [cS (S [])]), (1, zK Tryz.f208 [0, 1, 0, 1, 1, 1, 1] fn tm D l), (2, .box ⟨.c 3, some (b 100)⟩ [cI 0]), (3, .box ⟨.c 4, some (b 101)⟩ [cB false]), (4, .box ⟨.c 3, some (b 400)⟩ [cI (rdY w)]), (5, .box ⟨.c 3, some (b 401)⟩ [cI (rdM w)]), (6, .box ⟨.c 3, some (b 402)⟩ [cI (rdD w)]), (7, .box ⟨.c 9, some (b 501)⟩ [cS (rs5 w)])], none, ⟨[zS 0 (S [89, 89, 89, 89, 45, 77, 77, 45, 68, 68]), zS 1 (S w), zX 4 100 0, zX 5 101 0, zX 6 400 0, zX 7 401 0, zX 8 402 0], [(100, .box ⟨.c 3, some (b 100)⟩ [cI 0]), (101, .box ⟨.c 4, some (b 101)⟩ [cB false]), (400, .box ⟨.c 3, some (b 400)⟩ [cI (rdY w)]), (401, .box ⟨.c 3, some (b 401)⟩ [cI (rdM w)]), (402, .box ⟨.c 3, some (b 402)⟩ [cI (rdD w)]), (9900, .box ⟨.raw (.deferred (some [])), some D⟩ [])]⟩, _, .normal, by kernel_rfl, aB (readItC (b 601) (b 100) (b 101) (b 400) (b 401) (b 402) (b 501) D l fn tm (hT.bx 4 100 0 rfl) (hT.bx 5 101 0 rfl) (hT.bx 6 400 0 rfl) (hT.bx 7 401 0 rfl) (hT.bx 8 402 0 rfl) (hT.bx 9 501 0 rfl) hn w hw hA hB : SpG g _ _ _ _ _), rfl, ?_⟩
 have hG0 := hG
 replace hG := j5 (D := D) hG
 refine zC hG [(20, 3, kC (y2 (if eT (rdY w) (rdM w) (rdD w) then eO (rdY w) (rdM w) (rdD w) else 0) (eT (rdY w) (rdM w) (rdD w))))] [1, 0, 1, 1, 1, 1, 1, 1] (!(eT (rdY w) (rdM w) (rdD w))) (⟨[zS 0 (S [89, 89, 89, 89, 45, 77, 77, 45, 68, 68]), zS 1 (S w), zX 4 100 0, zX 5 101 0, zI 15 (if eT (rdY w) (rdM w) (rdD w) then eO (rdY w) (rdM w) (rdD w) else 0)], [(100, .box ⟨.c 3, some (b 100)⟩ [cI 0]), (101, .box ⟨.c 4, some (b 101)⟩ [cB false]), (9900, .box ⟨.raw (.deferred (some [])), some D⟩ [])]⟩) (aB (aC8 (rdY w) (rdM w) (rdD w) : SpG g _ _ _ _ _)) (fun hc2 => ?_) (fun hc2 => ?_)
 (try simp only [dZ] at hc2)
 refine n1 hG0 cW [] [] 9900 (y3) [] (by kernel_rfl) aA ?_ ?_
 have hno : ∀ n, 0 ≤ n → n ≤ 3652058 → aR n = w → False := by
  intro n h0 h1 he
  obtain ⟨pA, pB, py, pm, pd⟩ := kU h0 h1 he
  have v := aD8 (kG h0 h1).1
  rw [← py, ← pm, ← pd, hc2] at v; cases v
 obtain ⟨r1, r2⟩ := kE hno
 rw [r1, r2]
 rfl
 (try simp only [dZ] at hc2)
 refine zC hG [(23, 2, kC (y32 (S (aR (if eT (rdY w) (rdM w) (rdD w) then eO (rdY w) (rdM w) (rdD w) else 0)))))] [1, 1, 0, 1, 1, 1, 1, 1, 1, 1] (!((S (aR (if eT (rdY w) (rdM w) (rdD w) then eO (rdY w) (rdM w) (rdD w) else 0))).toList == (S w).toList)) (⟨[zX 4 100 0, zX 5 101 0, zI 15 (if eT (rdY w) (rdM w) (rdD w) then eO (rdY w) (rdM w) (rdD w) else 0)], [(100, .box ⟨.c 3, some (b 100)⟩ [cI 0]), (101, .box ⟨.c 4, some (b 101)⟩ [cB false]), (9900, .box ⟨.raw (.deferred (some [])), some D⟩ [])]⟩) (aB (xD (if eT (rdY w) (rdM w) (rdD w) then eO (rdY w) (rdM w) (rdD w) else 0) (sI _ _ _).1 (sI _ _ _).2 : SpG g _ _ _ _ _)) (fun hc3 => ?_) (fun hc3 => ?_)
 (try simp only [dZ] at hc3)
 refine n1 hG0 cW [] [] 9900 (y3) [] (by kernel_rfl) aA ?_ ?_
 have hno : ∀ n, 0 ≤ n → n ≤ 3652058 → aR n = w → False := by
  intro n h0 h1 he
  obtain ⟨pA, pB, py, pm, pd⟩ := kU h0 h1 he
  have v := aD8 (kG h0 h1).1
  have hs := (kG h0 h1).2
  rw [← py, ← pm, ← pd] at v hs
  rw [if_pos v, hs] at hc3
  exact hc3 he
 obtain ⟨r1, r2⟩ := kE hno
 rw [r1, r2]
 rfl
 (try simp only [dZ] at hc3)
 refine n1 hG0 cW [] [] 9900 (y4 (if eT (rdY w) (rdM w) (rdD w) then eO (rdY w) (rdM w) (rdD w) else 0)) [] (by kernel_rfl) aA ?_ ?_
 obtain ⟨r1, r2⟩ := nG (sI _ _ _).1 (sI _ _ _).2 hc3
 rw [r1, r2]
 rfl
theorem aAJ (w : List UInt8) (hw : w.length < 4294967281) :
  SpG g 180 [.c (cS (S w))] [] (y2 (eZ w) (eG w)) [] := by
 refine aG 8 Tryz.func180 (by kernel_rfl) fun fr hG => ?_
 exact zr hG [(1, 1, kC (y2 (eZ w) (eG w)))] [] (aB (aDF w hw : SpG g _ _ _ _ _))
end Go.Proofs.YtmpgfchkkemngaaGreatDoor
namespace Go.Proofs
open Go.Shelf Go.RowKit Go.Lib
variable {P : Program} {ρ : Ren}
theorem aNA {r : Int} (h0 : 128 ≤ r) (hv : Lib.validRune r = true) : (∃ x y : UInt8, Utf8.encode r = ⟨#[x, y]⟩ ∧ 128 ≤ y.toNat) ∨ (∃ x y z : UInt8, Utf8.encode r = ⟨#[x, y, z]⟩ ∧ 128 ≤ z.toNat) ∨ (∃ x y z u : UInt8, Utf8.encode r = ⟨#[x, y, z, u]⟩ ∧ 128 ≤ u.toNat) := by
 have hv2 : Utf8.valid r = true := by
  simp only [Lib.validRune, decide_eq_true_eq] at hv
  simp only [Utf8.valid, Bool.or_eq_true, Bool.and_eq_true, decide_eq_true_eq]; omega
 unfold Utf8.encode
 rw [hv2]
 simp only [if_true]
 rw [if_neg (by omega)]
 have hb : ∀ n : Nat, 128 ≤ (UInt8.ofNat (128 + n % 64)).toNat := by
  intro n; rw [UInt8.toNat_ofNat']; omega
 split
 exact .inl ⟨_, _, rfl, hb _⟩
 split
 exact .inr (.inl ⟨_, _, _, rfl, hb _⟩)
 exact .inr (.inr ⟨_, _, _, _, rfl, hb _⟩)
theorem aHB : ∀ {l : List UInt8} {c : UInt8}, 128 ≤ c.toNat → l.all (fun b => decide (b.toNat < 128)) = true → Lib.indexByte l c = -1
 | [], _, _, _ => rfl
 | b :: l, c, h, ha => by
  rw [List.all_cons, Bool.and_eq_true, decide_eq_true_eq] at ha
  have hb : (b == c) = false := by
   rw [beq_eq_false_iff_ne]; rintro rfl; omega
  rw [Lib.indexByte, hb, aHB h ha.2]; rfl
theorem Any.ib_call (L : Lays.n152 P ρ) (s : ByteArray) (c : UInt8) (w : World) (hc : 128 ≤ c.toNat) (hs : s.data.toList.all (fun b => decide (b.toNat < 128)) = true) :
  Calls P (ρ.f 137) #[.string s, .int .u8 c.toNat] w fun e w' => e = .returned (.int .i64 (-1)) ∧ w' = w := by
 have := Any.strings_IndexByte { L with } s (c.toNat : Int) w
 rw [show ((c.toNat : Int)).toNat.toUInt8 = c by simp, aHB hc hs] at this; exact this
set_option maxHeartbeats 4000000 in
set_option maxRecDepth 1000000 in
theorem Any.indexRune_high (L : Lays.n152 P ρ) (r : Int) (w : World) (h0 : 128 ≤ r) (h1 : r ≤ 2147483647) (hr : ¬ r = 65533) :
  Calls P (ρ.f 152) #[.string ⟨#[44, 59, 93, 124]⟩, .int .i32 r] w fun e w' => e = .returned (.int .i64 (-1)) ∧ ∃ n, w' = w.drewN n := by
 have t3 := L.t3; have a3 := L.a3; have z3 := L.z3; have v3 := L.v3
 have t4 := L.t4; have a4 := L.a4; have z4 := L.z4; have v4 := L.v4
 have t5 := L.t5; have a5 := L.a5; have z5 := L.z5; have v5 := L.v5
 have t9 := L.t9; have a9 := L.a9; have z9 := L.z9; have v9 := L.v9
 have t21 := L.t21; have a21 := L.a21; have z21 := L.z21; have v21 := L.v21
 have e137 : ∀ args w, (callFunc (ρ.f 137) args).run P w = .ok (.enter (ρ.f 137) args) w := enters_of L.f137 (by kernel_rfl) rfl
 have hmx := L.mixed
 have e119 : ∀ args w, (callFunc (ρ.f 119) args).run P w = .ok (.enter (ρ.f 119) args) w := enters_of L.f119 (by kernel_rfl) rfl
 have hb1 : decide ((0 : Int) ≤ r) = true := decide_eq_true (by omega)
 have hb2 : decide (r < (128 : Int)) = false := decide_eq_false (by omega)
 have hb3 : (r == (65533 : Int)) = false := beq_eq_false_iff_ne.2 hr
 go_enter L.f152, Body.n152_ntmps ρ
 cases hvr : Lib.validRune r with
 | false =>
  go_wp2_with (go_at_fn (ρ.f 119); refine (Any.utf8_ValidRune { L with } _ _).mono ?_; rintro e w' ⟨rfl, hw⟩; rw [hw, hvr])
  go_ret
  exact ⟨rfl, 0, rfl⟩
 | true =>
  go_wp2_with (go_at_fn (ρ.f 119); refine (Any.utf8_ValidRune { L with } _ _).mono ?_; rintro e w' ⟨rfl, hw⟩; rw [hw, hvr])
  go_step3
  rcases aNA h0 hvr with ⟨x, y, he, hy⟩ | ⟨x, y, z, he, hy⟩ | ⟨x, y, z, u, he, hy⟩
  ·have hne : (((ByteArray.mk #[44, 59, 93, 124])[1]'(by decide)).toNat != (((ByteArray.mk #[x, y])[1]'(by show 1 < 2; decide)).toNat : Int)) = true := by
    show ((59 : Int) != (y.toNat : Int)) = true
    simp; omega
   have f1 : (1 : Int) < ((ByteArray.mk #[44, 59, 93, 124]).size : Int) := by decide
   have f2 : (1 : Int) < ((ByteArray.mk #[x, y]).size : Int) := by show (1 : Int) < (2 : Int); decide
   have f3 : (2 : Int) ≤ ((ByteArray.mk #[44, 59, 93, 124]).size : Int) := by decide
   go_wp2
   go_loopg [9] 0 (fun g s9 wx => wx = w ∧ s9 = .int .i64 1)
   case atStart => exact ⟨rfl, rfl⟩
   case round =>
    obtain ⟨rfl, rfl⟩ := hrel
    go_wp2
    go_step3
    go_wp2
    go_region_o
    all_goals go_wp2
    all_goals (go_region_with_o (go_at_fn (ρ.f 137); refine (Any.ib_call L _ _ _ (by exact hy) (by decide)).mono ?_; rintro e w' ⟨rfl, hw⟩; rw [hw]))
    all_goals (go_wp2; rw [Exit.noGoto_ret]; go_wp2; (try rw [Exit.noGoto_ret]); (try go_wp2); go_ret; exact ⟨rfl, 2, rfl⟩)
  ·have hne : (((ByteArray.mk #[44, 59, 93, 124])[2]'(by decide)).toNat != (((ByteArray.mk #[x, y, z])[2]'(by show 2 < 3; decide)).toNat : Int)) = true := by
    show ((93 : Int) != (z.toNat : Int)) = true
    simp; omega
   have f1 : (2 : Int) < ((ByteArray.mk #[44, 59, 93, 124]).size : Int) := by decide
   have f2 : (2 : Int) < ((ByteArray.mk #[x, y, z]).size : Int) := by show (2 : Int) < (3 : Int); decide
   have f3 : (3 : Int) ≤ ((ByteArray.mk #[44, 59, 93, 124]).size : Int) := by decide
   go_wp2
   go_loopg [9] 0 (fun g s9 wx => wx = w ∧ s9 = .int .i64 2)
   case atStart => exact ⟨rfl, rfl⟩
   case round =>
    obtain ⟨rfl, rfl⟩ := hrel
    go_wp2
    go_step3
    go_wp2
    go_region_o
    all_goals go_wp2
    all_goals (go_region_with_o (go_at_fn (ρ.f 137); refine (Any.ib_call L _ _ _ (by exact hy) (by decide)).mono ?_; rintro e w' ⟨rfl, hw⟩; rw [hw]))
    all_goals (go_wp2; rw [Exit.noGoto_ret]; go_wp2; (try rw [Exit.noGoto_ret]); (try go_wp2); go_ret; exact ⟨rfl, 2, rfl⟩)
  ·have hne : (((ByteArray.mk #[44, 59, 93, 124])[3]'(by decide)).toNat != (((ByteArray.mk #[x, y, z, u])[3]'(by show 3 < 4; decide)).toNat : Int)) = true := by
    show ((124 : Int) != (u.toNat : Int)) = true
    simp; omega
   have f1 : (3 : Int) < ((ByteArray.mk #[44, 59, 93, 124]).size : Int) := by decide
   have f2 : (3 : Int) < ((ByteArray.mk #[x, y, z, u]).size : Int) := by show (3 : Int) < (4 : Int); decide
   have f3 : (4 : Int) ≤ ((ByteArray.mk #[44, 59, 93, 124]).size : Int) := by decide
   go_wp2
   go_loopg [9] 0 (fun g s9 wx => wx = w ∧ s9 = .int .i64 3)
   case atStart => exact ⟨rfl, rfl⟩
   case round =>
    obtain ⟨rfl, rfl⟩ := hrel
    go_wp2
    go_step3
    go_wp2
    go_region_o
    all_goals go_wp2
    all_goals (go_region_with_o (go_at_fn (ρ.f 137); refine (Any.ib_call L _ _ _ (by exact hy) (by decide)).mono ?_; rintro e w' ⟨rfl, hw⟩; rw [hw]))
    all_goals (go_wp2; rw [Exit.noGoto_ret]; go_wp2; (try rw [Exit.noGoto_ret]); (try go_wp2); go_ret; exact ⟨rfl, 2, rfl⟩)
set_option maxHeartbeats 4000000 in
set_option maxRecDepth 1000000 in
theorem Any.indexRune_err (L : Lays.n152 P ρ) (w : World) :
  Calls P (ρ.f 152) #[.string ⟨#[44, 59, 93, 124]⟩, .int .i32 65533] w fun e w' => e = .returned (.int .i64 (-1)) ∧ ∃ pos, w' = w.iter ⟨#[44, 59, 93, 124]⟩ pos := by
 have t3 := L.t3; have a3 := L.a3; have z3 := L.z3; have v3 := L.v3
 have t4 := L.t4; have a4 := L.a4; have z4 := L.z4; have v4 := L.v4
 have t5 := L.t5; have a5 := L.a5; have z5 := L.z5; have v5 := L.v5
 have t9 := L.t9; have a9 := L.a9; have z9 := L.z9; have v9 := L.v9
 have t21 := L.t21; have a21 := L.a21; have z21 := L.z21; have v21 := L.v21
 have hmx := L.mixed
 generalize hS : (⟨#[44, 59, 93, 124]⟩ : ByteArray) = s
 have HA : Aside (∀ (j : Nat) b, s.data.toList[j]? = some b → b.toNat < 128) := by
  intro j b h
  have hm : b ∈ s.data.toList := List.mem_of_getElem? h
  rw [← hS] at hm
  have hm : b ∈ [44, 59, 93, 124] := hm
  simp only [List.mem_cons, List.not_mem_nil, or_false] at hm
  rcases hm with rfl | rfl | rfl | rfl <;> decide
 clear hS
 go_enter L.f152, Body.n152_ntmps ρ
 go_wp2
 go_loopg [5, 6] s.size (fun g _ _ wx => ∃ i : Nat, i + g = s.size ∧ wx = w.iter s i)
 case atStart => exact ⟨0, by omega, rfl⟩
 case round =>
  obtain ⟨i, hig, rfl⟩ := hrel
  cases gk with
  | zero =>
   obtain rfl : i = s.size := by omega
   have hnx := run_next_end (P := P) w s s.size
   go_wp2
   go_ret
   exact ⟨rfl, _, rfl⟩
  | succ g =>
   have hi : i < s.size := by omega
   obtain ⟨x, hx⟩ : ∃ x : UInt8, s[i]'hi = x := ⟨_, rfl⟩
   have hxl : s.data.toList[i]? = some x := by rw [← hx]; exact Lib.data_getElem? s i hi
   have hx128 : x.toNat < 128 := HA.out i x hxl
   have hnx := fun ty => run_next_ascii (P := P) w s i ty hi (by rw [hx]; exact hx128)
   rw [hx] at hnx
   clear hxl hx
   have hne : ((x.toNat : Int) == (65533 : Int)) = false := beq_eq_false_iff_ne.2 (by omega)
   go_wp2
   go_roundg g
   case measure => omega
   case rel => exact ⟨i + 1, by omega, rfl⟩
end Go.Proofs
namespace Go.Proofs
open Go.Shelf Go.RowKit Go.Lib
variable {P : Program} {ρ : Ren}
theorem aMH {s : ByteArray} {j : Nat} {b : UInt8} (h : s.data.toList[j]? = some b) : s.get! j = b := by
 have hj : j < s.data.toList.length := (List.getElem?_eq_some_iff.1 h).1
 have hs : j < s.size := by rw [Lib.size_eq]; exact hj
 have := get_at s j hs
 rw [Nat.add_zero] at this
 rw [this]
 have h2 := Lib.data_getElem? s j hs
 rw [h] at h2; exact (Option.some.inj h2).symm
theorem sG {s : ByteArray} {pos k : Nat} (h : pos < s.size) (ha : 128 ≤ (s[pos]'h).toNat) (hk : 1 ≤ k) (hm : ∀ m, 1 ≤ m → m < k → pos + m < s.size ∧ (s.get! (pos + m)).toNat / 64 = 2) :
  pos + k ≤ s.size ∧ ∀ (j : Nat) b, pos ≤ j → j < pos + k → s.data.toList[j]? = some b → 128 ≤ b.toNat := by
 refine ⟨?_, fun j b h1 h2 hj => ?_⟩
 rcases Nat.lt_or_ge 1 k with h1 | h1
 have := (hm (k - 1) (by omega) (by omega)).1; omega
 omega
 have hb := aMH hj
 rcases Nat.lt_or_ge pos j with h3 | h3
 have := (hm (j - pos) (by omega) (by omega)).2
 rw [show pos + (j - pos) = j by omega, hb] at this; omega
 obtain rfl : j = pos := by omega
 have e := Lib.data_getElem? s j h
 rw [hj] at e
 rw [Option.some.inj e]; exact ha
theorem aDA (s : ByteArray) (pos : Nat) (h : pos < s.size) (ha : 128 ≤ (s[pos]'h).toNat) :
  1 ≤ (Utf8.decode s pos).2 ∧ pos + (Utf8.decode s pos).2 ≤ s.size ∧ ∀ (j : Nat) b, pos ≤ j → j < pos + (Utf8.decode s pos).2 → s.data.toList[j]? = some b → 128 ≤ b.toNat := by
 have hn : ¬ (s[pos]'h).toNat < 128 := by omega
 have one := sG (k := 1) h ha (Nat.le_refl _) (fun m h1 h2 => by omega)
 simp only [Utf8.decode, get_at s pos h, hn, if_false]
 split
 rename_i hc
 split
 simp only [Bool.and_eq_true, decide_eq_true_eq, beq_iff_eq] at hc
 exact ⟨Nat.le_of_ble_eq_true rfl, sG (k := 2) h ha (by decide) (fun m h1 h2 => by
  obtain rfl : m = 1 := by omega
  exact hc.2)⟩
 exact ⟨by decide, one⟩
 split
 rename_i hc
 split
 simp only [Bool.and_eq_true, decide_eq_true_eq, beq_iff_eq] at hc
 exact ⟨Nat.le_of_ble_eq_true rfl, sG (k := 3) h ha (by decide) (fun m h1 h2 => by
  rcases (by omega : m = 1 ∨ m = 2) with rfl | rfl
  exact hc.1.2
  exact hc.2)⟩
 exact ⟨by decide, one⟩
 split
 rename_i hc
 split
 simp only [Bool.and_eq_true, decide_eq_true_eq, beq_iff_eq] at hc
 exact ⟨Nat.le_of_ble_eq_true rfl, sG (k := 4) h ha (by decide) (fun m h1 h2 => by
  rcases (by omega : m = 1 ∨ m = 2 ∨ m = 3) with rfl | rfl | rfl
  exact hc.1.1.2
  exact hc.1.2
  exact hc.2)⟩
 exact ⟨by decide, one⟩
 exact ⟨by decide, one⟩
theorem run_next_at (w : World) (b : Nat) (s : ByteArray) (pos : Nat) (ty : TypeId) (hh : w.heap[b]? = some (.stringIter s pos)) (h : pos < s.size) :
  (Instr.next (.pointer (some ⟨b, 0, none⟩)) true ty).run P w = .ok (.tuple #[.bool true, .int .i64 pos, .int .i32 (Utf8.decode s pos).1]) (w.putObj b (.stringIter s (pos + (Utf8.decode s pos).2))) := by
 simp [Instr.next, getObj, setObj, Sem.run_bind, Sem.run, hh, Result.andThen, h, goInt, World.putObj]
theorem r8 (w : World) (b : Nat) (s : ByteArray) (pos : Nat) (ty : TypeId) (hh : w.heap[b]? = some (.stringIter s pos)) (h : ¬ pos < s.size) :
  (Instr.next (.pointer (some ⟨b, 0, none⟩)) true ty).run P w = .ok (.tuple #[.bool false]) w := by
 simp [Instr.next, getObj, Sem.run_bind, Sem.run, hh, Result.andThen, h]
theorem aJR {w wx : World} {b : Nat} {o : Obj} (hb : w.heap.size ≤ b) (h : Below w.heap.size w wx) : Below w.heap.size w (wx.putObj b o) :=
 ⟨h.os, h.tape, h.output, by rw [World.putObj_size]; exact h.size, fun k hk => by rw [World.putObj_heap_other (by omega)]; exact h.block k hk⟩
def seps : List UInt8 := [44, 59, 93, 124]
def lU (r : Int) : Int := if r < 128 then Lib.indexByte seps r.toNat.toUInt8 else -1
theorem Any.indexRune_S4 (L : Lays.n152 P ρ) (r : Int) (w : World) (h0 : 0 ≤ r) (h1 : r ≤ 2147483647) :
  Calls P (ρ.f 152) #[.string ⟨#[44, 59, 93, 124]⟩, .int .i32 r] w fun e w' => e = .returned (.int .i64 (lU r)) ∧ Below w.heap.size w w' := by
 by_cases h : r < 128
 refine (Any.strings_IndexRune_ascii L ⟨#[44, 59, 93, 124]⟩ r w h0 h).mono ?_
 rintro e w' ⟨rfl, rfl⟩
 exact ⟨by rw [lU, if_pos h]; rfl, Below.refl _ _⟩
 rw [lU, if_neg h]
 by_cases hr : r = 65533
 subst hr
 refine (Any.indexRune_err L w).mono ?_
 rintro e w' ⟨rfl, pos, rfl⟩
 exact ⟨rfl, (Below.refl _ w).alloc (Nat.le_refl _) _⟩
 refine (Any.indexRune_high L r w (by omega) h1 hr).mono ?_
 rintro e w' ⟨rfl, n, rfl⟩
 exact ⟨rfl, below_drewN (Below.refl _ w) n⟩
set_option maxHeartbeats 4000000 in
set_option maxRecDepth 1000000 in
theorem Any.indexAny_short (L : Lays.n153 P ρ) (s : ByteArray) (w : World) (h8 : s.size ≤ 8) :
  Calls P (ρ.f 153) #[.string s, .string ⟨#[44, 59, 93, 124]⟩] w fun e w' => e = .returned (.int .i64 (Lib.indexAny s.data.toList seps)) ∧ Below w.heap.size w w' := by
 have h8z : decide ((8 : Int) < (s.size : Int)) = false := decide_eq_false (by omega)
 have t3 := L.t3; have a3 := L.a3; have z3 := L.z3; have v3 := L.v3
 have t4 := L.t4; have a4 := L.a4; have z4 := L.z4; have v4 := L.v4
 have t5 := L.t5; have a5 := L.a5; have z5 := L.z5; have v5 := L.v5
 have t9 := L.t9; have a9 := L.a9; have z9 := L.z9; have v9 := L.v9
 have t21 := L.t21; have a21 := L.a21; have z21 := L.z21; have v21 := L.v21
 have hmx := L.mixed
 have e152 : ∀ args w, (callFunc (ρ.f 152) args).run P w = .ok (.enter (ρ.f 152) args) w := enters_of L.f152 (by kernel_rfl) rfl
 have e226 : ∀ args w, (callFunc (ρ.f 226) args).run P w = .ok (.enter (ρ.f 226) args) w := enters_of L.f226 (by kernel_rfl) rfl
 have L2 : Lays.n152 P ρ := { L with }
 have hC : ∀ (r : Int) (w : World), 0 ≤ r → r ≤ 2147483647 → Calls P (ρ.f 152) #[.string ⟨#[44, 59, 93, 124]⟩, .int .i32 r] w fun e w' => e = .returned (.int .i64 (lU r)) ∧ Below w.heap.size w w' := fun r w h0 h1 => Any.indexRune_S4 L2 r w h0 h1
 go_enter L.f153, Body.n153_ntmps ρ
 go_wp2_with (go_at_fn (ρ.f 226); refine (Any.strings_shouldUseASCIISet { L with } _ _).mono ?_; rintro e w' ⟨rfl, hw⟩; rw [hw, h8z])
 go_loopg [9, 10] s.size (fun g _ _ wx => ∃ i : Nat, i + g = s.size ∧ wx.heap[w.heap.size]? = some (.stringIter s i) ∧ Below w.heap.size w wx ∧ Lib.NoAny s.data.toList seps i)
 case atStart => exact ⟨0, by omega, World.iter_heap _ _ _, (Below.refl _ w).alloc (Nat.le_refl _) _, Lib.NoAny.zero _ _⟩
 case round =>
  obtain ⟨i, hig, hh, hbl, hno⟩ := hrel
  have HN : Aside (Lib.NoAny s.data.toList seps i) := hno
  clear hno
  cases gk with
  | zero =>
   obtain rfl : i = s.size := by omega
   have hnx := fun ty => r8 (P := P) wr w.heap.size s s.size ty hh (Nat.lt_irrefl _)
   go_wp2
   go_ret
   exact ⟨by rw [Lib.indexAny_none (by rw [← Lib.size_eq]; exact HN.out)]; rfl, hbl⟩
  | succ g =>
   have hi : i < s.size := by omega
   have hnx := fun ty => run_next_at (P := P) wr w.heap.size s i ty hh hi
   have hrb := decode_le s i
   have hbs : w.heap.size < wr.heap.size := (Array.getElem?_eq_some_iff.1 hh).1
   obtain ⟨x, hx⟩ : ∃ x : UInt8, s[i]'hi = x := ⟨_, rfl⟩
   have hxl : s.data.toList[i]? = some x := by rw [← hx]; exact Lib.data_getElem? s i hi
   have facts : (1 ≤ (Utf8.decode s i).2 ∧ i + (Utf8.decode s i).2 ≤ s.size) ∧ ((0 ≤ lU (Utf8.decode s i).1 ∧ Lib.indexAny s.data.toList seps = i) ∨ (¬ 0 ≤ lU (Utf8.decode s i).1 ∧ Lib.NoAny s.data.toList seps (i + (Utf8.decode s i).2))) := by
    by_cases hx128 : x.toNat < 128
    ·have hd := decode_ascii s i hi (by rw [hx]; exact hx128)
     rw [hx] at hd
     rw [hd]
     have hcon := Lib.contains_iff_indexByte seps x
     have hback : ((x.toNat : Int)).toNat.toUInt8 = x := by simp
     have hrv : lU (x.toNat : Int) = Lib.indexByte seps x := by rw [lU, if_pos (by omega), hback]
     refine ⟨⟨Nat.le_refl _, by omega⟩, ?_⟩
     show (0 ≤ lU (x.toNat : Int) ∧ _) ∨ (¬ 0 ≤ lU (x.toNat : Int) ∧ _)
     rw [hrv]
     cases hin : seps.contains x with
     | true =>
      rw [hin] at hcon
      exact .inl ⟨of_decide_eq_true hcon.symm, Lib.indexAny_hit HN.out hxl hin⟩
     | false =>
      rw [hin] at hcon
      exact .inr ⟨of_decide_eq_false hcon.symm, HN.out.succ hxl hin⟩
    ·have hx2 : 128 ≤ (s[i]'hi).toNat := by rw [hx]; omega
     obtain ⟨d1, d2, d3⟩ := aDA s i hi hx2
     have hr := (decode_high s i hi hx2).1
     refine ⟨⟨d1, d2⟩, .inr ⟨by rw [lU, if_neg (by omega)]; decide, fun j b hj hb => ?_⟩⟩
     rcases Nat.lt_or_ge j i with h | h
     ·exact HN.out j b h hb
     ·have := d3 j b h hj hb
      cases hc : seps.contains b with
      | false => rfl
      | true =>
       have hm : b ∈ seps := by simpa using hc
       simp only [seps, List.mem_cons, List.not_mem_nil, or_false] at hm
       rcases hm with rfl | rfl | rfl | rfl <;> exact absurd this (by decide)
   clear hxl hx
   generalize (Utf8.decode s i).1 = r at *
   generalize (Utf8.decode s i).2 = k at *
   obtain ⟨⟨hk1, hk2⟩, hcase⟩ := facts
   have hputh : (wr.putObj w.heap.size (.stringIter s (i + k))).heap[w.heap.size]? = some (.stringIter s (i + k)) := World.putObj_heap_same hbs
   have hputb : Below w.heap.size w (wr.putObj w.heap.size (.stringIter s (i + k))) := aJR (Nat.le_refl _) hbl
   have hputs : (wr.putObj w.heap.size (.stringIter s (i + k))).heap.size = wr.heap.size := World.putObj_size
   have hrz : (0 : Int) ≤ (r : Int) := Int.natCast_nonneg _
   have hrm : (r : Int) ≤ 2147483647 := by omega
   generalize hwp : wr.putObj w.heap.size (.stringIter s (i + k)) = wp at *
   have HC : Aside (Below w.heap.size w wp ∧ wp.heap[w.heap.size]? = some (.stringIter s (i + k)) ∧ wp.heap.size = wr.heap.size ∧ w.heap.size < wr.heap.size) := ⟨hputb, hputh, hputs, hbs⟩
   clear hputb hputh hputs hwp
   rcases hcase with ⟨hv, hres⟩ | ⟨hv, hno2⟩
   ·have HR : Aside (Lib.indexAny s.data.toList seps = i) := hres
    clear hres
    go_wp2_with (go_at_fn (ρ.f 152); refine (hC _ _ hrz hrm).mono ?_; rintro e w2 ⟨rfl, hw2⟩)
    go_ret
    exact ⟨by rw [HR.out]; rfl, HC.out.1.trans ⟨hw2.os, hw2.tape, hw2.output, hw2.size, fun k hk => hw2.block k (by have := HC.out.1.size; omega)⟩⟩
   ·have HR : Aside (Lib.NoAny s.data.toList seps (i + k)) := hno2
    clear hno2
    go_wp2_with (go_at_fn (ρ.f 152); refine (hC _ _ hrz hrm).mono ?_; rintro e w2 ⟨rfl, hw2⟩)
    go_roundg (s.size - (i + k))
    case measure => omega
    case rel => exact ⟨i + k, by omega, by rw [hw2.block _ (by have := HC.out; omega)]; exact HC.out.2.1, HC.out.1.trans ⟨hw2.os, hw2.tape, hw2.output, hw2.size, fun k hk => hw2.block k (by have := HC.out.1.size; omega)⟩, HR.out⟩
end Go.Proofs
