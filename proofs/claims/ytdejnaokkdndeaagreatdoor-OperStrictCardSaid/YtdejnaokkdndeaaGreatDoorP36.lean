/- Part 36 of the proof: texts K5, T1, T2, V11, A11, R11r, S11, T4, S11b, S11q. -/
import Derived.Test.YtdejnaokkdndeaaGreatDoorP27
import Derived.Test.YtdejnaokkdndeaaGreatDoorP32
import Derived.Test.YtdejnaokkdndeaaGreatDoorP33
import Derived.Test.YtdejnaokkdndeaaGreatDoorP35
set_option linter.all false
namespace Go.Proofs.YtdejnaokkdndeaaGreatDoor
open Go.RowKit Go.V
variable {m : Int}
def eSan : Ent Tryz.prog (Gl (gT m)) where
 f := 10
 ask := aSan
 ok := by
  intro k ins refs post out cs h hc
  unfold aSan at h
  split at h
  ·cases h
   exact sanity_ok m
  ·cases h
end Go.Proofs.YtdejnaokkdndeaaGreatDoor
namespace Go.Proofs.YtdejnaokkdndeaaGreatDoor
open Go.RowKit Go.V
open Go.Eng (inR byteAt u8 bytesV)
variable {g : Gv}
def dec9L : List (Int × Int) := [(1, 0), (-25, 1), (3, 0), (1000000000000000, 0)]
def city9L : List (List UInt8) := [[82, 111, 109, 101], [79, 115, 108, 111], [66, 101, 114, 103, 101, 110], [105, 116]]
def col9L : List (List UInt8) := [[99, 105, 116, 121], [122, 105, 112], [99, 111, 117, 110, 116, 114, 121], [115, 105, 110, 99, 101]]
def kind9L : List Int := [1, 2, 1, 3]
def code9L : List (List UInt8) := [[97], [98], [97, 98], [49, 50], [97]]
def lab9L : List (List UInt8) := [[111, 110, 101], [116, 119, 111], [97]]
def c9 (kind n : Int) : Cl :=
 if n = 4 then Cl.z else if kind = 2 then ⟨2, [], (dec9L.getD n.toNat (0, 0)).1, (dec9L.getD n.toNat (0, 0)).2, 0⟩ else if kind = 3 then ⟨3, [], 0, 0, 738000 + n⟩ else ⟨1, city9L.getD n.toNat [], 0, 0, 0⟩
theorem mod5 {n : Int} (h0 : 0 ≤ n) (h1 : n < 5) : (n.tmod 5 + 5).tmod 5 = n := by
 rw [Int.tmod_eq_emod_of_nonneg h0, Int.tmod_eq_emod_of_nonneg (by omega)]; omega
theorem dec9_at {j : Nat} (h : j < 4) : ([[D.i 1, D.i 0], [D.i (-25), D.i 1], [D.i 3, D.i 0], [D.i 1000000000000000, D.i 0]] : List (List D))[j]? = some [D.i (dec9L.getD j (0, 0)).1, D.i (dec9L.getD j (0, 0)).2] := by
 have hj : j = 0 ∨ j = 1 ∨ j = 2 ∨ j = 3 := by omega
 rcases hj with rfl | rfl | rfl | rfl <;> rfl
theorem city9_at {j : Nat} (h : j < 4) : ([[D.s (S [82, 111, 109, 101])], [D.s (S [79, 115, 108, 111])], [D.s (S [66, 101, 114, 103, 101, 110])], [D.s (S [105, 116])]] : List (List D))[j]? = some (strD (city9L.getD j [])) := by
 have hj : j = 0 ∨ j = 1 ∨ j = 2 ∨ j = 3 := by omega
 rcases hj with rfl | rfl | rfl | rfl <;> rfl
theorem col9_at {j : Nat} (h : j < 4) : ([[D.s (S [99, 105, 116, 121])], [D.s (S [122, 105, 112])], [D.s (S [99, 111, 117, 110, 116, 114, 121])], [D.s (S [115, 105, 110, 99, 101])]] : List (List D))[j]? = some (strD (col9L.getD j [])) := by
 have hj : j = 0 ∨ j = 1 ∨ j = 2 ∨ j = 3 := by omega
 rcases hj with rfl | rfl | rfl | rfl <;> rfl
theorem kind9_at {j : Nat} (h : j < 4) : ([[D.i 1], [D.i 2], [D.i 1], [D.i 3]] : List (List D))[j]? = some (intD (kind9L.getD j 0)) := by
 have hj : j = 0 ∨ j = 1 ∨ j = 2 ∨ j = 3 := by omega
 rcases hj with rfl | rfl | rfl | rfl <;> rfl
theorem code9_at {j : Nat} (h : j < 5) : ([[D.s (S [97])], [D.s (S [98])], [D.s (S [97, 98])], [D.s (S [49, 50])], [D.s (S [97])]] : List (List D))[j]? = some (strD (code9L.getD j [])) := by
 have hj : j = 0 ∨ j = 1 ∨ j = 2 ∨ j = 3 ∨ j = 4 := by omega
 rcases hj with rfl | rfl | rfl | rfl | rfl <;> rfl
theorem lab9_at {j : Nat} (h : j < 3) : ([[D.s (S [111, 110, 101])], [D.s (S [116, 119, 111])], [D.s (S [97])]] : List (List D))[j]? = some (strD (lab9L.getD j [])) := by
 have hj : j = 0 ∨ j = 1 ∨ j = 2 := by omega
 rcases hj with rfl | rfl | rfl <;> rfl
def kd9 (l : List Int) : Nat → Nat → Int → List Int × Int
 | 0, j, k => ([], k)
 | f + 1, j, k => (kind9L.getD (((j : Int) + nxV l k 2 * 2).tmod 4).toNat 0 :: (kd9 l f (j + 1) (nxK l k 2)).1, (kd9 l f (j + 1) (nxK l k 2)).2)
theorem kd9_step {l : List Int} {N j : Nat} {kk : Int} (h : j < N) : kd9 l (N - j) j kk = (kind9L.getD (((j : Int) + nxV l kk 2 * 2).tmod 4).toNat 0 :: (kd9 l (N - (j + 1)) (j + 1) (nxK l kk 2)).1, (kd9 l (N - (j + 1)) (j + 1) (nxK l kk 2)).2) := by
 have : N - j = (N - (j + 1)) + 1 := by omega
 rw [this, kd9]
def rw9 (l : List Int) : List Int → Int → List Cl × Int
 | [], k => ([], k)
 | kd :: r, k => (c9 kd (nxV l k 5) :: (rw9 l r (nxK l k 5)).1, (rw9 l r (nxK l k 5)).2)
theorem rw9_step {l kds : List Int} {j : Nat} {kk : Int} (h : j < kds.length) : rw9 l (kds.drop j) kk = (c9 (kds.getD j 0) (nxV l kk 5) :: (rw9 l (kds.drop (j + 1)) (nxK l kk 5)).1, (rw9 l (kds.drop (j + 1)) (nxK l kk 5)).2) := by
 have : kds.drop j = kds.getD j 0 :: kds.drop (j + 1) := by
  rw [List.drop_eq_getElem_cons h]; simp [h]
 rw [this, rw9]
def rs9 (l : List Int) (kds : List Int) : Nat → Int → List (List Cl) × Int
 | 0, k => ([], k)
 | n + 1, k => ((rw9 l kds k).1 :: (rs9 l kds n (rw9 l kds k).2).1, (rs9 l kds n (rw9 l kds k).2).2)
theorem rs9_step {l kds : List Int} {N j : Nat} {kk : Int} (h : j < N) : rs9 l kds (N - j) kk = ((rw9 l kds kk).1 :: (rs9 l kds (N - (j + 1)) (rw9 l kds kk).2).1, (rs9 l kds (N - (j + 1)) (rw9 l kds kk).2).2) := by
 have : N - j = (N - (j + 1)) + 1 := by omega
 rw [this, rs9]
def mN9 (l : List Int) : Nat := (1 + nxV l 0 4).toNat
def mK9 (l : List Int) : List Int × Int := kd9 l (mN9 l) 0 (nxK l 0 4)
def mR9 (l : List Int) : List (List Cl) := (rs9 l ((mK9 l).1.set 0 1) (nxV l (mK9 l).2 7).toNat (nxK l (mK9 l).2 7)).1
def bI (b : Bool) : Int := if b then 1 else 0
def ClN (c : Cl) : List D := [.i c.kind, .s (S c.s), .i c.dn, .i c.ds, .i c.n, .nil, .nil]
def rowN (r : List Cl) : List (List D) := r.map ClN
def rowN1 (r : List Cl) : List D := [.sl 7 (rowN r)]
def rowsN (l : List (List Cl)) : List (List D) := l.map rowN1
def brow (l : List Int) (j : Nat) (k : Int) : List Cl :=
 [⟨1, code9L.getD j [], 0, 0, 0⟩, c9 2 (nxV l k 5), c9 3 (nxV l (nxK l k 5) 5), ⟨4, [], 0, 0, bI (decide (nxV l (nxK l (nxK l k 5) 5) 2 = 1))⟩, ⟨1, lab9L.getD (nxV l (nxK l (nxK l (nxK l k 5) 5) 2) 3).toNat [], 0, 0, 0⟩]
def brk (l : List Int) (k : Int) : Int := nxK l (nxK l (nxK l (nxK l k 5) 5) 2) 3
def brs (l : List Int) : Nat → Nat → Int → List (List Cl) × Int
 | 0, j, k => ([], k)
 | f + 1, j, k => (brow l j k :: (brs l f (j + 1) (brk l k)).1, (brs l f (j + 1) (brk l k)).2)
theorem brs_step {l : List Int} {N j : Nat} {kk : Int} (h : j < N) : brs l (N - j) j kk = (brow l j kk :: (brs l (N - (j + 1)) (j + 1) (brk l kk)).1, (brs l (N - (j + 1)) (j + 1) (brk l kk)).2) := by
 have : N - j = (N - (j + 1)) + 1 := by omega
 rw [this, brs]
def rest9 (l : List Int) : Nat → Int → List Int × Int
 | 0, k => ([], k)
 | f + 1, k => (nxV l k 5040 :: (rest9 l f (nxK l k 5040)).1, (rest9 l f (nxK l k 5040)).2)
theorem rest9_step {l : List Int} {N j : Nat} {kk : Int} (h : j < N) : rest9 l (N - j) kk = (nxV l kk 5040 :: (rest9 l (N - (j + 1)) (nxK l kk 5040)).1, (rest9 l (N - (j + 1)) (nxK l kk 5040)).2) := by
 have : N - j = (N - (j + 1)) + 1 := by omega
 rw [this, rest9]
def bN (l : List Int) : Nat := (2 + nxV l 0 3).toNat
def bR (l : List Int) : List (List Cl) × Int := brs l (bN l) 0 (nxK l 0 3)
def bT (l : List Int) : List Int := (rest9 l 12 (bR l).2).1
def cols9L : List (List UInt8) := [[99, 111, 100, 101], [114, 97, 116, 101], [115, 105, 110, 99, 101], [111, 112, 101, 110], [108, 97, 98, 101, 108]]
def zq17 := And.intro @List.length_append.{0} (And.intro @List.length_cons.{0} (And.intro @List.length_map.{0, 0} (And.intro @List.length_nil.{0} (@List.length_set.{0}))))
theorem cell9_ok (kind n : Int) (h0 : 0 ≤ n) (h1 : n < 5) :
  SpG g 41 [.c (.d (.i kind)), .c (.d (.i n))] [] (.agg [.d (.i ((c9 kind n).kind)), .d (.s (S (c9 kind n).s)), .d (.i ((c9 kind n).dn)), .d (.i ((c9 kind n).ds)), .d (.i ((c9 kind n).n)), .d (.nil), .d (.nil)]) [] := by
 have e5 := mod5 h0 h1
 have e6 := tmod_in (x := n) (n := 5) (by decide)
 refine enterB 36 Tryz.func41 (by kernel_rfl) fun fr hG => ?_
 refine zC hG [] [1, 0, 1, 1] (decide ((Int.tmod ((Int.tmod n 5) + 5) 5 : Int) = 4)) (⟨[(0, [], .c (.d (.i kind))), (1, [], .c (.d (.i (Int.tmod ((Int.tmod n 5) + 5) 5)))), (4, [], .c (.bx 100 0))], [(100, .box 42 [.d (.i 0), .d (.s (S [])), .d (.i 0), .d (.i 0), .d (.i 0), .d (.nil), .d (.nil)])]⟩) (by kernel_rfl) (conjC (show 5 ≠ (0 : Int) from (by intros; (try simp only [zq14] at *); (try simp only [zq17] at *); omega)) (conjC (show inR ((Int.tmod n 5) + 5) from (by intros; (try simp only [zq14] at *); (try simp only [zq17] at *); omega)) (conj1 (show 5 ≠ (0 : Int) from (by intros; (try simp only [zq14] at *); (try simp only [zq17] at *); omega))))) (fun hc1 => ?_) (fun hc1 => ?_)
 ·(try simp only [blS] at hc1)
  (try simp only [e5] at hc1)
  refine zR hG [] [] (.agg [.d (.i 0), .d (.s (S [])), .d (.i 0), .d (.i 0), .d (.i 0), .d (.nil), .d (.nil)]) [] (by kernel_rfl) conj0 ?_ ?_
  ·(try simp only [e5] at *)
   simp [c9, Cl.z, *]
  ·rfl
 ·(try simp only [blS] at hc1)
  (try simp only [e5] at hc1)
  refine zC hG [] [1, 0, 1, 0, 1, 1, 1] (decide ((kind : Int) = 2)) (⟨[(0, [], .c (.d (.i kind))), (1, [], .c (.d (.i (Int.tmod ((Int.tmod n 5) + 5) 5)))), (4, [], .c (.bx 100 0)), (12, [], .c (.d (.i kind)))], [(100, .box 42 [.d (.i 0), .d (.s (S [])), .d (.i 0), .d (.i 0), .d (.i 0), .d (.nil), .d (.nil)])]⟩) (by kernel_rfl) conj0 (fun hc2 => ?_) (fun hc2 => ?_)
  ·(try simp only [blS] at hc2)
   (try simp only [e5] at hc2)
   refine zR hG [(6, 8, .elem ([D.i (dec9L.getD (Int.tmod ((Int.tmod n 5) + 5) 5 : Int).toNat (0, 0)).1, D.i (dec9L.getD (Int.tmod ((Int.tmod n 5) + 5) 5 : Int).toNat (0, 0)).2]))] [] (.agg [.d (.i kind), .d (.s (S [])), .d (.i ((dec9L.getD (Int.tmod ((Int.tmod n 5) + 5) 5 : Int).toNat (0, 0)).1)), .d (.i ((dec9L.getD (Int.tmod ((Int.tmod n 5) + 5) 5 : Int).toNat (0, 0)).2)), .d (.i 0), .d (.nil), .d (.nil)]) [] (by kernel_rfl) (conjC (show (0 : Int) ≤ (Int.tmod ((Int.tmod n 5) + 5) 5) ∧ (Int.tmod ((Int.tmod n 5) + 5) 5) < ((([[.i 1, .i 0], [.i (-25), .i 1], [.i 3, .i 0], [.i 1000000000000000, .i 0]] : List (List D))).length : Int) from (by intros; (try simp only [zq14] at *); (try simp only [zq17] at *); omega)) (conj1 (show (([[.i 1, .i 0], [.i (-25), .i 1], [.i 3, .i 0], [.i 1000000000000000, .i 0]] : List (List D)))[(Int.tmod ((Int.tmod n 5) + 5) 5 : Int).toNat]? = some ([D.i (dec9L.getD (Int.tmod ((Int.tmod n 5) + 5) 5 : Int).toNat (0, 0)).1, D.i (dec9L.getD (Int.tmod ((Int.tmod n 5) + 5) 5 : Int).toNat (0, 0)).2]) from (dec9_at (by omega))))) ?_ ?_
   ·(try simp only [e5] at *)
    simp [c9, Cl.z, *]
   ·rfl
  ·(try simp only [blS] at hc2)
   (try simp only [e5] at hc2)
   refine zC hG [] [1, 1, 1, 0, 1, 0, 1, 1, 1] (decide ((kind : Int) = 3)) (⟨[(0, [], .c (.d (.i kind))), (1, [], .c (.d (.i (Int.tmod ((Int.tmod n 5) + 5) 5)))), (4, [], .c (.bx 100 0))], [(100, .box 42 [.d (.i 0), .d (.s (S [])), .d (.i 0), .d (.i 0), .d (.i 0), .d (.nil), .d (.nil)])]⟩) (by kernel_rfl) conj0 (fun hc3 => ?_) (fun hc3 => ?_)
   ·(try simp only [blS] at hc3)
    (try simp only [e5] at hc3)
    refine zR hG [] [] (.agg [.d (.i kind), .d (.s (S [])), .d (.i 0), .d (.i 0), .d (.i (738000 + (Int.tmod ((Int.tmod n 5) + 5) 5))), .d (.nil), .d (.nil)]) [] (by kernel_rfl) (conj1 (show inR (738000 + (Int.tmod ((Int.tmod n 5) + 5) 5)) from (by intros; (try simp only [zq14] at *); (try simp only [zq17] at *); omega))) ?_ ?_
    ·(try simp only [e5] at *)
     simp [c9, Cl.z, *]
    ·rfl
   ·(try simp only [blS] at hc3)
    (try simp only [e5] at hc3)
    refine zR hG [(9, 3, .elem (strD (city9L.getD (Int.tmod ((Int.tmod n 5) + 5) 5 : Int).toNat [])))] [] (.agg [.d (.i 1), .d (.s (S (city9L.getD (Int.tmod ((Int.tmod n 5) + 5) 5 : Int).toNat []))), .d (.i 0), .d (.i 0), .d (.i 0), .d (.nil), .d (.nil)]) [] (by kernel_rfl) (conjC (show (0 : Int) ≤ (Int.tmod ((Int.tmod n 5) + 5) 5) ∧ (Int.tmod ((Int.tmod n 5) + 5) 5) < ((([[.s (S [82, 111, 109, 101])], [.s (S [79, 115, 108, 111])], [.s (S [66, 101, 114, 103, 101, 110])], [.s (S [105, 116])]] : List (List D))).length : Int) from (by intros; (try simp only [zq14] at *); (try simp only [zq17] at *); omega)) (conj1 (show (([[.s (S [82, 111, 109, 101])], [.s (S [79, 115, 108, 111])], [.s (S [66, 101, 114, 103, 101, 110])], [.s (S [105, 116])]] : List (List D)))[(Int.tmod ((Int.tmod n 5) + 5) 5 : Int).toNat]? = some (strD (city9L.getD (Int.tmod ((Int.tmod n 5) + 5) 5 : Int).toNat [])) from (city9_at (by omega))))) ?_ ?_
    ·(try simp only [e5] at *)
     simp [c9, Cl.z, *]
    ·rfl
theorem text11_ok (t : List UInt8) :
  SpG g 40 [.c (.d (.s (S t)))] [] (.agg [.d (.i (((⟨1, t, 0, 0, 0⟩ : Cl)).kind)), .d (.s (S ((⟨1, t, 0, 0, 0⟩ : Cl)).s)), .d (.i (((⟨1, t, 0, 0, 0⟩ : Cl)).dn)), .d (.i (((⟨1, t, 0, 0, 0⟩ : Cl)).ds)), .d (.i (((⟨1, t, 0, 0, 0⟩ : Cl)).n)), .d (.nil), .d (.nil)]) [] := by
 refine enterB 5 Tryz.func40 (by kernel_rfl) fun fr hG => ?_
 exact zr hG [] [] (by kernel_rfl) conj0
theorem truth11_ok (b : Bool) :
  SpG g 42 [.c (.d (.b b))] [] (.agg [.d (.i (((⟨4, [], 0, 0, bI b⟩ : Cl)).kind)), .d (.s (S ((⟨4, [], 0, 0, bI b⟩ : Cl)).s)), .d (.i (((⟨4, [], 0, 0, bI b⟩ : Cl)).dn)), .d (.i (((⟨4, [], 0, 0, bI b⟩ : Cl)).ds)), .d (.i (((⟨4, [], 0, 0, bI b⟩ : Cl)).n)), .d (.nil), .d (.nil)]) [] := by
 refine enterB 6 Tryz.func42 (by kernel_rfl) fun fr hG => ?_
 refine zC hG [] [1, 0, 1] (b) (⟨[(2, [], .c (.bx 100 0))], [(100, .box 42 [.d (.i 0), .d (.s (S [])), .d (.i 0), .d (.i 0), .d (.i 0), .d (.nil), .d (.nil)])]⟩) (by kernel_rfl) conj0 (fun hc1 => ?_) (fun hc1 => ?_)
 ·(try simp only [blS] at hc1)
  refine zR hG [] [] (.agg [.d (.i 4), .d (.s (S [])), .d (.i 0), .d (.i 0), .d (.i 1), .d (.nil), .d (.nil)]) [] (by kernel_rfl) conj0 ?_ ?_
  ·simp [bI, *]
  ·rfl
 ·(try simp only [blS] at hc1)
  refine zR hG [] [] (.agg [.d (.i 4), .d (.s (S [])), .d (.i 0), .d (.i 0), .d (.i 0), .d (.nil), .d (.nil)]) [] (by kernel_rfl) conj0 ?_ ?_
  ·simp [bI, *]
  ·rfl
theorem made9_ok (nm : List UInt8) (l : List Int) (h : NumOk l 0) :
  SpG g 43 [.c (.d (.s (S nm))), .c (.d (.sl 1 (intsD l)))] [] (.agg [.d (.s (S nm)), .d (.sl 1 (strs (col9L.take (mN9 l)))), .d (.sl 1 (rowsD (mR9 l)))]) [] := by
 have a1 := nxV_bd l 0 (n := 4) (by decide)
 have a2 : (mN9 l : Int) = 1 + nxV l 0 4 := by unfold mN9; omega
 refine enterB 79 Tryz.func43 (by kernel_rfl) fun fr hG => ?_
 refine zA hG [(3, 1, .call (.c (.d (.i (nxV l 0 4)))) [] [[.sl 1 (intsD l), .i (nxK l 0 4)]])] [0, 1, 0, 1, 1, 1, 1, 1] (⟨[(4, [], .c (.bx 100 0)), (5, [], .c (.bx 202 0)), (6, [], .c (.bx 302 0)), (7, [], .c (.d (.i (1 + (nxV l 0 4))))), (8, [], .c (.d (.nil))), (9, [], .c (.d (.i 0)))], [(100, .box 66 [.d (.s (S [])), .d (.nil), .d (.nil)]), (202, .box 53 [.d (.sl 1 (intsD l)), .d (.i (nxK l 0 4))]), (302, .box 66 [.d (.s (S nm)), .d (.nil), .d (.nil)])]⟩) [(8, 9001, 3, 1)] [(302, 1, 9002, 9, 1)] (fun (zz : Nat × List (List D) × List (List D) × List Int × Int) => match zz with | (j, ek, ec, acck, kk) => (mN9 l - j, ⟨[(4, [], .c (.bx 100 0)), (5, [], .c (.bx 202 0)), (6, [], .c (.bx 302 0)), (7, [], .c (.d (.i (1 + (nxV l 0 4))))), (8, [], .c (.ar 9001 0)), (9, [], .c (.d (.i (j : Int))))], [(100, .box 66 [.d (.s (S [])), .d (.nil), .d (.nil)]), (202, .box 53 [.d (.sl 1 (intsD l)), .d (.i kk)]), (302, .box 66 [.d (.s (S nm)), .ar 9002 0, .d (.nil)]), (9001, .arr 0 3 1 (ek)), (9002, .arr 0 9 1 (ec))]⟩, j ≤ mN9 l ∧ NumOk l kk ∧ ek = intsD acck ∧ ec = strs (col9L.take j) ∧ acck.length = j ∧ acck ++ (kd9 l (mN9 l - j) j kk).1 = (mK9 l).1 ∧ (kd9 l (mN9 l - j) j kk).2 = (mK9 l).2)) (0, [], [], [], nxK l 0 4) (by kernel_rfl) (conjC ((next_ok l 0 4 (by (repeat (first | assumption | apply NumOk.next))) (by decide) : SpG g _ _ _ _ _)) (conj1 (show inR (1 + (nxV l 0 4)) from (by intros; (try simp only [zq14] at *); (try simp only [zq17] at *); omega)))) (by kernel_rfl) (by kernel_rfl) ?_ ?_
 ·exact ⟨Nat.zero_le _, (by (repeat (first | assumption | apply NumOk.next))), rfl, rfl, rfl, by simp [mK9], by simp [mK9]⟩
 rintro ⟨j, ek, ec, acck, kk⟩ ⟨hj, hN, hek, hec, ha, h3, h4⟩
 have hlen : ek.length = j := by rw [hek, intsD, List.length_map, ha]
 have hlen2 : ec.length = j := by rw [hec, strs, List.length_map, List.length_take, show col9L.length = 4 from rfl]; omega
 have hx := nxV_bd l kk (n := 2) (by decide)
 have hy := Int.tmod_nonneg 4 (a := (j : Int) + nxV l kk 2 * 2) (by omega)
 have hy2 := Int.tmod_lt_of_pos ((j : Int) + nxV l kk 2 * 2) (b := 4) (by decide)
 refine zc hG [] [1, 0] (decide (((j : Int) : Int) < (1 + (nxV l 0 4)))) (by kernel_rfl) conj0 (fun hc2 => ?_) (fun hc2 => ?_)
 ·(try simp only [blS] at hc2)
  refine zD hG [(8, 5, .elem (strD (col9L.getD j []))), (9, 4, .call (.c (.d (.i (nxV l kk 2)))) [] [[.sl 1 (intsD l), .i (nxK l kk 2)]]), (9, 9, .elem (intD (kind9L.getD (Int.tmod ((j : Int) + ((nxV l kk 2) * 2)) 4 : Int).toNat 0)))] (j + 1, ek ++ [[D.i (kind9L.getD (((j : Int) + nxV l kk 2 * 2).tmod 4).toNat 0)]], ec ++ [[D.s (S (col9L.getD j []))]], acck ++ [kind9L.getD (((j : Int) + nxV l kk 2 * 2).tmod 4).toNat 0], nxK l kk 2) (by kernel_rfl) (conjC (show (0 : Int) ≤ (j : Int) ∧ (j : Int) < ((([[.s (S [99, 105, 116, 121])], [.s (S [122, 105, 112])], [.s (S [99, 111, 117, 110, 116, 114, 121])], [.s (S [115, 105, 110, 99, 101])]] : List (List D))).length : Int) from (by intros; (try simp only [zq14] at *); (try simp only [zq17] at *); omega)) (conjC (show (([[.s (S [99, 105, 116, 121])], [.s (S [122, 105, 112])], [.s (S [99, 111, 117, 110, 116, 114, 121])], [.s (S [115, 105, 110, 99, 101])]] : List (List D)))[j]? = some (strD (col9L.getD j [])) from (col9_at (by omega))) (conjC (show ((ec).length + (([[.s (S (col9L.getD j []))]] : List (List D))).length) * (16 + 1) ≤ 140737488355328 from (by intros; (try simp only [zq14] at *); (try simp only [zq17] at *); omega)) (conjC ((next_ok l kk 2 (by (repeat (first | assumption | apply NumOk.next))) (by decide) : SpG g _ _ _ _ _)) (conjC (show inR ((nxV l kk 2) * 2) from (by intros; (try simp only [zq14] at *); (try simp only [zq17] at *); omega)) (conjC (show inR ((j : Int) + ((nxV l kk 2) * 2)) from (by intros; (try simp only [zq14] at *); (try simp only [zq17] at *); omega)) (conjC (show 4 ≠ (0 : Int) from (by intros; (try simp only [zq14] at *); (try simp only [zq17] at *); omega)) (conjC (show (0 : Int) ≤ (Int.tmod ((j : Int) + ((nxV l kk 2) * 2)) 4) ∧ (Int.tmod ((j : Int) + ((nxV l kk 2) * 2)) 4) < ((([[.i 1], [.i 2], [.i 1], [.i 3]] : List (List D))).length : Int) from (by intros; (try simp only [zq14] at *); (try simp only [zq17] at *); omega)) (conjC (show (([[.i 1], [.i 2], [.i 1], [.i 3]] : List (List D)))[(Int.tmod ((j : Int) + ((nxV l kk 2) * 2)) 4 : Int).toNat]? = some (intD (kind9L.getD (Int.tmod ((j : Int) + ((nxV l kk 2) * 2)) 4 : Int).toNat 0)) from (kind9_at (by omega))) (conjC (show ((ek).length + (([[.i (kind9L.getD (Int.tmod ((j : Int) + ((nxV l kk 2) * 2)) 4 : Int).toNat 0)]] : List (List D))).length) * (8 + 1) ≤ 140737488355328 from (by intros; (try simp only [zq14] at *); (try simp only [zq17] at *); omega)) (conj1 (show inR ((j : Int) + 1) from (by intros; (try simp only [zq14] at *); (try simp only [zq17] at *); omega))))))))))))) ?_ ?_
  ·(try dsimp only); omega
  ·have hjs := kd9_step (l := l) (kk := kk) (N := mN9 l) (j := j) (by omega)
   refine ⟨by omega, hN.next _, by rw [hek]; simp [intsD, intD], ?_, by simp [ha], ?_, ?_⟩
   ·rw [hec, take_succ_strs (show j < col9L.length by rw [show col9L.length = 4 from rfl]; omega)]; rfl
   ·rw [← h3, hjs]; simp
   ·rw [← h4, hjs]
 ·(try simp only [blS] at hc2)
  have hjm : j = mN9 l := by unfold mN9; omega
  have hz0 : mN9 l - j = 0 := by omega
  rw [hz0] at h3 h4
  simp only [kd9, List.append_nil] at h3 h4
  have e1 : (mK9 l).1 = acck := h3.symm
  have e2 : (mK9 l).2 = kk := h4.symm
  have hml : ((mK9 l).1.set 0 1).length = mN9 l := by rw [List.length_set, e1, ha, hjm]
  have a5 := nxV_bd l kk (n := 7) (by decide)
  have e3 : (nxV l (mK9 l).2 7).toNat = (nxV l kk 7).toNat := by rw [e2]
  have e4 : 1 ≤ mN9 l := by unfold mN9; omega
  refine zE hG [] (.exit 0) (⟨[(4, [], .c (.bx 100 0)), (5, [], .c (.bx 202 0)), (6, [], .c (.bx 302 0)), (7, [], .c (.d (.i (1 + (nxV l 0 4))))), (8, [], .c (.ar 9001 0))], [(100, .box 66 [.d (.s (S [])), .d (.nil), .d (.nil)]), (202, .box 53 [.d (.sl 1 (intsD l)), .d (.i kk)]), (302, .box 66 [.d (.s (S nm)), .ar 9002 0, .d (.nil)]), (9001, .arr 0 3 1 (ek)), (9002, .arr 0 9 1 (ec))]⟩) (by kernel_rfl) conj0 rfl ?_
  refine zA hG [(11, 1, .call (.c (.d (.i (nxV l kk 7)))) [] [[.sl 1 (intsD l), .i (nxK l kk 7)]])] [0, 1, 0, 1, 1, 1, 1, 1, 1, 1, 1] (⟨[(4, [], .c (.bx 100 0)), (5, [], .c (.bx 202 0)), (6, [], .c (.bx 302 0)), (7, [], .c (.d (.i (1 + (nxV l 0 4))))), (8, [], .c (.ar 9001 0)), (10, [], .c (.d (.i (nxV l kk 7)))), (11, [], .c (.d (.i 0)))], [(100, .box 66 [.d (.s (S [])), .d (.nil), .d (.nil)]), (202, .box 53 [.d (.sl 1 (intsD l)), .d (.i (nxK l kk 7))]), (302, .box 66 [.d (.s (S nm)), .ar 9002 0, .d (.nil)]), (9001, .arr 0 3 1 ((ek).set 0 [.i 1])), (9002, .arr 0 9 1 (ec))]⟩) [] [(302, 2, 9003, 45, 1)] (fun (zz : Nat × List (List D) × List (List D) × List (List Cl) × Int) => match zz with | (i, er, ek2, accr, kr) => ((nxV l (mK9 l).2 7).toNat - i, ⟨[(4, [], .c (.bx 100 0)), (5, [], .c (.bx 202 0)), (6, [], .c (.bx 302 0)), (7, [], .c (.d (.i (1 + (nxV l 0 4))))), (8, [], .c (.ar 9001 0)), (10, [], .c (.d (.i (nxV l kk 7)))), (11, [], .c (.d (.i (i : Int))))], [(100, .box 66 [.d (.s (S [])), .d (.nil), .d (.nil)]), (202, .box 53 [.d (.sl 1 (intsD l)), .d (.i kr)]), (302, .box 66 [.d (.s (S nm)), .ar 9002 0, .ar 9003 0]), (9001, .arr 0 3 1 (ek2)), (9002, .arr 0 9 1 (ec)), (9003, .arr 0 45 1 (er))]⟩, i ≤ (nxV l (mK9 l).2 7).toNat ∧ NumOk l kr ∧ er = rowsD accr ∧ ek2 = intsD ((mK9 l).1.set 0 1) ∧ accr.length = i ∧ accr ++ (rs9 l ((mK9 l).1.set 0 1) ((nxV l (mK9 l).2 7).toNat - i) kr).1 = mR9 l)) (0, [], ek.set 0 [D.i 1], [], nxK l kk 7) (by kernel_rfl) (conjC (show (0 : Int) ≤ 0 ∧ 0 < ((ek).length : Int) from (by intros; (try simp only [zq14] at *); (try simp only [zq17] at *); omega)) (conj1 ((next_ok l kk 7 (by (repeat (first | assumption | apply NumOk.next))) (by decide) : SpG g _ _ _ _ _)))) (by kernel_rfl) (by kernel_rfl) ?_ ?_
  ·exact ⟨Nat.zero_le _, (by (repeat (first | assumption | apply NumOk.next))), rfl, (by rw [hek, e1]; simp [intsD, intD, List.map_set]), rfl, by simp [mR9, e2]⟩
  rintro ⟨i, er, ek2, accr, kr⟩ ⟨hi, hNr, her, hek2, har, hr3⟩
  have hlen3 : er.length = i := by rw [her, rowsD, List.length_map, har]
  refine zc hG [] [1, 0] (decide (((i : Int) : Int) < (nxV l kk 7))) (by kernel_rfl) conj0 (fun hc4 => ?_) (fun hc4 => ?_)
  ·(try simp only [blS] at hc4)
   refine zA hG [] [0, 1, 0, 1, 0, 0, 1] (⟨[(4, [], .c (.bx 100 0)), (5, [], .c (.bx 202 0)), (6, [], .c (.bx 302 0)), (7, [], .c (.d (.i (1 + (nxV l 0 4))))), (8, [], .c (.ar 9001 0)), (10, [], .c (.d (.i (nxV l kk 7)))), (11, [], .c (.d (.i (i : Int)))), (12, [], .c (.d (.nil))), (13, [], .c (.d (.i 0)))], [(100, .box 66 [.d (.s (S [])), .d (.nil), .d (.nil)]), (202, .box 53 [.d (.sl 1 (intsD l)), .d (.i kr)]), (302, .box 66 [.d (.s (S nm)), .ar 9002 0, .ar 9003 0]), (9001, .arr 0 3 1 (ek2)), (9002, .arr 0 9 1 (ec)), (9003, .arr 0 45 1 (er))]⟩) [(12, 9004, 42, 7)] [] (fun (zz : Nat × List (List D) × List Cl × Int) => match zz with | (c, et, acct, kt) => (((mK9 l).1.set 0 1).length - c, ⟨[(4, [], .c (.bx 100 0)), (5, [], .c (.bx 202 0)), (6, [], .c (.bx 302 0)), (7, [], .c (.d (.i (1 + (nxV l 0 4))))), (8, [], .c (.ar 9001 0)), (10, [], .c (.d (.i (nxV l kk 7)))), (11, [], .c (.d (.i (i : Int)))), (12, [], .c (.ar 9004 0)), (13, [], .c (.d (.i (c : Int))))], [(100, .box 66 [.d (.s (S [])), .d (.nil), .d (.nil)]), (202, .box 53 [.d (.sl 1 (intsD l)), .d (.i kt)]), (302, .box 66 [.d (.s (S nm)), .ar 9002 0, .ar 9003 0]), (9001, .arr 0 3 1 (ek2)), (9002, .arr 0 9 1 (ec)), (9003, .arr 0 45 1 (er)), (9004, .arr 0 42 7 (et))]⟩, c ≤ ((mK9 l).1.set 0 1).length ∧ NumOk l kt ∧ et = rowD acct ∧ acct.length = c ∧ acct ++ (rw9 l (((mK9 l).1.set 0 1).drop c) kt).1 = (rw9 l ((mK9 l).1.set 0 1) kr).1 ∧ (rw9 l (((mK9 l).1.set 0 1).drop c) kt).2 = (rw9 l ((mK9 l).1.set 0 1) kr).2)) (0, [], [], kr) (by kernel_rfl) conj0 (by kernel_rfl) (by kernel_rfl) ?_ ?_
   ·exact ⟨Nat.zero_le _, hNr, rfl, rfl, by simp, by simp⟩
   rintro ⟨c, et, acct, kt⟩ ⟨hc, hNt, het, hat, ht3, ht4⟩
   have hlen4 : et.length = c := by rw [het, rowD, List.length_map, hat]
   have hl2 : ek2.length = ((mK9 l).1.set 0 1).length := by rw [hek2, intsD, List.length_map]
   refine zc hG [] [1, 0] (decide (((c : Int) : Int) < (1 + (nxV l 0 4)))) (by kernel_rfl) conj0 (fun hc6 => ?_) (fun hc6 => ?_)
   ·(try simp only [blS] at hc6)
    refine zD hG [(19, 4, .elem (intD (((mK9 l).1.set 0 1).getD c 0))), (19, 6, .call (.c (.d (.i (nxV l kt 5)))) [] [[.sl 1 (intsD l), .i (nxK l kt 5)]]), (19, 7, .call (.agg [.d (.i ((c9 (((mK9 l).1.set 0 1).getD c 0) (nxV l kt 5)).kind)), .d (.s (S (c9 (((mK9 l).1.set 0 1).getD c 0) (nxV l kt 5)).s)), .d (.i ((c9 (((mK9 l).1.set 0 1).getD c 0) (nxV l kt 5)).dn)), .d (.i ((c9 (((mK9 l).1.set 0 1).getD c 0) (nxV l kt 5)).ds)), .d (.i ((c9 (((mK9 l).1.set 0 1).getD c 0) (nxV l kt 5)).n)), .d (.nil), .d (.nil)]) [] []), (19, 8, .mask [none, none, none, none, none, some 1, some 1])] (c + 1, et ++ [ClD (c9 (((mK9 l).1.set 0 1).getD c 0) (nxV l kt 5))], acct ++ [c9 (((mK9 l).1.set 0 1).getD c 0) (nxV l kt 5)], nxK l kt 5) (by kernel_rfl) (conjC (show (0 : Int) ≤ (c : Int) ∧ (c : Int) < ((ek2).length : Int) from (by intros; (try simp only [zq14] at *); (try simp only [zq17] at *); omega)) (conjC (show (ek2)[c]? = some (intD (((mK9 l).1.set 0 1).getD c 0)) from (by intros; rw [hek2]; exact map_nat _ (by omega))) (conjC ((next_ok l kt 5 (by (repeat (first | assumption | apply NumOk.next))) (by decide) : SpG g _ _ _ _ _)) (conjC ((cell9_ok (((mK9 l).1.set 0 1).getD c 0) (nxV l kt 5) (nxV_bd _ _ (by decide)).1 (nxV_bd _ _ (by decide)).2 : SpG g _ _ _ _ _)) (conjC (show ((et).length + (([[.i ((c9 (((mK9 l).1.set 0 1).getD c 0) (nxV l kt 5)).kind), .s (S (c9 (((mK9 l).1.set 0 1).getD c 0) (nxV l kt 5)).s), .i ((c9 (((mK9 l).1.set 0 1).getD c 0) (nxV l kt 5)).dn), .i ((c9 (((mK9 l).1.set 0 1).getD c 0) (nxV l kt 5)).ds), .i ((c9 (((mK9 l).1.set 0 1).getD c 0) (nxV l kt 5)).n), .sl 1 ([]), .sl 1 ([])]] : List (List D))).length) * (96 + 1) ≤ 140737488355328 from (by intros; (try simp only [zq14] at *); (try simp only [zq17] at *); omega)) (conj1 (show inR ((c : Int) + 1) from (by intros; (try simp only [zq14] at *); (try simp only [zq17] at *); omega)))))))) ?_ ?_
    ·(try dsimp only); omega
    ·have hjs := rw9_step (l := l) (kds := ((mK9 l).1.set 0 1)) (kk := kt) (j := c) (by omega)
     refine ⟨by omega, hNt.next _, by rw [het]; simp [rowD], by simp [hat], ?_, ?_⟩
     ·rw [← ht3, hjs]; simp
     ·rw [← ht4, hjs]
   ·(try simp only [blS] at hc6)
    refine zE hG [] (.exit 4) (⟨[(4, [], .c (.bx 100 0)), (5, [], .c (.bx 202 0)), (6, [], .c (.bx 302 0)), (7, [], .c (.d (.i (1 + (nxV l 0 4))))), (8, [], .c (.ar 9001 0)), (10, [], .c (.d (.i (nxV l kk 7)))), (11, [], .c (.d (.i (i : Int)))), (12, [], .c (.ar 9004 0))], [(100, .box 66 [.d (.s (S [])), .d (.nil), .d (.nil)]), (202, .box 53 [.d (.sl 1 (intsD l)), .d (.i kt)]), (302, .box 66 [.d (.s (S nm)), .ar 9002 0, .ar 9003 0]), (9001, .arr 0 3 1 (ek2)), (9002, .arr 0 9 1 (ec)), (9003, .arr 0 45 1 (er)), (9004, .arr 0 42 7 (et))]⟩) (by kernel_rfl) conj0 rfl ?_
    refine stepK hG (⟨[(4, [], .c (.bx 100 0)), (5, [], .c (.bx 202 0)), (6, [], .c (.bx 302 0)), (7, [], .c (.d (.i (1 + (nxV l 0 4))))), (8, [], .c (.ar 9001 0)), (10, [], .c (.d (.i (nxV l kk 7)))), (11, [], .c (.d (.i (i : Int)))), (12, [], .c (.d (.sl 7 (et))))], [(100, .box 66 [.d (.s (S [])), .d (.nil), .d (.nil)]), (202, .box 53 [.d (.sl 1 (intsD l)), .d (.i kt)]), (302, .box 66 [.d (.s (S nm)), .ar 9002 0, .ar 9003 0]), (9001, .arr 0 3 1 (ek2)), (9002, .arr 0 9 1 (ec)), (9003, .arr 0 45 1 (er))]⟩) (by kernel_rfl) ?_
    refine zD hG [] (i + 1, er ++ [[D.sl 7 et]], ek2, accr ++ [acct], kt) (by kernel_rfl) (conjC (show ((er).length + (([[.sl 7 (et)]] : List (List D))).length) * (24 + 1) ≤ 140737488355328 from (by intros; (try simp only [zq14] at *); (try simp only [zq17] at *); omega)) (conj1 (show inR ((i : Int) + 1) from (by intros; (try simp only [zq14] at *); (try simp only [zq17] at *); omega)))) ?_ ?_
    ·(try dsimp only); omega
    ·have hjs := rs9_step (l := l) (kds := ((mK9 l).1.set 0 1)) (kk := kr) (N := (nxV l (mK9 l).2 7).toNat) (j := i) (by omega)
     have hz : ((mK9 l).1.set 0 1).drop c = [] := List.drop_eq_nil_of_le (by omega)
     rw [hz] at ht3 ht4
     simp only [rw9, List.append_nil] at ht3 ht4
     refine ⟨by omega, hNt, ?_, hek2, by simp [har], ?_⟩
     ·rw [her, het]; simp [rowsD, rows1]
     ·rw [← hr3, hjs, ← ht3, ← ht4]; simp
  ·(try simp only [blS] at hc4)
   refine zE hG [] (.exit 2) (⟨[(4, [], .c (.bx 100 0)), (6, [], .c (.bx 302 0))], [(100, .box 66 [.d (.s (S [])), .d (.nil), .d (.nil)]), (302, .box 66 [.d (.s (S nm)), .ar 9002 0, .ar 9003 0]), (9002, .arr 0 9 1 (ec)), (9003, .arr 0 45 1 (er))]⟩) (by kernel_rfl) conj0 rfl ?_
   refine zR hG [] [] (.agg [.d (.s (S nm)), .d (.sl 1 (ec)), .d (.sl 1 (er))]) [] (by kernel_rfl) conj0 ?_ ?_
   ·have hzr : (nxV l (mK9 l).2 7).toNat - i = 0 := by omega
    rw [hzr] at hr3
    simp only [rs9, List.append_nil] at hr3
    rw [← hr3, ← hjm, hec, her]
   ·rfl
theorem made9_of (nm : List UInt8) (l : List Int) (es : List (List D)) (he : es = intsD l) (h : NumOk l 0) : SpG g 43 [.c (.d (.s (S nm))), .c (.d (.sl 1 es))] [] (.agg [.d (.s (S nm)), .d (.sl 1 (strs (col9L.take (mN9 l)))), .d (.sl 1 (rowsD (mR9 l)))]) [] := by
 subst he; exact made9_ok nm l h
theorem base_ok (l : List Int) (h : NumOk l 0) :
  SpG g 13 [.c (.d (.sl 1 (intsD l)))] [] (.c (.d (.sl 3 ([[D.s (S [114, 97, 116, 101, 115]), D.sl 1 (strs cols9L), D.sl 1 (rowsN (bR l).1)], [D.s (S [116, 111, 119, 110, 115]), D.sl 1 (strs (col9L.take (mN9 (bT l)))), D.sl 1 (rowsD (mR9 (bT l)))]])))) [] := by
 have a1 := nxV_bd l 0 (n := 3) (by decide)
 have a2 : (bN l : Int) = 2 + nxV l 0 3 := by unfold bN; omega
 refine enterB 64 Tryz.func13 (by kernel_rfl) fun fr hG => ?_
 refine zA hG [(3, 1, .call (.c (.d (.i (nxV l 0 3)))) [] [[.sl 1 (intsD l), .i (nxK l 0 3)]])] [0, 1, 0, 1, 1, 1, 1] (⟨[(2, [], .c (.d (.nil))), (3, [], .c (.bx 202 0)), (4, [], .c (.bx 302 0)), (5, [], .c (.d (.i (2 + (nxV l 0 3))))), (6, [], .c (.d (.i 0)))], [(202, .box 53 [.d (.sl 1 (intsD l)), .d (.i (nxK l 0 3))]), (300, .arr 0 9 1 (([[.s (S [99, 111, 100, 101])], [.s (S [114, 97, 116, 101])], [.s (S [115, 105, 110, 99, 101])], [.s (S [111, 112, 101, 110])], [.s (S [108, 97, 98, 101, 108])]] : List (List D)))), (302, .box 66 [.d (.s (S [114, 97, 116, 101, 115])), .ar 300 0, .d (.nil)])]⟩) [] [(302, 2, 9003, 45, 1)] (fun (zz : Nat × List (List D) × List (List Cl) × Int) => match zz with | (j, er, accr, kk) => (bN l - j, ⟨[(2, [], .c (.d (.nil))), (3, [], .c (.bx 202 0)), (4, [], .c (.bx 302 0)), (5, [], .c (.d (.i (2 + (nxV l 0 3))))), (6, [], .c (.d (.i (j : Int))))], [(202, .box 53 [.d (.sl 1 (intsD l)), .d (.i kk)]), (300, .arr 0 9 1 (([[.s (S [99, 111, 100, 101])], [.s (S [114, 97, 116, 101])], [.s (S [115, 105, 110, 99, 101])], [.s (S [111, 112, 101, 110])], [.s (S [108, 97, 98, 101, 108])]] : List (List D)))), (302, .box 66 [.d (.s (S [114, 97, 116, 101, 115])), .ar 300 0, .ar 9003 0]), (9003, .arr 0 45 1 (er))]⟩, j ≤ bN l ∧ NumOk l kk ∧ er = rowsN accr ∧ accr.length = j ∧ accr ++ (brs l (bN l - j) j kk).1 = (bR l).1 ∧ (brs l (bN l - j) j kk).2 = (bR l).2)) (0, [], [], nxK l 0 3) (by kernel_rfl) (conjC ((next_ok l 0 3 (by (repeat (first | assumption | apply NumOk.next))) (by decide) : SpG g _ _ _ _ _)) (conj1 (show inR (2 + (nxV l 0 3)) from (by intros; (try simp only [zq14] at *); (try simp only [zq17] at *); omega)))) (by kernel_rfl) (by kernel_rfl) ?_ ?_
 ·exact ⟨Nat.zero_le _, (by (repeat (first | assumption | apply NumOk.next))), rfl, rfl, by simp [bR], by simp [bR]⟩
 rintro ⟨j, er, accr, kk⟩ ⟨hj, hN, her, har, h3, h4⟩
 have hlen : er.length = j := by rw [her, rowsN, List.length_map, har]
 have b1 := nxV_bd l (nxK l (nxK l (nxK l kk 5) 5) 2) (n := 3) (by decide)
 refine zc hG [] [1, 0] (decide (((j : Int) : Int) < (2 + (nxV l 0 3)))) (by kernel_rfl) conj0 (fun hc2 => ?_) (fun hc2 => ?_)
 ·(try simp only [blS] at hc2)
  refine zD hG [(7, 3, .elem (strD (code9L.getD j []))), (7, 4, .call (.agg [.d (.i (((⟨1, (code9L.getD j []), 0, 0, 0⟩ : Cl)).kind)), .d (.s (S ((⟨1, (code9L.getD j []), 0, 0, 0⟩ : Cl)).s)), .d (.i (((⟨1, (code9L.getD j []), 0, 0, 0⟩ : Cl)).dn)), .d (.i (((⟨1, (code9L.getD j []), 0, 0, 0⟩ : Cl)).ds)), .d (.i (((⟨1, (code9L.getD j []), 0, 0, 0⟩ : Cl)).n)), .d (.nil), .d (.nil)]) [] []), (7, 6, .call (.c (.d (.i (nxV l kk 5)))) [] [[.sl 1 (intsD l), .i (nxK l kk 5)]]), (7, 7, .call (.agg [.d (.i ((c9 2 (nxV l kk 5)).kind)), .d (.s (S (c9 2 (nxV l kk 5)).s)), .d (.i ((c9 2 (nxV l kk 5)).dn)), .d (.i ((c9 2 (nxV l kk 5)).ds)), .d (.i ((c9 2 (nxV l kk 5)).n)), .d (.nil), .d (.nil)]) [] []), (7, 9, .call (.c (.d (.i (nxV l (nxK l kk 5) 5)))) [] [[.sl 1 (intsD l), .i (nxK l (nxK l kk 5) 5)]]), (7, 10, .call (.agg [.d (.i ((c9 3 (nxV l (nxK l kk 5) 5)).kind)), .d (.s (S (c9 3 (nxV l (nxK l kk 5) 5)).s)), .d (.i ((c9 3 (nxV l (nxK l kk 5) 5)).dn)), .d (.i ((c9 3 (nxV l (nxK l kk 5) 5)).ds)), .d (.i ((c9 3 (nxV l (nxK l kk 5) 5)).n)), .d (.nil), .d (.nil)]) [] []), (7, 12, .call (.c (.d (.i (nxV l (nxK l (nxK l kk 5) 5) 2)))) [] [[.sl 1 (intsD l), .i (nxK l (nxK l (nxK l kk 5) 5) 2)]]), (7, 14, .call (.agg [.d (.i (((⟨4, [], 0, 0, bI (decide ((nxV l (nxK l (nxK l kk 5) 5) 2 : Int) = 1))⟩ : Cl)).kind)), .d (.s (S ((⟨4, [], 0, 0, bI (decide ((nxV l (nxK l (nxK l kk 5) 5) 2 : Int) = 1))⟩ : Cl)).s)), .d (.i (((⟨4, [], 0, 0, bI (decide ((nxV l (nxK l (nxK l kk 5) 5) 2 : Int) = 1))⟩ : Cl)).dn)), .d (.i (((⟨4, [], 0, 0, bI (decide ((nxV l (nxK l (nxK l kk 5) 5) 2 : Int) = 1))⟩ : Cl)).ds)), .d (.i (((⟨4, [], 0, 0, bI (decide ((nxV l (nxK l (nxK l kk 5) 5) 2 : Int) = 1))⟩ : Cl)).n)), .d (.nil), .d (.nil)]) [] []), (7, 17, .call (.c (.d (.i (nxV l (nxK l (nxK l (nxK l kk 5) 5) 2) 3)))) [] [[.sl 1 (intsD l), .i (nxK l (nxK l (nxK l (nxK l kk 5) 5) 2) 3)]]), (7, 19, .elem (strD (lab9L.getD (nxV l (nxK l (nxK l (nxK l kk 5) 5) 2) 3 : Int).toNat []))), (7, 20, .call (.agg [.d (.i (((⟨1, (lab9L.getD (nxV l (nxK l (nxK l (nxK l kk 5) 5) 2) 3 : Int).toNat []), 0, 0, 0⟩ : Cl)).kind)), .d (.s (S ((⟨1, (lab9L.getD (nxV l (nxK l (nxK l (nxK l kk 5) 5) 2) 3 : Int).toNat []), 0, 0, 0⟩ : Cl)).s)), .d (.i (((⟨1, (lab9L.getD (nxV l (nxK l (nxK l (nxK l kk 5) 5) 2) 3 : Int).toNat []), 0, 0, 0⟩ : Cl)).dn)), .d (.i (((⟨1, (lab9L.getD (nxV l (nxK l (nxK l (nxK l kk 5) 5) 2) 3 : Int).toNat []), 0, 0, 0⟩ : Cl)).ds)), .d (.i (((⟨1, (lab9L.getD (nxV l (nxK l (nxK l (nxK l kk 5) 5) 2) 3 : Int).toNat []), 0, 0, 0⟩ : Cl)).n)), .d (.nil), .d (.nil)]) [] []), (7, 21, .elem [.nil, .nil, .nil, .nil, .nil, .nil, .nil, .nil, .nil, .nil, .nil, .nil, .nil, .nil, .nil, .nil, .nil, .nil, .nil, .nil, .nil, .nil, .nil, .nil, .nil, .nil, .nil, .nil, .nil, .nil, .nil, .nil, .nil, .nil, .nil])] (j + 1, er ++ ([[.sl 7 (([[.i (((⟨1, (code9L.getD j []), 0, 0, 0⟩ : Cl)).kind), .s (S ((⟨1, (code9L.getD j []), 0, 0, 0⟩ : Cl)).s), .i (((⟨1, (code9L.getD j []), 0, 0, 0⟩ : Cl)).dn), .i (((⟨1, (code9L.getD j []), 0, 0, 0⟩ : Cl)).ds), .i (((⟨1, (code9L.getD j []), 0, 0, 0⟩ : Cl)).n), .nil, .nil], [.i ((c9 2 (nxV l kk 5)).kind), .s (S (c9 2 (nxV l kk 5)).s), .i ((c9 2 (nxV l kk 5)).dn), .i ((c9 2 (nxV l kk 5)).ds), .i ((c9 2 (nxV l kk 5)).n), .nil, .nil], [.i ((c9 3 (nxV l (nxK l kk 5) 5)).kind), .s (S (c9 3 (nxV l (nxK l kk 5) 5)).s), .i ((c9 3 (nxV l (nxK l kk 5) 5)).dn), .i ((c9 3 (nxV l (nxK l kk 5) 5)).ds), .i ((c9 3 (nxV l (nxK l kk 5) 5)).n), .nil, .nil], [.i (((⟨4, [], 0, 0, bI (decide ((nxV l (nxK l (nxK l kk 5) 5) 2 : Int) = 1))⟩ : Cl)).kind), .s (S ((⟨4, [], 0, 0, bI (decide ((nxV l (nxK l (nxK l kk 5) 5) 2 : Int) = 1))⟩ : Cl)).s), .i (((⟨4, [], 0, 0, bI (decide ((nxV l (nxK l (nxK l kk 5) 5) 2 : Int) = 1))⟩ : Cl)).dn), .i (((⟨4, [], 0, 0, bI (decide ((nxV l (nxK l (nxK l kk 5) 5) 2 : Int) = 1))⟩ : Cl)).ds), .i (((⟨4, [], 0, 0, bI (decide ((nxV l (nxK l (nxK l kk 5) 5) 2 : Int) = 1))⟩ : Cl)).n), .nil, .nil], [.i (((⟨1, (lab9L.getD (nxV l (nxK l (nxK l (nxK l kk 5) 5) 2) 3 : Int).toNat []), 0, 0, 0⟩ : Cl)).kind), .s (S ((⟨1, (lab9L.getD (nxV l (nxK l (nxK l (nxK l kk 5) 5) 2) 3 : Int).toNat []), 0, 0, 0⟩ : Cl)).s), .i (((⟨1, (lab9L.getD (nxV l (nxK l (nxK l (nxK l kk 5) 5) 2) 3 : Int).toNat []), 0, 0, 0⟩ : Cl)).dn), .i (((⟨1, (lab9L.getD (nxV l (nxK l (nxK l (nxK l kk 5) 5) 2) 3 : Int).toNat []), 0, 0, 0⟩ : Cl)).ds), .i (((⟨1, (lab9L.getD (nxV l (nxK l (nxK l (nxK l kk 5) 5) 2) 3 : Int).toNat []), 0, 0, 0⟩ : Cl)).n), .nil, .nil]] : List (List D)))]] : List (List D)), accr ++ [brow l j kk], brk l kk) (by kernel_rfl) (conjC (show (0 : Int) ≤ (j : Int) ∧ (j : Int) < ((([[.s (S [97])], [.s (S [98])], [.s (S [97, 98])], [.s (S [49, 50])], [.s (S [97])]] : List (List D))).length : Int) from (by intros; (try simp only [zq14] at *); (try simp only [zq17] at *); omega)) (conjC (show (([[.s (S [97])], [.s (S [98])], [.s (S [97, 98])], [.s (S [49, 50])], [.s (S [97])]] : List (List D)))[j]? = some (strD (code9L.getD j [])) from (code9_at (by omega))) (conjC ((text11_ok (code9L.getD j []) : SpG g _ _ _ _ _)) (conjC ((next_ok l kk 5 (by (repeat (first | assumption | apply NumOk.next))) (by decide) : SpG g _ _ _ _ _)) (conjC ((cell9_ok 2 (nxV l kk 5) (nxV_bd _ _ (by decide)).1 (nxV_bd _ _ (by decide)).2 : SpG g _ _ _ _ _)) (conjC ((next_ok l (nxK l kk 5) 5 (by (repeat (first | assumption | apply NumOk.next))) (by decide) : SpG g _ _ _ _ _)) (conjC ((cell9_ok 3 (nxV l (nxK l kk 5) 5) (nxV_bd _ _ (by decide)).1 (nxV_bd _ _ (by decide)).2 : SpG g _ _ _ _ _)) (conjC ((next_ok l (nxK l (nxK l kk 5) 5) 2 (by (repeat (first | assumption | apply NumOk.next))) (by decide) : SpG g _ _ _ _ _)) (conjC ((truth11_ok (decide ((nxV l (nxK l (nxK l kk 5) 5) 2 : Int) = 1)) : SpG g _ _ _ _ _)) (conjC ((next_ok l (nxK l (nxK l (nxK l kk 5) 5) 2) 3 (by (repeat (first | assumption | apply NumOk.next))) (by decide) : SpG g _ _ _ _ _)) (conjC (show (0 : Int) ≤ (nxV l (nxK l (nxK l (nxK l kk 5) 5) 2) 3) ∧ (nxV l (nxK l (nxK l (nxK l kk 5) 5) 2) 3) < ((([[.s (S [111, 110, 101])], [.s (S [116, 119, 111])], [.s (S [97])]] : List (List D))).length : Int) from (by intros; (try simp only [zq14] at *); (try simp only [zq17] at *); omega)) (conjC (show (([[.s (S [111, 110, 101])], [.s (S [116, 119, 111])], [.s (S [97])]] : List (List D)))[(nxV l (nxK l (nxK l (nxK l kk 5) 5) 2) 3 : Int).toNat]? = some (strD (lab9L.getD (nxV l (nxK l (nxK l (nxK l kk 5) 5) 2) 3 : Int).toNat [])) from (lab9_at (by omega))) (conjC ((text11_ok (lab9L.getD (nxV l (nxK l (nxK l (nxK l kk 5) 5) 2) 3 : Int).toNat []) : SpG g _ _ _ _ _)) (conjC (show ((er).length + (([[.sl 7 (([[.i (((⟨1, (code9L.getD j []), 0, 0, 0⟩ : Cl)).kind), .s (S ((⟨1, (code9L.getD j []), 0, 0, 0⟩ : Cl)).s), .i (((⟨1, (code9L.getD j []), 0, 0, 0⟩ : Cl)).dn), .i (((⟨1, (code9L.getD j []), 0, 0, 0⟩ : Cl)).ds), .i (((⟨1, (code9L.getD j []), 0, 0, 0⟩ : Cl)).n), .nil, .nil], [.i ((c9 2 (nxV l kk 5)).kind), .s (S (c9 2 (nxV l kk 5)).s), .i ((c9 2 (nxV l kk 5)).dn), .i ((c9 2 (nxV l kk 5)).ds), .i ((c9 2 (nxV l kk 5)).n), .nil, .nil], [.i ((c9 3 (nxV l (nxK l kk 5) 5)).kind), .s (S (c9 3 (nxV l (nxK l kk 5) 5)).s), .i ((c9 3 (nxV l (nxK l kk 5) 5)).dn), .i ((c9 3 (nxV l (nxK l kk 5) 5)).ds), .i ((c9 3 (nxV l (nxK l kk 5) 5)).n), .nil, .nil], [.i (((⟨4, [], 0, 0, bI (decide ((nxV l (nxK l (nxK l kk 5) 5) 2 : Int) = 1))⟩ : Cl)).kind), .s (S ((⟨4, [], 0, 0, bI (decide ((nxV l (nxK l (nxK l kk 5) 5) 2 : Int) = 1))⟩ : Cl)).s), .i (((⟨4, [], 0, 0, bI (decide ((nxV l (nxK l (nxK l kk 5) 5) 2 : Int) = 1))⟩ : Cl)).dn), .i (((⟨4, [], 0, 0, bI (decide ((nxV l (nxK l (nxK l kk 5) 5) 2 : Int) = 1))⟩ : Cl)).ds), .i (((⟨4, [], 0, 0, bI (decide ((nxV l (nxK l (nxK l kk 5) 5) 2 : Int) = 1))⟩ : Cl)).n), .nil, .nil], [.i (((⟨1, (lab9L.getD (nxV l (nxK l (nxK l (nxK l kk 5) 5) 2) 3 : Int).toNat []), 0, 0, 0⟩ : Cl)).kind), .s (S ((⟨1, (lab9L.getD (nxV l (nxK l (nxK l (nxK l kk 5) 5) 2) 3 : Int).toNat []), 0, 0, 0⟩ : Cl)).s), .i (((⟨1, (lab9L.getD (nxV l (nxK l (nxK l (nxK l kk 5) 5) 2) 3 : Int).toNat []), 0, 0, 0⟩ : Cl)).dn), .i (((⟨1, (lab9L.getD (nxV l (nxK l (nxK l (nxK l kk 5) 5) 2) 3 : Int).toNat []), 0, 0, 0⟩ : Cl)).ds), .i (((⟨1, (lab9L.getD (nxV l (nxK l (nxK l (nxK l kk 5) 5) 2) 3 : Int).toNat []), 0, 0, 0⟩ : Cl)).n), .nil, .nil]] : List (List D)))]] : List (List D))).length) * (24 + 1) ≤ 140737488355328 from (by intros; (try simp only [zq14] at *); (try simp only [zq17] at *); omega)) (conj1 (show inR ((j : Int) + 1) from (by intros; (try simp only [zq14] at *); (try simp only [zq17] at *); omega))))))))))))))))) ?_ ?_
  ·(try dsimp only); omega
  ·have hjs := brs_step (l := l) (kk := kk) (N := bN l) (j := j) (by omega)
   refine ⟨by omega, (((hN.next _).next _).next _).next _, ?_, by simp [har], ?_, ?_⟩
   ·rw [her]; simp [rowsN, rowN1, rowN, brow, ClN, strD]
   ·rw [← h3, hjs]; simp
   ·rw [← h4, hjs]
 ·(try simp only [blS] at hc2)
  have hjm : j = bN l := by unfold bN; omega
  have hz0 : bN l - j = 0 := by omega
  rw [hz0] at h3 h4
  simp only [brs, List.append_nil] at h3 h4
  have e1 : (bR l).1 = accr := h3.symm
  have e2 : kk = (bR l).2 := h4
  refine zE hG [] (.exit 0) (⟨[(2, [], .c (.d (.nil))), (3, [], .c (.bx 202 0)), (4, [], .c (.bx 302 0))], [(202, .box 53 [.d (.sl 1 (intsD l)), .d (.i kk)]), (300, .arr 0 9 1 (([[.s (S [99, 111, 100, 101])], [.s (S [114, 97, 116, 101])], [.s (S [115, 105, 110, 99, 101])], [.s (S [111, 112, 101, 110])], [.s (S [108, 97, 98, 101, 108])]] : List (List D)))), (302, .box 66 [.d (.s (S [114, 97, 116, 101, 115])), .ar 300 0, .ar 9003 0]), (9003, .arr 0 45 1 (er))]⟩) (by kernel_rfl) conj0 rfl ?_
  refine zA hG [] [0, 1, 0, 1, 1, 1, 1, 1, 1] (⟨[(2, [], .c (.d (.nil))), (3, [], .c (.bx 202 0)), (4, [], .c (.bx 302 0)), (8, [], .c (.d (.nil))), (9, [], .c (.d (.i 0)))], [(202, .box 53 [.d (.sl 1 (intsD l)), .d (.i kk)]), (300, .arr 0 9 1 (([[.s (S [99, 111, 100, 101])], [.s (S [114, 97, 116, 101])], [.s (S [115, 105, 110, 99, 101])], [.s (S [111, 112, 101, 110])], [.s (S [108, 97, 98, 101, 108])]] : List (List D)))), (302, .box 66 [.d (.s (S [114, 97, 116, 101, 115])), .ar 300 0, .ar 9003 0]), (9003, .arr 0 45 1 (er))]⟩) [(8, 9005, 3, 1)] [] (fun (zz : Nat × List (List D) × List Int × Int) => match zz with | (i, es, acc, kq) => (12 - i, ⟨[(2, [], .c (.d (.nil))), (3, [], .c (.bx 202 0)), (4, [], .c (.bx 302 0)), (8, [], .c (.ar 9005 0)), (9, [], .c (.d (.i (i : Int))))], [(202, .box 53 [.d (.sl 1 (intsD l)), .d (.i kq)]), (300, .arr 0 9 1 (([[.s (S [99, 111, 100, 101])], [.s (S [114, 97, 116, 101])], [.s (S [115, 105, 110, 99, 101])], [.s (S [111, 112, 101, 110])], [.s (S [108, 97, 98, 101, 108])]] : List (List D)))), (302, .box 66 [.d (.s (S [114, 97, 116, 101, 115])), .ar 300 0, .ar 9003 0]), (9003, .arr 0 45 1 (er)), (9005, .arr 0 3 1 (es))]⟩, i ≤ 12 ∧ NumOk l kq ∧ es = intsD acc ∧ acc.length = i ∧ acc ++ (rest9 l (12 - i) kq).1 = bT l)) (0, [], [], kk) (by kernel_rfl) conj0 (by kernel_rfl) (by kernel_rfl) ?_ ?_
  ·exact ⟨Nat.zero_le _, hN, rfl, rfl, by rw [e2]; simp [bT]⟩
  rintro ⟨i, es, acc, kq⟩ ⟨hi, hNq, hes, has, hr3⟩
  have hlen5 : es.length = i := by rw [hes, intsD, List.length_map, has]
  refine zc hG [] [1, 0] (decide (((i : Int) : Int) < 12)) (by kernel_rfl) conj0 (fun hc4 => ?_) (fun hc4 => ?_)
  ·(try simp only [blS] at hc4)
   refine zD hG [(13, 2, .call (.c (.d (.i (nxV l kq 5040)))) [] [[.sl 1 (intsD l), .i (nxK l kq 5040)]])] (i + 1, es ++ [[D.i (nxV l kq 5040)]], acc ++ [nxV l kq 5040], nxK l kq 5040) (by kernel_rfl) (conjC ((next_ok l kq 5040 (by (repeat (first | assumption | apply NumOk.next))) (by decide) : SpG g _ _ _ _ _)) (conjC (show ((es).length + (([[.i (nxV l kq 5040)]] : List (List D))).length) * (8 + 1) ≤ 140737488355328 from (by intros; (try simp only [zq14] at *); (try simp only [zq17] at *); omega)) (conj1 (show inR ((i : Int) + 1) from (by intros; (try simp only [zq14] at *); (try simp only [zq17] at *); omega))))) ?_ ?_
   ·(try dsimp only); omega
   ·have hjs := rest9_step (l := l) (kk := kq) (N := 12) (j := i) (by omega)
    refine ⟨by omega, hNq.next _, by rw [hes]; simp [intsD, intD], by simp [has], ?_⟩
    rw [← hr3, hjs]; simp
  ·(try simp only [blS] at hc4)
   have him : i = 12 := by omega
   subst him
   simp only [Nat.sub_self, rest9, List.append_nil] at hr3
   have hrl : (bT l).length = 12 := by rw [← hr3]; exact has
   refine zE hG [] (.exit 2) (⟨[(2, [], .c (.d (.nil))), (4, [], .c (.bx 302 0)), (8, [], .c (.ar 9005 0))], [(300, .arr 0 9 1 (([[.s (S [99, 111, 100, 101])], [.s (S [114, 97, 116, 101])], [.s (S [115, 105, 110, 99, 101])], [.s (S [111, 112, 101, 110])], [.s (S [108, 97, 98, 101, 108])]] : List (List D)))), (302, .box 66 [.d (.s (S [114, 97, 116, 101, 115])), .ar 300 0, .ar 9003 0]), (9003, .arr 0 45 1 (er)), (9005, .arr 0 3 1 (es))]⟩) (by kernel_rfl) conj0 rfl ?_
   refine stepK hG (⟨[(2, [], .c (.d (.nil))), (4, [], .c (.bx 302 0)), (8, [], .c (.d (.sl 1 (es))))], [(300, .arr 0 9 1 (([[.s (S [99, 111, 100, 101])], [.s (S [114, 97, 116, 101])], [.s (S [115, 105, 110, 99, 101])], [.s (S [111, 112, 101, 110])], [.s (S [108, 97, 98, 101, 108])]] : List (List D)))), (302, .box 66 [.d (.s (S [114, 97, 116, 101, 115])), .ar 300 0, .ar 9003 0]), (9003, .arr 0 45 1 (er))]⟩) (by kernel_rfl) ?_
   refine stepK hG (⟨[(2, [], .c (.d (.nil))), (4, [], .c (.bx 302 0)), (8, [], .c (.d (.sl 1 (es))))], [(302, .box 66 [.d (.s (S [114, 97, 116, 101, 115])), .d (.sl 1 (([[.s (S [99, 111, 100, 101])], [.s (S [114, 97, 116, 101])], [.s (S [115, 105, 110, 99, 101])], [.s (S [111, 112, 101, 110])], [.s (S [108, 97, 98, 101, 108])]] : List (List D)))), .ar 9003 0]), (9003, .arr 0 45 1 (er))]⟩) (by kernel_rfl) ?_
   refine stepK hG (⟨[(2, [], .c (.d (.nil))), (4, [], .c (.bx 302 0)), (8, [], .c (.d (.sl 1 (es))))], [(302, .box 66 [.d (.s (S [114, 97, 116, 101, 115])), .d (.sl 1 (([[.s (S [99, 111, 100, 101])], [.s (S [114, 97, 116, 101])], [.s (S [115, 105, 110, 99, 101])], [.s (S [111, 112, 101, 110])], [.s (S [108, 97, 98, 101, 108])]] : List (List D)))), .d (.sl 1 (er))])]⟩) (by kernel_rfl) ?_
   refine zR hG [(14, 2, .call (.agg [.d (.s (S [116, 111, 119, 110, 115])), .d (.sl 1 (strs (col9L.take (mN9 (bT l))))), .d (.sl 1 (rowsD (mR9 (bT l))))]) [] [])] [] (.c (.d (.sl 3 (([[.s (S [114, 97, 116, 101, 115]), .sl 1 (([[.s (S [99, 111, 100, 101])], [.s (S [114, 97, 116, 101])], [.s (S [115, 105, 110, 99, 101])], [.s (S [111, 112, 101, 110])], [.s (S [108, 97, 98, 101, 108])]] : List (List D))), .sl 1 (er)], [.s (S [116, 111, 119, 110, 115]), .sl 1 (strs (col9L.take (mN9 (bT l)))), .sl 1 (rowsD (mR9 (bT l)))]] : List (List D)))))) [] (by kernel_rfl) (conj1 ((made9_of [116, 111, 119, 110, 115] (bT l) es (by rw [hes, hr3]) ⟨by omega, by omega, by rw [hrl]; decide⟩ : SpG g _ _ _ _ _))) ?_ ?_
   ·rw [e1, her]; rfl
   ·rfl
theorem tabName_ok (nm : List UInt8) (hn : nm.length ≤ maxLen) :
  SpG g 161 [.c (.d (.s (S nm)))] [] (.c (.d (.b (rightB ⟨5, [], 0, 0, 0, [nm], []⟩)))) [] := by
 refine enterB 7 Tryz.func161 (by kernel_rfl) fun fr hG => ?_
 exact zr hG [(1, 3, .call (.c (.d (.b (rightB ⟨5, [], 0, 0, 0, [nm], []⟩)))) [] [])] [] (by kernel_rfl) (conj1 ((spec_mask (ins := [.agg [.d (.i 5), .d (.s (S [])), .d (.i 0), .d (.i 0), .d (.i 0), .d (.sl 1 (([[.s (S nm)]] : List (List D)))), .d (.nil)]]) [[none, none, none, none, none, none, some 1]] (right_ok ⟨5, [], 0, 0, 0, [nm], []⟩ ⟨by simp [maxLen], by simpa using hn, by simp⟩) : SpG g _ _ _ _ _)))
def zq18 := And.intro @List.length_map.{0, 0} (And.intro @blS (And.intro @rowD.eq_1 (And.intro @rowsD.eq_1 (@strs.eq_1))))
theorem tabRight_ok (nm : List UInt8) (cols : List (List UInt8)) (rows : List (List Cl)) (K : Nat → Int) (hn : nm.length ≤ maxLen) (h1 : rightB ⟨5, [], 0, 0, 0, [nm], []⟩ = true) (h2 : 1 ≤ cols.length) (hb : rows.length ≤ 1000) (hb2 : cols.length ≤ 1000) (hf : Vl.fit ⟨5, [], 0, 0, 0, cols, rows⟩) (h3 : rightB ⟨5, [], 0, 0, 0, cols, rows⟩ = true) (hw : ∀ i, i < rows.length → (rows.getD i []).length = cols.length) (hk : ∀ i c, i < rows.length → c < cols.length → ((rows.getD i []).getD c Cl.z).kind = 0 ∨ ((rows.getD i []).getD c Cl.z).kind = K c) :
  SpG g 79 [.agg [.d (.s (S nm)), .d (.sl 1 (strs cols)), .d (.sl 1 (rowsD rows))]] [] (.c (.d (.b true))) [] := by
 refine enterB 61 Tryz.func79 (by kernel_rfl) fun fr hG => ?_
 refine zC hG [(1, 2, .call (.c (.d (.b (rightB ⟨5, [], 0, 0, 0, [nm], []⟩)))) [] [])] [1, 0, 1] ((!(rightB ⟨5, [], 0, 0, 0, [nm], []⟩)) || (decide ((((strs cols).length : Int) : Int) = 0))) (⟨[(1, [], .c (.bx 100 0)), (2, [], .c (.d (.b false)))], [(100, .box 66 [.d (.s (S nm)), .d (.sl 1 (strs cols)), .d (.sl 1 (rowsD rows))])]⟩) (by kernel_rfl) (conj1 ((tabName_ok nm hn : SpG g _ _ _ _ _))) (fun hc1 => ?_) (fun hc1 => ?_)
 ·(try simp only [zq18] at hc1)
  exfalso; simp [h1, strs] at hc1; simp [hc1] at h2
 ·(try simp only [zq18] at hc1)
  refine zc hG [(3, 5, .call (.c (.d (.b (rightB ⟨5, [], 0, 0, 0, cols, rows⟩)))) [] [])] [1, 0, 1, 1] (!(rightB ⟨5, [], 0, 0, 0, cols, rows⟩)) (by kernel_rfl) (conj1 ((right_ok ⟨5, [], 0, 0, 0, cols, rows⟩ hf : SpG g _ _ _ _ _))) (fun hc2 => ?_) (fun hc2 => ?_)
  ·(try simp only [zq18] at hc2)
   exfalso; simp [h3] at hc2
  ·(try simp only [zq18] at hc2)
   refine zL hG [] [0, 1, 0, 1, 1, 1] (fun (zz : Nat) => match zz with | c => (cols.length - c, ⟨[(1, [], .c (.bx 100 0)), (2, [], .c (.d (.b false))), (26, [], .c (.d (.i ((strs cols).length : Int)))), (27, [], .c (.d (.i (c : Int))))], [(100, .box 66 [.d (.s (S nm)), .d (.sl 1 (strs cols)), .d (.sl 1 (rowsD rows))])]⟩, c ≤ cols.length)) 0 (by kernel_rfl) conj0 (by kernel_rfl) ?_ ?_
   ·exact Nat.zero_le _
   rintro c hc
   refine zc hG [] [0, 1] (decide (((c : Int) : Int) < ((strs cols).length : Int))) (by kernel_rfl) conj0 (fun hc4 => ?_) (fun hc4 => ?_)
   ·(try simp only [zq18] at hc4)
    refine zL hG [] [0, 1, 1, 1, 0, 0, 1, 1] (fun (zz : Nat × Int) => match zz with | (i, kd) => (rows.length - i, ⟨[(1, [], .c (.bx 100 0)), (2, [], .c (.d (.b false))), (3, [], .c (.d (.i (c : Int)))), (4, [], .c (.d (.i kd))), (26, [], .c (.d (.i ((strs cols).length : Int)))), (27, [], .c (.d (.i (c : Int)))), (31, [], .c (.d (.sl 1 (rowsD rows)))), (32, [], .c (.d (.i ((rowsD rows).length : Int)))), (33, [], .c (.d (.i (i : Int))))], [(100, .box 66 [.d (.s (S nm)), .d (.sl 1 (strs cols)), .d (.sl 1 (rowsD rows))])]⟩, i ≤ rows.length ∧ (kd = 0 ∨ kd = K c))) (0, 0) (by kernel_rfl) conj0 (by kernel_rfl) ?_ ?_
    ·exact ⟨Nat.zero_le _, .inl rfl⟩
    rintro ⟨i, kd⟩ ⟨hi, hkd⟩
    refine zc hG [] [0, 1] (decide (((i : Int) : Int) < ((rowsD rows).length : Int))) (by kernel_rfl) conj0 (fun hc6 => ?_) (fun hc6 => ?_)
    ·(try simp only [zq18] at hc6)
     have hww := hw i (by omega)
     refine zC hG [(11, 0, .elem (rows1 ((rows).getD i []))), (12, 2, .elem (ClD (((rows).getD i []).getD c Cl.z)))] [1, 0, 1, 0, 0, 1, 1] (decide (((((rows).getD i []).getD c Cl.z).kind : Int) = 0)) (⟨[(1, [], .c (.bx 100 0)), (2, [], .c (.d (.b false))), (3, [], .c (.d (.i (c : Int)))), (4, [], .c (.d (.i kd))), (6, [], .c (.d (.sl 7 (rowD ((rows).getD i []))))), (26, [], .c (.d (.i ((strs cols).length : Int)))), (27, [], .c (.d (.i (c : Int)))), (31, [], .c (.d (.sl 1 (rowsD rows)))), (32, [], .c (.d (.i ((rowsD rows).length : Int)))), (33, [], .c (.d (.i (i : Int))))], [(100, .box 66 [.d (.s (S nm)), .d (.sl 1 (strs cols)), .d (.sl 1 (rowsD rows))])]⟩) (by kernel_rfl) (conjC (show (0 : Int) ≤ (i : Int) ∧ (rowsD rows)[i]? = some (rows1 ((rows).getD i [])) from (by intros; exact map_at _ (by omega) (by (try simp only [zq3] at *); omega))) (conj1 (show (0 : Int) ≤ (c : Int) ∧ (rowD ((rows).getD i []))[c]? = some (ClD (((rows).getD i []).getD c Cl.z)) from (by intros; exact map_at _ (by omega) (by (try simp only [zq3] at *); omega))))) (fun hc7 => ?_) (fun hc7 => ?_)
     ·(try simp only [zq18] at hc7)
      refine zD hG [] (i + 1, kd) (by kernel_rfl) (conj1 (show inR ((i : Int) + 1) from (by intros; (try simp only [strs, rowD, rowsD, valsD, List.length_map, inR, maxLen] at *); omega))) ?_ ?_
      ·(try dsimp only); omega
      ·exact ⟨by omega, hkd⟩
     ·(try simp only [zq18] at hc7)
      refine zc hG [(13, 6, .elem (ClD (((rows).getD i []).getD c Cl.z)))] [1, 0, 1, 1, 0, 0, 1, 1] ((!decide ((kd : Int) = 0)) && (!decide ((kd : Int) = ((((rows).getD i []).getD c Cl.z).kind)))) (by kernel_rfl) (conj1 (show (!decide ((kd : Int) = 0)) = true → (0 : Int) ≤ (c : Int) ∧ (rowD ((rows).getD i []))[c]? = some (ClD (((rows).getD i []).getD c Cl.z)) from (by intros; exact map_at _ (by omega) (by (try simp only [zq3] at *); omega)))) (fun hc8 => ?_) (fun hc8 => ?_)
      ·(try simp only [zq18] at hc8)
       exfalso; have := hk i c (by omega) (by omega); omega
      ·(try simp only [zq18] at hc8)
       refine zD hG [(15, 2, .elem (ClD (((rows).getD i []).getD c Cl.z)))] (i + 1, ((rows.getD i []).getD c Cl.z).kind) (by kernel_rfl) (conjC (show (0 : Int) ≤ (c : Int) ∧ (rowD ((rows).getD i []))[c]? = some (ClD (((rows).getD i []).getD c Cl.z)) from (by intros; exact map_at _ (by omega) (by (try simp only [zq3] at *); omega))) (conj1 (show inR ((i : Int) + 1) from (by intros; (try simp only [strs, rowD, rowsD, valsD, List.length_map, inR, maxLen] at *); omega)))) ?_ ?_
       ·(try dsimp only); omega
       ·exact ⟨by omega, hk i c (by omega) (by omega)⟩
    ·(try simp only [zq18] at hc6)
     refine zE hG [] (.exit 2) (⟨[(1, [], .c (.bx 100 0)), (2, [], .c (.d (.b false))), (26, [], .c (.d (.i ((strs cols).length : Int)))), (27, [], .c (.d (.i (c : Int))))], [(100, .box 66 [.d (.s (S nm)), .d (.sl 1 (strs cols)), .d (.sl 1 (rowsD rows))])]⟩) (by kernel_rfl) conj0 rfl ?_
     refine zD hG [] (c + 1) (by kernel_rfl) (conj1 (show inR ((c : Int) + 1) from (by intros; (try simp only [strs, rowD, rowsD, valsD, List.length_map, inR, maxLen] at *); omega))) ?_ ?_
     ·(try dsimp only); omega
     ·show _ ≤ _; omega
   ·(try simp only [zq18] at hc4)
    refine zE hG [] (.exit 0) (⟨[(2, [], .c (.d (.b false)))], []⟩) (by kernel_rfl) conj0 rfl ?_
    exact zr hG [] [] (by kernel_rfl) conj0
end Go.Proofs.YtdejnaokkdndeaaGreatDoor
namespace Go.Proofs.YtdejnaokkdndeaaGreatDoor
open Go.RowKit Go.V
variable {m : Int}
def Wk (d d' : D) : Prop := ∀ (w : World) (F : Nat → Prop) (v : Value), Rd w F d v → Rd w F d' v
theorem Wk.refl (d : D) : Wk d d := fun _ _ _ h => h
theorem Wk.nil (sz : Nat) : Wk .nil (.sl sz []) := fun w F v h => by
 have : v = .slice none 0 0 := Rd.exact h
 rw [this]; exact .nil sz
theorem Wk.sl {sz : Nat} {es es' : List (List D)} (h : All2 (All2 Wk) es es') : Wk (.sl sz es) (.sl sz es') := fun w F v hv => by
 have hl : es.length = es'.length := h.1
 cases hv with
 | nil => have : es' = [] := List.eq_nil_of_length_eq_zero hl.symm; rw [this]; exact .nil sz
 | far _ a => have : es' = [] := List.eq_nil_of_length_eq_zero hl.symm; rw [this]; exact .far sz a
 | sl us hF hb hc hm hs hu hr =>
  have back : ∀ {i j : Nat} {ds' : List D} {d' : D}, es'[i]? = some ds' → ds'[j]? = some d' → ∃ ds d, es[i]? = some ds ∧ ds[j]? = some d ∧ Wk d d' := fun {i j ds' d'} hi hj => by
   have hi2 : i < es.length := by have := (List.getElem?_eq_some_iff.1 hi).1; omega
   have h2 := h.2 i es[i] ds' (List.getElem?_eq_getElem hi2) hi
   have hj2 : j < es[i].length := by have := (List.getElem?_eq_some_iff.1 hj).1; have := h2.1; omega
   exact ⟨es[i], es[i][j], List.getElem?_eq_getElem hi2, List.getElem?_eq_getElem hj2, h2.2 j _ d' (List.getElem?_eq_getElem hj2) hj⟩
  rw [hl]
  refine Rd.sl us hF hb (hl ▸ hc) hm (fun ds' hds => ?_) (fun i j ds' d' hi hj => ?_) (fun i j ds' d' hi hj => ?_)
  ·obtain ⟨i, hi⟩ := List.mem_iff_getElem?.1 hds
   have hi2 : i < es.length := by have := (List.getElem?_eq_some_iff.1 hi).1; omega
   have h2 := h.2 i es[i] ds' (List.getElem?_eq_getElem hi2) hi
   rw [← h2.1]; exact hs _ (List.getElem_mem hi2)
  ·obtain ⟨ds, d, a, b, _⟩ := back hi hj; exact hu i j ds d a b
  ·obtain ⟨ds, d, a, b, c⟩ := back hi hj; exact c _ _ _ (hr i j ds d a b)
def WkS (x y : SV) : Prop := ∀ (w : World) (pl : Pl) (own : V.Own) (v : Value), SvOk w pl own x v → SvOk w pl own y v
theorem All2.trans2 {α β γ : Type} {R : α → γ → Prop} {S : β → γ → Prop} {Q : α → β → Prop} {xs : List α} {ys : List β} {zs : List γ} (h : All2 Q xs ys) (h1 : All2 R xs zs) (hf : ∀ x y z, Q x y → R x z → S y z) : All2 S ys zs :=
 ⟨h.1.symm.trans h1.1, fun j y z hy hz => by
  have hj : j < xs.length := by have := (List.getElem?_eq_some_iff.1 hy).1; have := h.1; omega
  exact hf _ _ _ (h.2 j xs[j] y (List.getElem?_eq_getElem hj) hy) (h1.2 j xs[j] z (List.getElem?_eq_getElem hj) hz)⟩
theorem WkS.agg {ds ds' : List D} (h : All2 Wk ds ds') : WkS (.agg (ds.map .d)) (.agg (ds'.map .d)) := fun w pl own v hv => by
 obtain ⟨vs, rfl, h2⟩ := hv
 refine ⟨vs, rfl, ?_⟩
 have h3 : All2 (fun d v => Rd w (Sh pl own) d v) ds vs := ⟨by have := h2.1; simpa using this, fun j d v hd hv => h2.2 j (.d d) v (by simp [hd]) hv⟩
 have h4 : All2 (fun d v => Rd w (Sh pl own) d v) ds' vs := All2.trans2 h h3 fun x y z q r => q _ _ _ r
 exact h4.mapL fun x y r => r
theorem WkS.refl (x : SV) : WkS x x := fun _ _ _ _ h => h
theorem spec_wk {P : Program} {G : List (Nat × List Value)} {f : FuncId} {xs ys : List SV} {refs post : List (Nat × Ob)} {out : SV} (h : All2 WkS xs ys) (hs : V.Spec P G f ys refs out post) : V.Spec P G f xs refs out post :=
 fun fr w pl args hw hG hm ha => hs fr w pl args hw hG hm (All2.trans2 h ha fun x y z q r => q _ _ _ _ r)
theorem All2.map2 {α β γ : Type} {R : β → γ → Prop} {f : α → β} {g : α → γ} (l : List α) (h : ∀ x, R (f x) (g x)) : All2 R (l.map f) (l.map g) :=
 ⟨by simp, fun j x y hx hy => by
  rw [List.getElem?_map] at hx hy
  cases hj : l[j]? with
  | none => rw [hj] at hx; cases hx
  | some z =>
   rw [hj] at hx hy
   simp only [Option.map_some, Option.some.injEq] at hx hy
   subst hx; subst hy; exact h z⟩
def rowsF (f : Cl → List D) (rows : List (List Cl)) : List (List D) := rows.map fun r => [.sl 7 (r.map f)]
theorem all2_7 {R : D → D → Prop} {a b c d e f g a' b' c' d' e' f' g' : D} (h1 : R a a') (h2 : R b b') (h3 : R c c') (h4 : R d d') (h5 : R e e') (h6 : R f f') (h7 : R g g') : All2 R [a, b, c, d, e, f, g] [a', b', c', d', e', f', g'] :=
 All2.cons h1 (All2.cons h2 (All2.cons h3 (All2.cons h4 (All2.cons h5 (All2.cons h6 (All2.one h7))))))
theorem wkN (c : Cl) : All2 Wk (ClN c) (ClD c) := all2_7 (Wk.refl _) (Wk.refl _) (Wk.refl _) (Wk.refl _) (Wk.refl _) (Wk.nil 1) (Wk.nil 1)
def CellF (f : Cl → List D) : Prop := ∀ c, All2 Wk (f c) (ClD c)
theorem wkRows {f : Cl → List D} (hf : CellF f) (rows : List (List Cl)) : Wk (.sl 1 (rowsF f rows)) (.sl 1 (rowsD rows)) :=
 Wk.sl (All2.map2 rows fun r => All2.one (Wk.sl (All2.map2 r fun c => hf c)))
def cellF (f : Cl → List D) (c : Cl) : SV := .agg ((f c).map .d)
theorem wkCell {f : Cl → List D} (hf : CellF f) (c : Cl) : WkS (cellF f c) (vArg c.toV) := WkS.agg (ds' := ClD c) (hf c)
def RightOk (ins : List SV) : Prop := ∃ v : Vl, All2 WkS ins [vArg v] ∧ rightB v = true ∧ v.fit
def TabOk (ins : List SV) : Prop := ∃ (nm : List UInt8) (cols : List (List UInt8)) (rows : List (List Cl)) (K : Nat → Int), All2 WkS ins [.agg [.d (.s (S nm)), .d (.sl 1 (strs cols)), .d (.sl 1 (rowsD rows))]] ∧
 nm.length ≤ maxLen ∧ rightB ⟨5, [], 0, 0, 0, [nm], []⟩ = true ∧ 1 ≤ cols.length ∧ rows.length ≤ 1000 ∧ cols.length ≤ 1000 ∧ Vl.fit ⟨5, [], 0, 0, 0, cols, rows⟩ ∧ rightB ⟨5, [], 0, 0, 0, cols, rows⟩ = true ∧
 (∀ i, i < rows.length → (rows.getD i []).length = cols.length) ∧ (∀ i c, i < rows.length → c < cols.length → ((rows.getD i []).getD c Cl.z).kind = 0 ∨ ((rows.getD i []).getD c Cl.z).kind = K c)
def aYes (P : List SV → Prop) : Ask := fun _ ins refs => match refs with
 | [] => some (.c (.d (.b true)), [], [P ins])
 | _ => none
def eRightT : Ent Tryz.prog (Gl (gT m)) where
 f := 20
 ask := aYes RightOk
 ok := by
  intro k ins refs post out cs h hc
  unfold aYes at h
  split at h
  ·cases h
   obtain ⟨v, c1, c2, c3⟩ : RightOk ins := hc
   have := right_ok (g := gT m) v c3
   rw [c2] at this
   exact spec_wk c1 this
  ·cases h
def eTabT : Ent Tryz.prog (Gl (gT m)) where
 f := 79
 ask := aYes TabOk
 ok := by
  intro k ins refs post out cs h hc
  unfold aYes at h
  split at h
  ·cases h
   obtain ⟨nm, cols, rows, K, c1, c2, c3, c4, c5, c6, c7, c8, c9, c10⟩ : TabOk ins := hc
   exact spec_wk c1 (tabRight_ok (g := gT m) nm cols rows K c2 c3 c4 c5 c6 c7 c8 c9 c10)
  ·cases h
def mkT (l : List Nat) (j : Nat) (v : Int) : Nat → Option Value := fun k => bif l.any (Nat.beq k) then some .nilIface else bif Nat.beq k j then some (.int .i64 v) else none
def rowB (code : List UInt8) (a b c : Cl) (l : List UInt8) : List Cl := [⟨1, code, 0, 0, 0⟩, a, b, c, ⟨1, l, 0, 0, 0⟩]
def rowsB (nu da bo : Nat → Cl) (lb : Nat → List UInt8) : Nat → List (List Cl)
 | 2 => [rowB [97] (nu 0) (da 0) (bo 0) (lb 0), rowB [98] (nu 1) (da 1) (bo 1) (lb 1)]
 | 3 => [rowB [97] (nu 0) (da 0) (bo 0) (lb 0), rowB [98] (nu 1) (da 1) (bo 1) (lb 1), rowB [97, 98] (nu 2) (da 2) (bo 2) (lb 2)]
 | _ => [rowB [97] (nu 0) (da 0) (bo 0) (lb 0), rowB [98] (nu 1) (da 1) (bo 1) (lb 1), rowB [97, 98] (nu 2) (da 2) (bo 2) (lb 2), rowB [49, 50] (nu 3) (da 3) (bo 3) (lb 3)]
def ratesN : List UInt8 := [114, 97, 116, 101, 115]
def txC (t : List UInt8) : Cl := ⟨1, t, 0, 0, 0⟩
end Go.Proofs.YtdejnaokkdndeaaGreatDoor
namespace Go.Proofs.YtdejnaokkdndeaaGreatDoor
open Go.RowKit Go.V
open Go.Eng (inR byteAt u8 bytesV)
section
variable {g : Gv}
theorem numTable_ok (l : List Int) (k : Int) (h : NumOk l k) :
  SpG g 59 [.c (.bx 0 0)] [(0, .box 53 [.d (.sl 1 (intsD l)), .d (.i k)])] (.agg [.d (.i 5), .d (.s (S [])), .d (.i 0), .d (.i 0), .d (.i 0), .d (.sl 1 (strs ((tbM l k).1.cols))), .d (.sl 1 (rowsD ((tbM l k).1.rows)))]) [(0, .box 53 [.d (.sl 1 (intsD l)), .d (.i ((tbM l k).2))])] := by
 have a1 := nxV_bd l k (n := 4) (by decide)
 refine enterB 69 Tryz.func59 (by kernel_rfl) fun fr hG => ?_
 refine zA hG [(2, 1, .call (.c (.d (.i (nxV l k 4)))) [] [[.sl 1 (intsD l), .i (nxK l k 4)]])] [0, 1, 0, 1, 1, 1, 1] (⟨[(0, [], .c (.bx 0 0)), (2, [], .c (.bx 100 0)), (3, [], .c (.bx 201 0)), (4, [], .c (.d (.i (nxV l k 4)))), (5, [], .c (.d (.nil))), (6, [], .c (.d (.i 0)))], [(0, .box 53 [.d (.sl 1 (intsD l)), .d (.i (nxK l k 4))]), (100, .box 42 [.d (.i 0), .d (.s (S [])), .d (.i 0), .d (.i 0), .d (.i 0), .d (.nil), .d (.nil)]), (201, .box 42 [.d (.i 5), .d (.s (S [])), .d (.i 0), .d (.i 0), .d (.i 0), .d (.nil), .d (.nil)])]⟩) [(5, 9001, 3, 1)] [(201, 5, 9002, 9, 1)] (fun (zz : Nat × List (List D) × List (List D) × List Int × Int) => match zz with | (j, ek, ec, acck, kk) => ((nxV l k 4).toNat - j, ⟨[(0, [], .c (.bx 0 0)), (2, [], .c (.bx 100 0)), (3, [], .c (.bx 201 0)), (4, [], .c (.d (.i (nxV l k 4)))), (5, [], .c (.ar 9001 0)), (6, [], .c (.d (.i (j : Int))))], [(0, .box 53 [.d (.sl 1 (intsD l)), .d (.i kk)]), (100, .box 42 [.d (.i 0), .d (.s (S [])), .d (.i 0), .d (.i 0), .d (.i 0), .d (.nil), .d (.nil)]), (201, .box 42 [.d (.i 5), .d (.s (S [])), .d (.i 0), .d (.i 0), .d (.i 0), .ar 9002 0, .d (.nil)]), (9001, .arr 0 3 1 (ek)), (9002, .arr 0 9 1 (ec))]⟩, j ≤ (nxV l k 4).toNat ∧ NumOk l kk ∧ ek = intsD acck ∧ ec = strs (abcL.take j) ∧ acck.length = j ∧ (∀ x ∈ acck, 1 ≤ x ∧ x ≤ 4) ∧ acck ++ (kdM l ((nxV l k 4).toNat - j) kk).1 = (tbK l k).1 ∧ (kdM l ((nxV l k 4).toNat - j) kk).2 = (tbK l k).2)) (0, [], [], [], (nxK l k 4)) (by kernel_rfl) (conj1 ((next_ok l k 4 (by (repeat (first | assumption | apply NumOk.next))) (by decide) : SpG g _ _ _ _ _))) (by kernel_rfl) (by kernel_rfl) ?_ ?_
 ·exact ⟨Nat.zero_le _, (by (repeat (first | assumption | apply NumOk.next))), rfl, rfl, rfl, by simp, by simp [tbK], by simp [tbK]⟩
 rintro ⟨j, ek, ec, acck, kk⟩ ⟨hj, hN, hek, hec, ha, hkd, h3, h4⟩
 have hlen : ek.length = j := by rw [hek, intsD, List.length_map, ha]
 have hlen2 : ec.length = j := by rw [hec, strs, List.length_map, List.length_take, show abcL.length = 3 from rfl]; omega
 have hx := nxV_bd l kk (n := 4) (by decide)
 refine zc hG [] [1, 0] (decide (((j : Int) : Int) < (nxV l k 4))) (by kernel_rfl) conj0 (fun hc2 => ?_) (fun hc2 => ?_)
 ·(try simp only [blS] at hc2)
  refine zD hG [(7, 5, .elem (strD (abcL.getD j []))), (8, 2, .call (.c (.d (.i (nxV l kk 4)))) [] [[.sl 1 (intsD l), .i (nxK l kk 4)]])] (j + 1, ek ++ [[D.i (1 + nxV l kk 4)]], ec ++ [[D.s (S (abcL.getD j []))]], acck ++ [1 + nxV l kk 4], nxK l kk 4) (by kernel_rfl) (conjC (show (0 : Int) ≤ (j : Int) ∧ (j : Int) < ((([[.s (S [97])], [.s (S [98])], [.s (S [99])]] : List (List D))).length : Int) from (by intros; (try simp only [zq15] at *); (try simp only [zq16] at *); omega)) (conjC (show (([[.s (S [97])], [.s (S [98])], [.s (S [99])]] : List (List D)))[j]? = some (strD (abcL.getD j [])) from (abc_at (by omega))) (conjC (show ((ec).length + (([[.s (S (abcL.getD j []))]] : List (List D))).length) * (16 + 1) ≤ 140737488355328 from (by intros; (try simp only [zq15] at *); (try simp only [zq16] at *); omega)) (conjC ((next_ok l kk 4 (by (repeat (first | assumption | apply NumOk.next))) (by decide) : SpG g _ _ _ _ _)) (conjC (show inR (1 + (nxV l kk 4)) from (by intros; (try simp only [zq15] at *); (try simp only [zq16] at *); omega)) (conjC (show ((ek).length + (([[.i (1 + (nxV l kk 4))]] : List (List D))).length) * (8 + 1) ≤ 140737488355328 from (by intros; (try simp only [zq15] at *); (try simp only [zq16] at *); omega)) (conj1 (show inR ((j : Int) + 1) from (by intros; (try simp only [zq15] at *); (try simp only [zq16] at *); omega))))))))) ?_ ?_
  ·(try dsimp only); omega
  ·have hjs := kd_step (l := l) (kk := kk) (N := (nxV l k 4).toNat) (j := j) (by omega)
   refine ⟨by omega, hN.next _, by rw [hek]; simp [intsD, intD], ?_, by simp [ha], ?_, ?_, ?_⟩
   ·rw [hec, take_succ_strs (show j < abcL.length by rw [show abcL.length = 3 from rfl]; omega)]; rfl
   ·intro x hx2
    rcases List.mem_append.1 hx2 with hx2 | hx2
    ·exact hkd x hx2
    ·simp at hx2; omega
   ·rw [← h3, hjs]; simp
   ·rw [← h4, hjs]
 ·(try simp only [blS] at hc2)
  have hjm : j = (nxV l k 4).toNat := by omega
  have hz0 : (nxV l k 4).toNat - j = 0 := by omega
  rw [hz0] at h3 h4
  simp only [kdM, List.append_nil] at h3 h4
  have e1 : (tbK l k).1 = acck := h3.symm
  have e2 : (tbK l k).2 = kk := h4.symm
  have hml : (tbK l k).1.length = (nxV l k 4).toNat := by rw [e1, ha, hjm]
  have a5 := nxV_bd l kk (n := 5) (by decide)
  have e3 : (nxV l (tbK l k).2 5).toNat = (nxV l kk 5).toNat := by rw [e2]
  refine zE hG [] (.exit 0) (⟨[(0, [], .c (.bx 0 0)), (2, [], .c (.bx 100 0)), (3, [], .c (.bx 201 0)), (4, [], .c (.d (.i (nxV l k 4)))), (5, [], .c (.ar 9001 0))], [(0, .box 53 [.d (.sl 1 (intsD l)), .d (.i kk)]), (100, .box 42 [.d (.i 0), .d (.s (S [])), .d (.i 0), .d (.i 0), .d (.i 0), .d (.nil), .d (.nil)]), (201, .box 42 [.d (.i 5), .d (.s (S [])), .d (.i 0), .d (.i 0), .d (.i 0), .ar 9002 0, .d (.nil)]), (9001, .arr 0 3 1 (ek)), (9002, .arr 0 9 1 (ec))]⟩) (by kernel_rfl) conj0 rfl ?_
  refine zA hG [(9, 1, .call (.c (.d (.i (nxV l kk 5)))) [] [[.sl 1 (intsD l), .i (nxK l kk 5)]])] [0, 1, 0, 1, 1, 1, 1, 1, 1] (⟨[(0, [], .c (.bx 0 0)), (2, [], .c (.bx 100 0)), (3, [], .c (.bx 201 0)), (4, [], .c (.d (.i (nxV l k 4)))), (5, [], .c (.ar 9001 0)), (7, [], .c (.d (.i (nxV l kk 5)))), (8, [], .c (.d (.i 0)))], [(0, .box 53 [.d (.sl 1 (intsD l)), .d (.i (nxK l kk 5))]), (100, .box 42 [.d (.i 0), .d (.s (S [])), .d (.i 0), .d (.i 0), .d (.i 0), .d (.nil), .d (.nil)]), (201, .box 42 [.d (.i 5), .d (.s (S [])), .d (.i 0), .d (.i 0), .d (.i 0), .ar 9002 0, .d (.nil)]), (9001, .arr 0 3 1 (ek)), (9002, .arr 0 9 1 (ec))]⟩) [] [(201, 6, 9003, 45, 1)] (fun (zz : Nat × List (List D) × List (List Cl) × Int) => match zz with | (i, er, accr, kr) => ((nxV l (tbK l k).2 5).toNat - i, ⟨[(0, [], .c (.bx 0 0)), (2, [], .c (.bx 100 0)), (3, [], .c (.bx 201 0)), (4, [], .c (.d (.i (nxV l k 4)))), (5, [], .c (.ar 9001 0)), (7, [], .c (.d (.i (nxV l kk 5)))), (8, [], .c (.d (.i (i : Int))))], [(0, .box 53 [.d (.sl 1 (intsD l)), .d (.i kr)]), (100, .box 42 [.d (.i 0), .d (.s (S [])), .d (.i 0), .d (.i 0), .d (.i 0), .d (.nil), .d (.nil)]), (201, .box 42 [.d (.i 5), .d (.s (S [])), .d (.i 0), .d (.i 0), .d (.i 0), .ar 9002 0, .ar 9003 0]), (9001, .arr 0 3 1 (ek)), (9002, .arr 0 9 1 (ec)), (9003, .arr 0 45 1 (er))]⟩, i ≤ (nxV l (tbK l k).2 5).toNat ∧ NumOk l kr ∧ er = rowsD accr ∧ accr.length = i ∧ accr ++ (rsM l (tbK l k).1 ((nxV l (tbK l k).2 5).toNat - i) kr).1 = (tbR l k).1 ∧ (rsM l (tbK l k).1 ((nxV l (tbK l k).2 5).toNat - i) kr).2 = (tbR l k).2)) (0, [], [], nxK l kk 5) (by kernel_rfl) (conj1 ((next_ok l kk 5 (by (repeat (first | assumption | apply NumOk.next))) (by decide) : SpG g _ _ _ _ _))) (by kernel_rfl) (by kernel_rfl) ?_ ?_
  ·exact ⟨Nat.zero_le _, (by (repeat (first | assumption | apply NumOk.next))), rfl, rfl, by simp [tbR, e2], by simp [tbR, e2]⟩
  rintro ⟨i, er, accr, kr⟩ ⟨hi, hNr, her, har, hr3, hr4⟩
  have hlen3 : er.length = i := by rw [her, rowsD, List.length_map, har]
  refine zc hG [] [1, 0] (decide (((i : Int) : Int) < (nxV l kk 5))) (by kernel_rfl) conj0 (fun hc4 => ?_) (fun hc4 => ?_)
  ·(try simp only [blS] at hc4)
   refine zA hG [] [0, 1, 0, 1, 0, 0, 1] (⟨[(0, [], .c (.bx 0 0)), (2, [], .c (.bx 100 0)), (3, [], .c (.bx 201 0)), (4, [], .c (.d (.i (nxV l k 4)))), (5, [], .c (.ar 9001 0)), (7, [], .c (.d (.i (nxV l kk 5)))), (8, [], .c (.d (.i (i : Int)))), (9, [], .c (.d (.nil))), (10, [], .c (.d (.i 0)))], [(0, .box 53 [.d (.sl 1 (intsD l)), .d (.i kr)]), (100, .box 42 [.d (.i 0), .d (.s (S [])), .d (.i 0), .d (.i 0), .d (.i 0), .d (.nil), .d (.nil)]), (201, .box 42 [.d (.i 5), .d (.s (S [])), .d (.i 0), .d (.i 0), .d (.i 0), .ar 9002 0, .ar 9003 0]), (9001, .arr 0 3 1 (ek)), (9002, .arr 0 9 1 (ec)), (9003, .arr 0 45 1 (er))]⟩) [(9, 9004, 42, 7)] [] (fun (zz : Nat × List (List D) × List Cl × Int) => match zz with | (c, et, acct, kt) => ((tbK l k).1.length - c, ⟨[(0, [], .c (.bx 0 0)), (2, [], .c (.bx 100 0)), (3, [], .c (.bx 201 0)), (4, [], .c (.d (.i (nxV l k 4)))), (5, [], .c (.ar 9001 0)), (7, [], .c (.d (.i (nxV l kk 5)))), (8, [], .c (.d (.i (i : Int)))), (9, [], .c (.ar 9004 0)), (10, [], .c (.d (.i (c : Int))))], [(0, .box 53 [.d (.sl 1 (intsD l)), .d (.i kt)]), (100, .box 42 [.d (.i 0), .d (.s (S [])), .d (.i 0), .d (.i 0), .d (.i 0), .d (.nil), .d (.nil)]), (201, .box 42 [.d (.i 5), .d (.s (S [])), .d (.i 0), .d (.i 0), .d (.i 0), .ar 9002 0, .ar 9003 0]), (9001, .arr 0 3 1 (ek)), (9002, .arr 0 9 1 (ec)), (9003, .arr 0 45 1 (er)), (9004, .arr 0 42 7 (et))]⟩, c ≤ (tbK l k).1.length ∧ NumOk l kt ∧ et = rowD acct ∧ acct.length = c ∧ acct ++ (rwM l ((tbK l k).1.drop c) kt).1 = (rwM l (tbK l k).1 kr).1 ∧ (rwM l ((tbK l k).1.drop c) kt).2 = (rwM l (tbK l k).1 kr).2)) (0, [], [], kr) (by kernel_rfl) conj0 (by kernel_rfl) (by kernel_rfl) ?_ ?_
   ·exact ⟨Nat.zero_le _, hNr, rfl, rfl, by simp, by simp⟩
   rintro ⟨c, et, acct, kt⟩ ⟨hc, hNt, het, hat, ht3, ht4⟩
   have hlen4 : et.length = c := by rw [het, rowD, List.length_map, hat]
   refine zc hG [] [1, 0] (decide (((c : Int) : Int) < (nxV l k 4))) (by kernel_rfl) conj0 (fun hc6 => ?_) (fun hc6 => ?_)
   ·(try simp only [blS] at hc6)
    refine zC hG [(17, 1, .call (.c (.d (.i (nxV l kt 9)))) [] [[.sl 1 (intsD l), .i (nxK l kt 9)]])] [1, 0, 0, 1] (decide ((nxV l kt 9 : Int) = 8)) (⟨[(0, [], .c (.bx 0 0)), (2, [], .c (.bx 100 0)), (3, [], .c (.bx 201 0)), (4, [], .c (.d (.i (nxV l k 4)))), (5, [], .c (.ar 9001 0)), (7, [], .c (.d (.i (nxV l kk 5)))), (8, [], .c (.d (.i (i : Int)))), (9, [], .c (.ar 9004 0)), (10, [], .c (.d (.i (c : Int))))], [(0, .box 53 [.d (.sl 1 (intsD l)), .d (.i (nxK l kt 9))]), (100, .box 42 [.d (.i 0), .d (.s (S [])), .d (.i 0), .d (.i 0), .d (.i 0), .d (.nil), .d (.nil)]), (201, .box 42 [.d (.i 5), .d (.s (S [])), .d (.i 0), .d (.i 0), .d (.i 0), .ar 9002 0, .ar 9003 0]), (9001, .arr 0 3 1 (ek)), (9002, .arr 0 9 1 (ec)), (9003, .arr 0 45 1 (er)), (9004, .arr 0 42 7 (et))]⟩) (by kernel_rfl) (conj1 ((next_ok l kt 9 (by (repeat (first | assumption | apply NumOk.next))) (by decide) : SpG g _ _ _ _ _))) (fun hc7 => ?_) (fun hc7 => ?_)
    ·(try simp only [blS] at hc7)
     refine zD hG [(18, 2, .mask [none, none, none, none, none, some 1, some 1])] (c + 1, et ++ [ClD Cl.z], acct ++ [Cl.z], nxK l kt 9) (by kernel_rfl) (conjC (show ((et).length + (([[.i 0, .s (S []), .i 0, .i 0, .i 0, .sl 1 ([]), .sl 1 ([])]] : List (List D))).length) * (96 + 1) ≤ 140737488355328 from (by intros; (try simp only [zq15] at *); (try simp only [zq16] at *); omega)) (conj1 (show inR ((c : Int) + 1) from (by intros; (try simp only [zq15] at *); (try simp only [zq16] at *); omega)))) ?_ ?_
     ·(try dsimp only); omega
     ·have hjs := rw_step (l := l) (kds := (tbK l k).1) (kk := kt) (j := c) (by omega)
      have hce : ceM l ((tbK l k).1.getD c 0) kt = (Cl.z, nxK l kt 9) := by rw [ceM, if_pos hc7]
      rw [hce] at hjs
      refine ⟨by omega, hNt.next _, by rw [het]; simp [rowD], by simp [hat], ?_, ?_⟩
      ·rw [← ht3, hjs]; simp
      ·rw [← ht4, hjs]
    ·(try simp only [blS] at hc7)
     refine zD hG [(19, 5, .elem (intD (acck.getD c 0))), (19, 6, .call (.agg [.d (.i (((cvM l (nxK l kt 9) (acck.getD c 0)).1).kind)), .d (.s (S ((cvM l (nxK l kt 9) (acck.getD c 0)).1).s)), .d (.i (((cvM l (nxK l kt 9) (acck.getD c 0)).1).dn)), .d (.i (((cvM l (nxK l kt 9) (acck.getD c 0)).1).ds)), .d (.i (((cvM l (nxK l kt 9) (acck.getD c 0)).1).n)), .d (.nil), .d (.nil)]) [] [[.sl 1 (intsD l), .i ((cvM l (nxK l kt 9) (acck.getD c 0)).2)]]), (19, 7, .mask [none, none, none, none, none, some 1, some 1])] (c + 1, et ++ [ClD (cvM l (nxK l kt 9) (acck.getD c 0)).1], acct ++ [(cvM l (nxK l kt 9) (acck.getD c 0)).1], (cvM l (nxK l kt 9) (acck.getD c 0)).2) (by kernel_rfl) (conjC (show (0 : Int) ≤ (c : Int) ∧ (c : Int) < ((ek).length : Int) from (by intros; (try simp only [zq15] at *); (try simp only [zq16] at *); omega)) (conjC (show (ek)[c]? = some (intD (acck.getD c 0)) from (by intros; rw [hek]; exact map_nat _ (by omega))) (conjC ((numCell_ok l (nxK l kt 9) (acck.getD c 0) (by (repeat (first | assumption | apply NumOk.next))) (by have := hkd (acck.getD c 0) (getD_mem (by omega)); omega) : SpG g _ _ _ _ _)) (conjC (show ((et).length + (([[.i (((cvM l (nxK l kt 9) (acck.getD c 0)).1).kind), .s (S ((cvM l (nxK l kt 9) (acck.getD c 0)).1).s), .i (((cvM l (nxK l kt 9) (acck.getD c 0)).1).dn), .i (((cvM l (nxK l kt 9) (acck.getD c 0)).1).ds), .i (((cvM l (nxK l kt 9) (acck.getD c 0)).1).n), .sl 1 ([]), .sl 1 ([])]] : List (List D))).length) * (96 + 1) ≤ 140737488355328 from (by intros; (try simp only [zq15] at *); (try simp only [zq16] at *); omega)) (conj1 (show inR ((c : Int) + 1) from (by intros; (try simp only [zq15] at *); (try simp only [zq16] at *); omega))))))) ?_ ?_
     ·(try dsimp only); omega
     ·have hjs := rw_step (l := l) (kds := (tbK l k).1) (kk := kt) (j := c) (by omega)
      have hce : ceM l ((tbK l k).1.getD c 0) kt = cvM l (nxK l kt 9) (acck.getD c 0) := by rw [ceM, if_neg hc7, e1]
      rw [hce] at hjs
      refine ⟨by omega, cv_num (hNt.next _), by rw [het]; simp [rowD], by simp [hat], ?_, ?_⟩
      ·rw [← ht3, hjs]; simp
      ·rw [← ht4, hjs]
   ·(try simp only [blS] at hc6)
    refine zE hG [] (.exit 4) (⟨[(0, [], .c (.bx 0 0)), (2, [], .c (.bx 100 0)), (3, [], .c (.bx 201 0)), (4, [], .c (.d (.i (nxV l k 4)))), (5, [], .c (.ar 9001 0)), (7, [], .c (.d (.i (nxV l kk 5)))), (8, [], .c (.d (.i (i : Int)))), (9, [], .c (.ar 9004 0))], [(0, .box 53 [.d (.sl 1 (intsD l)), .d (.i kt)]), (100, .box 42 [.d (.i 0), .d (.s (S [])), .d (.i 0), .d (.i 0), .d (.i 0), .d (.nil), .d (.nil)]), (201, .box 42 [.d (.i 5), .d (.s (S [])), .d (.i 0), .d (.i 0), .d (.i 0), .ar 9002 0, .ar 9003 0]), (9001, .arr 0 3 1 (ek)), (9002, .arr 0 9 1 (ec)), (9003, .arr 0 45 1 (er)), (9004, .arr 0 42 7 (et))]⟩) (by kernel_rfl) conj0 rfl ?_
    refine stepK hG (⟨[(0, [], .c (.bx 0 0)), (2, [], .c (.bx 100 0)), (3, [], .c (.bx 201 0)), (4, [], .c (.d (.i (nxV l k 4)))), (5, [], .c (.ar 9001 0)), (7, [], .c (.d (.i (nxV l kk 5)))), (8, [], .c (.d (.i (i : Int)))), (9, [], .c (.d (.sl 7 (et))))], [(0, .box 53 [.d (.sl 1 (intsD l)), .d (.i kt)]), (100, .box 42 [.d (.i 0), .d (.s (S [])), .d (.i 0), .d (.i 0), .d (.i 0), .d (.nil), .d (.nil)]), (201, .box 42 [.d (.i 5), .d (.s (S [])), .d (.i 0), .d (.i 0), .d (.i 0), .ar 9002 0, .ar 9003 0]), (9001, .arr 0 3 1 (ek)), (9002, .arr 0 9 1 (ec)), (9003, .arr 0 45 1 (er))]⟩) (by kernel_rfl) ?_
    refine zD hG [] (i + 1, er ++ [[D.sl 7 et]], accr ++ [acct], kt) (by kernel_rfl) (conjC (show ((er).length + (([[.sl 7 (et)]] : List (List D))).length) * (24 + 1) ≤ 140737488355328 from (by intros; (try simp only [zq15] at *); (try simp only [zq16] at *); omega)) (conj1 (show inR ((i : Int) + 1) from (by intros; (try simp only [zq15] at *); (try simp only [zq16] at *); omega)))) ?_ ?_
    ·(try dsimp only); omega
    ·have hjs := rs_step (l := l) (kds := (tbK l k).1) (kk := kr) (N := (nxV l (tbK l k).2 5).toNat) (j := i) (by omega)
     have hz : (tbK l k).1.drop c = [] := List.drop_eq_nil_of_le (by omega)
     rw [hz] at ht3 ht4
     simp only [rwM, List.append_nil] at ht3 ht4
     refine ⟨by omega, hNt, ?_, by simp [har], ?_, ?_⟩
     ·rw [her, het]; simp [rowsD, rows1]
     ·rw [← hr3, hjs, ← ht3, ← ht4]; simp
     ·rw [← hr4, hjs, ← ht4]
  ·(try simp only [blS] at hc4)
   refine zE hG [] (.exit 2) (⟨[(2, [], .c (.bx 100 0)), (3, [], .c (.bx 201 0))], [(0, .box 53 [.d (.sl 1 (intsD l)), .d (.i kr)]), (100, .box 42 [.d (.i 0), .d (.s (S [])), .d (.i 0), .d (.i 0), .d (.i 0), .d (.nil), .d (.nil)]), (201, .box 42 [.d (.i 5), .d (.s (S [])), .d (.i 0), .d (.i 0), .d (.i 0), .ar 9002 0, .ar 9003 0]), (9002, .arr 0 9 1 (ec)), (9003, .arr 0 45 1 (er))]⟩) (by kernel_rfl) conj0 rfl ?_
   refine zR hG [] [] (.agg [.d (.i 5), .d (.s (S [])), .d (.i 0), .d (.i 0), .d (.i 0), .d (.sl 1 (ec)), .d (.sl 1 (er))]) [(0, .box 53 [.d (.sl 1 (intsD l)), .d (.i kr)])] (by kernel_rfl) conj0 ?_ ?_
   ·have hzr : (nxV l (tbK l k).2 5).toNat - i = 0 := by omega
    rw [hzr] at hr3
    simp only [rsM, List.append_nil] at hr3
    have f1 : (tbM l k).1.rows = accr := hr3.symm
    have f2 : (tbM l k).1.cols = abcL.take j := by rw [hjm]; rfl
    rw [f1, f2, hec, her]
   ·have hzr : (nxV l (tbK l k).2 5).toNat - i = 0 := by omega
    rw [hzr] at hr4
    simp only [rsM] at hr4
    have f1 : (tbM l k).2 = kr := hr4.symm
    rw [f1]
theorem numValue5_ok (l : List Int) (k kind : Int) (h : NumOk l k) (hk : kind = 5) :
  SpG g 21 [.c (.bx 0 0), .c (.d (.i kind))] [(0, .box 53 [.d (.sl 1 (intsD l)), .d (.i k)])] (.agg [.d (.i (((tbM l k).1).kind)), .d (.s (S ((tbM l k).1).s)), .d (.i (((tbM l k).1).dn)), .d (.i (((tbM l k).1).ds)), .d (.i (((tbM l k).1).n)), .d (.sl 1 (strs (((tbM l k).1).cols))), .d (.sl 1 (rowsD (((tbM l k).1).rows)))]) [(0, .box 53 [.d (.sl 1 (intsD l)), .d (.i ((tbM l k).2))])] := by
 refine enterB 45 Tryz.func21 (by kernel_rfl) fun fr hG => ?_
 refine zC hG [] [1, 0, 1, 0, 1] (decide ((kind : Int) = 1)) (⟨[(0, [], .c (.bx 0 0)), (1, [], .c (.d (.i kind))), (4, [], .c (.bx 100 0)), (6, [], .c (.d (.i kind)))], [(0, .box 53 [.d (.sl 1 (intsD l)), .d (.i k)]), (100, .box 42 [.d (.i 0), .d (.s (S [])), .d (.i 0), .d (.i 0), .d (.i 0), .d (.nil), .d (.nil)])]⟩) (by kernel_rfl) conj0 (fun hc1 => ?_) (fun hc1 => ?_)
 ·(try simp only [blS] at hc1)
  exfalso; omega
 ·(try simp only [blS] at hc1)
  refine zc hG [] [1, 1, 1, 0, 1, 0, 1] (decide ((kind : Int) = 2)) (by kernel_rfl) conj0 (fun hc2 => ?_) (fun hc2 => ?_)
  ·(try simp only [blS] at hc2)
   exfalso; omega
  ·(try simp only [blS] at hc2)
   refine zc hG [] [1, 1, 1, 1, 1, 0, 1, 0, 1] (decide ((kind : Int) = 3)) (by kernel_rfl) conj0 (fun hc3 => ?_) (fun hc3 => ?_)
   ·(try simp only [blS] at hc3)
    exfalso; omega
   ·(try simp only [blS] at hc3)
    refine zc hG [] [1, 1, 1, 1, 1, 1, 1, 0, 1, 0, 1] (decide ((kind : Int) = 4)) (by kernel_rfl) conj0 (fun hc4 => ?_) (fun hc4 => ?_)
    ·(try simp only [blS] at hc4)
     exfalso; omega
    ·(try simp only [blS] at hc4)
     refine zC hG [] [1, 1, 1, 1, 1, 1, 1, 1, 1, 0, 1, 0, 1] (decide ((kind : Int) = 5)) (⟨[(0, [], .c (.bx 0 0)), (4, [], .c (.bx 100 0))], [(0, .box 53 [.d (.sl 1 (intsD l)), .d (.i k)]), (100, .box 42 [.d (.i 0), .d (.s (S [])), .d (.i 0), .d (.i 0), .d (.i 0), .d (.nil), .d (.nil)])]⟩) (by kernel_rfl) conj0 (fun hc5 => ?_) (fun hc5 => ?_)
     ·(try simp only [blS] at hc5)
      exact zr hG [(14, 1, .call (.agg [.d (.i 5), .d (.s (S [])), .d (.i 0), .d (.i 0), .d (.i 0), .d (.sl 1 (strs ((tbM l k).1.cols))), .d (.sl 1 (rowsD ((tbM l k).1.rows)))]) [] [[.sl 1 (intsD l), .i ((tbM l k).2)]])] [] (by kernel_rfl) (conj1 ((numTable_ok l k (by (repeat (first | assumption | apply NumOk.next))) : SpG g _ _ _ _ _)))
     ·(try simp only [blS] at hc5)
      exfalso; omega
theorem numValue_ok (l : List Int) (k kind : Int) (h : NumOk l k) : SpG g 21 [.c (.bx 0 0), .c (.d (.i kind))] [(0, .box 53 [.d (.sl 1 (intsD l)), .d (.i k)])] (.agg [.d (.i (((vlM l k kind).1).kind)), .d (.s (S ((vlM l k kind).1).s)), .d (.i (((vlM l k kind).1).dn)), .d (.i (((vlM l k kind).1).ds)), .d (.i (((vlM l k kind).1).n)), .d (.sl 1 (strs (((vlM l k kind).1).cols))), .d (.sl 1 (rowsD (((vlM l k kind).1).rows)))]) [(0, .box 53 [.d (.sl 1 (intsD l)), .d (.i (vlM l k kind).2)])] := by
 by_cases hk : kind = 5
 ·have := numValue5_ok (g := g) l k kind h hk
  unfold vlM
  rw [if_pos hk]
  exact this
 ·have := spec_out [none, none, none, none, none, some 1, some 1] (numCell_ok (g := g) l k kind h hk)
  unfold vlM
  rw [if_neg hk]
  exact this
end
end Go.Proofs.YtdejnaokkdndeaaGreatDoor
namespace Go.Proofs.YtdejnaokkdndeaaGreatDoor
open Go.RowKit Go.V
variable {m : Int}
def eAny (f : FuncId) (out : SV) : Ent Tryz.prog (Gl (gT m)) where
 f := f
 ask := fun _ ins refs => match refs with
  | [] => some (out, [], [V.Spec Tryz.prog (Gl (gT m)) f ins [] out []])
  | _ => none
 ok := by
  intro k ins refs post out' cs h hc
  split at h
  ·cases h; exact hc
  ·cases h
def ValOk (es : List (List D)) (k kind : Int) : Prop := ∃ l, es = intsD l ∧ NumOk l k ∧ 0 ≤ kind ∧ kind ≤ 5
def valS (es : List (List D)) (k kind : Int) : SV := .agg [.d (.i kind), .d (.s (S (vlM (unI es) k kind).1.s)), .d (.i (vlM (unI es) k kind).1.dn), .d (.i (vlM (unI es) k kind).1.ds), .d (.i (vlM (unI es) k kind).1.n), .d (.sl 1 (strs (vlM (unI es) k kind).1.cols)), .d (.sl 1 (rowsD (vlM (unI es) k kind).1.rows))]
theorem unI_D (l : List Int) : unI (intsD l) = l := by
 induction l with
 | nil => rfl
 | cons x r ih => exact congrArg (x :: ·) ih
def eVal : Ent Tryz.prog (Gl (gT m)) where
 f := 21
 ask := fun _ ins refs => match ins, refs with
  | [.c (.bx 0 0), .c (.d (.v (.int .i64 kind)))], [(0, .box ⟨.c 53, none⟩ [.d (.sl 1 es), .d (.v (.int .i64 k))])] =>
   some (valS es k kind, [(0, .box 53 [.d (.sl 1 es), .d (.i (vlM (unI es) k kind).2)])], [ValOk es k kind])
  | _, _ => none
 ok := by
  intro k ins refs post out cs h hc
  split at h
  ·rename_i kind es k'
   cases h
   obtain ⟨l, rfl, c2, c3, c4⟩ : ValOk es k' kind := hc
   have := numValue_ok (g := gT m) l k' kind c2
   rw [vl_kind l k' kind c3 c4] at this
   unfold valS
   rw [unI_D]
   exact this
  ·cases h
def eErr : Ent Tryz.prog (Gl (gT m)) where
 f := 49
 ask := fun _ ins refs => match ins, refs with
  | [.agg [.d a, .d b, .d c, .d d, .d n, .d e, .d f]], [] => some (.c (.d n), [], [V.Spec Tryz.prog (Gl (gT m)) 49 [.agg [.d a, .d b, .d c, .d d, .d n, .d e, .d f]] [] (.c (.d n)) []])
  | _, _ => none
 ok := by
  intro k ins refs post out cs h hc
  split at h
  ·cases h; exact hc
  ·cases h
def eItoa : Ent Tryz.prog (Gl (gT m)) where
 f := 264
 ask := fun _ ins refs => match ins, refs with
  | [.c (.d (.v (.int .i64 (.ofNat n))))], [] => bif Nat.ble n 9223372036854775807 then some (.c (.d (.s (S (natT n)))), [], []) else none
  | _, _ => none
 ok := by
  intro k ins refs post out cs h hc
  split at h
  ·rename_i n
   cases hb : Nat.ble n 9223372036854775807 with
   | false => rw [hb] at h; cases h
   | true =>
    rw [hb] at h
    cases h
    have hn : n ≤ 9223372036854775807 := by simpa using hb
    exact itoa_ok (g := gT m) (n : Int) (by omega) (by omega)
  ·cases h
def eFmtU : Ent Tryz.prog (Gl (gT m)) where
 f := 274
 ask := fun _ ins refs => match ins, refs with
  | [.c (.d (.v (.int .u64 (.ofNat n)))), .c (.d (.v (.int .i64 (.ofNat 10))))], [] => bif Nat.blt n 18446744073709551616 then some (.c (.d (.s (S (natT n)))), [], []) else none
  | _, _ => none
 ok := by
  intro k ins refs post out cs h hc
  split at h
  ·rename_i n
   cases hb : Nat.blt n 18446744073709551616 with
   | false => rw [hb] at h; cases h
   | true =>
    rw [hb] at h
    cases h
    exact formatUint_ok (g := gT m) n (by simpa using hb)
  ·cases h
def colsA : D := .sl 2 [[.s (S [110, 97, 109, 101]), .i 1], [.s (S [112, 114, 105, 99, 101]), .i 2], [.s (S [100, 117, 101]), .i 3], [.s (S [112, 97, 105, 100]), .i 4], [.s (S [105, 116, 101, 109, 115]), .i 5], [.s (S [110, 111, 116, 101]), .i 1]]
def tyA (op p : List UInt8) (bes : List (List D)) : List SV := [.c (.d (.s (S op))), .c (.d (.s (S p))), .c (.d (.sl 3 bes)), .c (.d colsA)]
end Go.Proofs.YtdejnaokkdndeaaGreatDoor
namespace Go.Proofs.YtdejnaokkdndeaaGreatDoor
open Go.RowKit Go.V
open Go.Eng (inR byteAt u8 bytesV)
variable {g : Gv}
def colD (c : List UInt8 × Int) : List D := [.s (S c.1), .i c.2]
def colsD (l : List (List UInt8 × Int)) : List (List D) := l.map colD
def rwV (l : List Int) : List (List UInt8 × Int) → Int → List Vl × Int
 | [], k => ([], k)
 | c :: r, k => if nxV l k 20 = 19 then (Vl.z :: (rwV l r (nxK l k 20)).1, (rwV l r (nxK l k 20)).2)
  else ((vlM l (nxK l k 20) c.2).1 :: (rwV l r (vlM l (nxK l k 20) c.2).2).1, (rwV l r (vlM l (nxK l k 20) c.2).2).2)
theorem kd_num {l : List Int} : ∀ (n : Nat) {k : Int}, NumOk l k → NumOk l (kdM l n k).2
 | 0, k, h => h
 | n + 1, k, h => by unfold kdM; exact kd_num n (h.next 4)
theorem rs_num {l kds : List Int} : ∀ (n : Nat) {k : Int}, NumOk l k → NumOk l (rsM l kds n k).2
 | 0, k, h => h
 | n + 1, k, h => by unfold rsM; exact rs_num n (rw_num kds h)
theorem tb_num {l : List Int} {k : Int} (h : NumOk l k) : NumOk l (tbM l k).2 := rs_num _ ((kd_num _ (h.next 4)).next 5)
theorem vl_num {l : List Int} {k kind : Int} (h : NumOk l k) : NumOk l (vlM l k kind).2 := by
 unfold vlM; split
 ·exact tb_num h
 ·exact cv_num h
theorem rwV_step {l : List Int} {cs : List (List UInt8 × Int)} {c : Nat} {kt : Int} (h : c < cs.length) : rwV l (cs.drop c) kt = rwV l (cs.getD c ([], 0) :: cs.drop (c + 1)) kt := by
 rw [List.drop_eq_getElem_cons h]; simp [h]
def zq19 := And.intro @List.length_cons.{0} (And.intro @List.length_map.{0, 0} (And.intro @List.length_nil.{0} (And.intro @S_eqf (And.intro @S_eqv (And.intro @blS (And.intro @colsD.eq_1 (And.intro @rowD.eq_1 (And.intro @rowsD.eq_1 (And.intro @strs.eq_1 (@valsD.eq_1))))))))))
def zq20 := And.intro @List.length_append.{0} (And.intro @List.length_cons.{0} (And.intro @List.length_drop.{0} (And.intro @List.length_map.{0, 0} (And.intro @List.length_nil.{0} (And.intro @List.length_replicate.{0} (And.intro @List.length_take.{0} (And.intro @S_app (And.intro @S_size (And.intro @and_true (And.intro @colsD.eq_1 (And.intro @Go.Eng.inR.eq_1 (And.intro @intsD.eq_1 (And.intro @maxLen.eq_1 (And.intro @rowD.eq_1 (And.intro @rowsD.eq_1 (And.intro @strs.eq_1 (And.intro @true_and (@valsD.eq_1))))))))))))))))))
theorem row_ok (cs : List (List UInt8 × Int)) (l : List Int) (hcs : cs.length ≤ 1000) :
  SpG g 51 [.c (.d (.sl 2 (colsD cs))), .c (.d (.sl 1 (intsD l)))] [] (.c (.d (.sl 7 (valsD ((rwV l cs 0).1))))) [] := by
 refine enterB 35 Tryz.func51 (by kernel_rfl) fun fr hG => ?_
 refine stepLen 0 rfl fun hl0 => ?_
 refine stepLen 1 rfl fun hl1 => ?_
 refine zA hG [] [0, 1, 0, 1, 1, 1] (⟨[(0, [], .c (.d (.sl 2 (colsD cs)))), (4, [], .c (.d (.nil))), (5, [], .c (.bx 202 0)), (6, [], .c (.d (.nil))), (7, [], .c (.d (.i 0)))], [(202, .box 53 [.d (.sl 1 (intsD l)), .d (.i 0)])]⟩) [(6, 9001, 42, 7)] [] (fun (zz : Nat × List (List D) × List Vl × Int) => match zz with | (c, es, acc, kt) => (cs.length - c, ⟨[(0, [], .c (.d (.sl 2 (colsD cs)))), (4, [], .c (.d (.nil))), (5, [], .c (.bx 202 0)), (6, [], .c (.ar 9001 0)), (7, [], .c (.d (.i (c : Int))))], [(202, .box 53 [.d (.sl 1 (intsD l)), .d (.i kt)]), (9001, .arr 0 42 7 (es))]⟩, c ≤ cs.length ∧ NumOk l kt ∧ es = valsD acc ∧ acc.length = c ∧ acc ++ (rwV l (cs.drop c) kt).1 = (rwV l cs 0).1)) (0, [], [], 0) (by kernel_rfl) conj0 (by kernel_rfl) (by kernel_rfl) ?_ ?_
 ·exact ⟨Nat.zero_le _, ⟨by omega, by omega, by simp only [intsD, List.length_map, maxLen] at hl1; omega⟩, rfl, rfl, by simp⟩
 rintro ⟨c, es, acc, kt⟩ ⟨hc, hN, hes, ha, h3⟩
 have hlen : es.length = c := by rw [hes, valsD, List.length_map, ha]
 refine zc hG [] [1, 0] (decide (((c : Int) : Int) < ((colsD cs).length : Int))) (by kernel_rfl) conj0 (fun hc2 => ?_) (fun hc2 => ?_)
 ·(try simp only [zq19] at hc2)
  refine zC hG [(6, 1, .call (.c (.d (.i (nxV l kt 20)))) [] [[.sl 1 (intsD l), .i (nxK l kt 20)]])] [1, 0, 0, 1] (decide ((nxV l kt 20 : Int) = 19)) (⟨[(0, [], .c (.d (.sl 2 (colsD cs)))), (4, [], .c (.d (.nil))), (5, [], .c (.bx 202 0)), (6, [], .c (.ar 9001 0)), (7, [], .c (.d (.i (c : Int))))], [(202, .box 53 [.d (.sl 1 (intsD l)), .d (.i (nxK l kt 20))]), (9001, .arr 0 42 7 (es))]⟩) (by kernel_rfl) (conj1 ((next_ok l kt 20 (by (repeat (first | assumption | apply NumOk.next))) (by decide) : SpG g _ _ _ _ _))) (fun hc3 => ?_) (fun hc3 => ?_)
  ·(try simp only [zq19] at hc3)
   refine zD hG [(7, 2, .mask [none, none, none, none, none, some 1, some 1])] (c + 1, es ++ [VlD Vl.z], acc ++ [Vl.z], nxK l kt 20) (by kernel_rfl) (conjC (show ((es).length + (([[.i 0, .s (S []), .i 0, .i 0, .i 0, .sl 1 ([]), .sl 1 ([])]] : List (List D))).length) * (96 + 1) ≤ 140737488355328 from (by intros; (try simp only [zq20] at *) <;> omega)) (conj1 (show inR ((c : Int) + 1) from (by intros; (try simp only [zq20] at *) <;> omega)))) ?_ ?_
   ·(try dsimp only); omega
   ·refine ⟨by omega, hN.next _, by rw [hes]; simp [valsD], by simp [ha], ?_⟩
    have e := rwV_step (l := l) (cs := cs) (c := c) (kt := kt) (by omega)
    rw [rwV, if_pos hc3] at e
    rw [← h3, e]; simp
  ·(try simp only [zq19] at hc3)
   refine zD hG [(8, 4, .elem (colD ((cs).getD c ([], 0)))), (8, 7, .call (.agg [.d (.i (((vlM l (nxK l kt 20) (((cs).getD c ([], 0)).2)).1).kind)), .d (.s (S ((vlM l (nxK l kt 20) (((cs).getD c ([], 0)).2)).1).s)), .d (.i (((vlM l (nxK l kt 20) (((cs).getD c ([], 0)).2)).1).dn)), .d (.i (((vlM l (nxK l kt 20) (((cs).getD c ([], 0)).2)).1).ds)), .d (.i (((vlM l (nxK l kt 20) (((cs).getD c ([], 0)).2)).1).n)), .d (.sl 1 (strs (((vlM l (nxK l kt 20) (((cs).getD c ([], 0)).2)).1).cols))), .d (.sl 1 (rowsD (((vlM l (nxK l kt 20) (((cs).getD c ([], 0)).2)).1).rows)))]) [] [[.sl 1 (intsD l), .i ((vlM l (nxK l kt 20) (((cs).getD c ([], 0)).2)).2)]])] (c + 1, es ++ [VlD (vlM l (nxK l kt 20) (cs.getD c ([], 0)).2).1], acc ++ [(vlM l (nxK l kt 20) (cs.getD c ([], 0)).2).1], (vlM l (nxK l kt 20) (cs.getD c ([], 0)).2).2) (by kernel_rfl) (conjC (show (0 : Int) ≤ (c : Int) ∧ (colsD cs)[c]? = some (colD ((cs).getD c ([], 0))) from (by intros; exact map_at _ (by omega) (by (try simp only [colsD, rowD, rowsD, valsD, strs, List.length_map] at *); omega))) (conjC ((numValue_ok l (nxK l kt 20) (((cs).getD c ([], 0)).2) (by (repeat (first | assumption | apply NumOk.next))) : SpG g _ _ _ _ _)) (conjC (show ((es).length + (([[.i (((vlM l (nxK l kt 20) (((cs).getD c ([], 0)).2)).1).kind), .s (S ((vlM l (nxK l kt 20) (((cs).getD c ([], 0)).2)).1).s), .i (((vlM l (nxK l kt 20) (((cs).getD c ([], 0)).2)).1).dn), .i (((vlM l (nxK l kt 20) (((cs).getD c ([], 0)).2)).1).ds), .i (((vlM l (nxK l kt 20) (((cs).getD c ([], 0)).2)).1).n), .sl 1 (strs (((vlM l (nxK l kt 20) (((cs).getD c ([], 0)).2)).1).cols)), .sl 1 (rowsD (((vlM l (nxK l kt 20) (((cs).getD c ([], 0)).2)).1).rows))]] : List (List D))).length) * (96 + 1) ≤ 140737488355328 from (by intros; (try simp only [zq20] at *) <;> omega)) (conj1 (show inR ((c : Int) + 1) from (by intros; (try simp only [zq20] at *) <;> omega)))))) ?_ ?_
   ·(try dsimp only); omega
   ·refine ⟨by omega, vl_num (hN.next _), by rw [hes]; simp [valsD], by simp [ha], ?_⟩
    have e := rwV_step (l := l) (cs := cs) (c := c) (kt := kt) (by omega)
    rw [rwV, if_neg hc3] at e
    rw [← h3, e]; simp
 ·(try simp only [zq19] at hc2)
  refine zE hG [] (.exit 0) (⟨[(4, [], .c (.d (.nil))), (6, [], .c (.ar 9001 0))], [(9001, .arr 0 42 7 (es))]⟩) (by kernel_rfl) conj0 rfl ?_
  refine zR hG [] [] (.c (.d (.sl 7 (es)))) [] (by kernel_rfl) conj0 ?_ ?_
  ·have hz : cs.drop c = [] := List.drop_eq_nil_of_le (by omega)
   rw [hz] at h3
   simp only [rwV, List.append_nil] at h3
   rw [hes, h3]
  ·rfl
end Go.Proofs.YtdejnaokkdndeaaGreatDoor
namespace Go.Proofs.YtdejnaokkdndeaaGreatDoor
open Go.RowKit Go.V
open Go.Eng (inR byteAt u8 bytesV)
variable {g : Gv}
def md5 (a n : Int) : Int := if a.tmod n < 0 then a.tmod n + n else a.tmod n
theorem md5_bd {a n : Int} (h : 1 ≤ n) : 0 ≤ md5 a n ∧ md5 a n < n := by
 have := tmod_in (x := a) h
 unfold md5
 split <;> omega
def ops36 : List (List UInt8) := [[99, 111, 108], [116, 101, 120, 116], [110, 117, 109, 98, 101, 114], [100, 97, 116, 101], [98, 111, 111, 108], [99, 111, 110, 99, 97, 116], [117, 112, 112, 101, 114], [108, 111, 119, 101, 114], [116, 114, 105, 109], [101, 120, 116, 114, 97, 99, 116], [108, 101, 110, 103, 116, 104], [112, 97, 114, 115, 101], [112, 114, 105, 110, 116], [97, 100, 100], [115, 117, 98], [109, 117, 108], [114, 111, 117, 110, 100], [114, 101, 97, 100], [115, 104, 111, 119], [100, 97, 121, 115], [98, 101, 116, 119, 101, 101, 110], [101, 113, 117, 97, 108], [98, 101, 102, 111, 114, 101], [108, 101, 115, 115], [109, 97, 116, 99, 104], [110, 111, 116], [97, 110, 100], [105, 102], [108, 111, 111, 107, 117, 112], [116, 97, 98, 108, 101], [119, 104, 101, 114, 101], [106, 111, 105, 110], [112, 105, 99, 107], [115, 117, 109], [99, 111, 117, 110, 116], [102, 105, 114, 115, 116]]
def cols11 : List (List UInt8 × Int) := [([110, 97, 109, 101], 1), ([112, 114, 105, 99, 101], 2), ([100, 117, 101], 3), ([112, 97, 105, 100], 4), ([105, 116, 101, 109, 115], 5), ([110, 111, 116, 101], 1)]
set_option maxRecDepth 1000000 in
theorem names11_ok (m : Int) : V.Spec Tryz.prog (Gl (gT m)) 35 [] [] (.c (.d (.sl 1 (strs ops36)))) [] :=
 specX (fun _ => none) (fun _ => none) (T := T0) (ne := N0e) (df := D0e) (F := 100000) (d := 60) (cs := []) hmix (by kernel_rfl) trivial
set_option maxRecDepth 1000000 in
theorem columns11_ok (m : Int) : V.Spec Tryz.prog (Gl (gT m)) 14 [] [] (.c (.d (.sl 2 (colsD cols11)))) [] :=
 specX (fun _ => none) (fun _ => none) (T := T0) (ne := N0e) (df := D0e) (F := 100000) (d := 60) (cs := []) hmix (by kernel_rfl) trivial
def ixL (t : List UInt8) : List (List UInt8) → Int → Int
 | [], _ => -1
 | x :: r, i => if x = t then i else ixL t r (i + 1)
theorem ixL_bd (t : List UInt8) : ∀ (l : List (List UInt8)) (i : Int), 0 ≤ i → ixL t l i = -1 ∨ (i ≤ ixL t l i ∧ ixL t l i < i + l.length)
 | [], i, h => .inl rfl
 | x :: r, i, h => by
  simp only [ixL, List.length_cons]
  split
  ·exact .inr ⟨by omega, by omega⟩
  ·rcases ixL_bd t r (i + 1) (by omega) with h1 | h1
   ·exact .inl h1
   ·exact .inr ⟨by omega, by omega⟩
theorem ixL_step {t : List UInt8} {l : List (List UInt8)} {k : Nat} (h : k < l.length) : ixL t (l.drop k) k = if l.getD k [] = t then (k : Int) else ixL t (l.drop (k + 1)) ((k + 1 : Nat) : Int) := by
 rw [List.drop_eq_getElem_cons h]; simp [ixL, h]
def ckAt (rows : List (List Cl)) (kd : Int) (at_ : Nat) (i : Nat) : Bool := decide (((rows.getD i []).getD at_ Cl.z).kind = 0) || decide (((rows.getD i []).getD at_ Cl.z).kind = kd)
def ckR (cols : List (List UInt8)) (rows : List (List Cl)) (ky cl : List UInt8) (kd : Int) : Int :=
 if ixL cl cols 0 < 0 ∨ ixL ky cols 0 < 0 then 13 else if allR rows.length (ckAt rows kd (ixL cl cols 0).toNat) then 0 else 14
theorem mod05_ok (a n : Int) (hn : 1 ≤ n) (hb : n ≤ 1000000) :
  SpG g 36 [.c (.d (.i a)), .c (.d (.i n))] [] (.c (.d (.i (md5 a n)))) [] := by
 have e6 := tmod_in (x := a) hn
 refine enterB 15 Tryz.func36 (by kernel_rfl) fun fr hG => ?_
 refine zC hG [] [1, 0, 1, 1] (decide ((Int.tmod a n : Int) < 0)) (⟨[(1, [], .c (.d (.i n))), (4, [], .c (.d (.i 0))), (5, [], .c (.d (.i (Int.tmod a n))))], []⟩) (by kernel_rfl) (conj1 (show n ≠ (0 : Int) from (by intros; (try simp only [inR, true_and, and_true] at *); first | decide | omega))) (fun hc1 => ?_) (fun hc1 => ?_)
 ·(try simp only [blS] at hc1)
  refine zR hG [] [] (.c (.d (.i ((Int.tmod a n) + n)))) [] (by kernel_rfl) (conj1 (show inR ((Int.tmod a n) + n) from (by intros; (try simp only [inR, true_and, and_true] at *); first | decide | omega))) ?_ ?_
  ·unfold md5; (repeat (first | rw [if_pos (by omega)] | rw [if_neg (by omega)]))
  ·rfl
 ·(try simp only [blS] at hc1)
  refine zR hG [] [] (.c (.d (.i (Int.tmod a n)))) [] (by kernel_rfl) conj0 ?_ ?_
  ·unfold md5; (repeat (first | rw [if_pos (by omega)] | rw [if_neg (by omega)]))
  ·rfl
theorem some11_ok (n : Int) (l : List (List UInt8)) (h0 : 1 ≤ l.length) (h1 : l.length ≤ 1000) :
  SpG g 37 [.c (.d (.i n)), .c (.d (.sl 1 (strs l)))] [] (.c (.d (.s (S (l.getD (md5 n (strs l).length).toNat []))))) [] := by
 have e7 := md5_bd (a := n) (n := ((strs l).length : Int)) (by simp only [zq1]; omega)
 have e8 : (strs l).length = l.length := by simp [strs]
 refine enterB 12 Tryz.func37 (by kernel_rfl) fun fr hG => ?_
 exact zr hG [(1, 4, .call (.c (.d (.i (md5 n ((strs l).length : Int))))) [] []), (1, 5, .elem (strD ((l).getD (md5 n ((strs l).length : Int) : Int).toNat [])))] [] (by kernel_rfl) (conjC ((mod05_ok n ((strs l).length : Int) (by simp only [zq1]; omega) (by simp only [zq1]; omega) : SpG g _ _ _ _ _)) (conj1 (show (0 : Int) ≤ (md5 n ((strs l).length : Int)) ∧ (strs l)[(md5 n ((strs l).length : Int) : Int).toNat]? = some (strD ((l).getD (md5 n ((strs l).length : Int) : Int).toNat [])) from (by intros; exact map_at [] (by omega) (by (try simp only [zq1] at *); omega)))))
theorem op11_of (n : Int) (hN : SpG g 35 [] [] (.c (.d (.sl 1 (strs ops36)))) []) :
  SpG g 11 [.c (.d (.i n))] [] (.c (.d (.s (S (ops36.getD (md5 n (strs ops36).length).toNat []))))) [] := by
 have e8 : (strs ops36).length = 36 := rfl
 have e9 : ops36.length = 36 := rfl
 have e7 := md5_bd (a := n) (n := ((strs ops36).length : Int)) (by omega)
 refine enterB 12 Tryz.func11 (by kernel_rfl) fun fr hG => ?_
 exact zr hG [(1, 0, .call (.c (.d (.sl 1 (strs ops36)))) [] []), (2, 4, .call (.c (.d (.i (md5 n ((strs ops36).length : Int))))) [] []), (2, 5, .elem (strD ((ops36).getD (md5 n ((strs ops36).length : Int) : Int).toNat [])))] [] (by kernel_rfl) (conjC ((hN : SpG g _ _ _ _ _)) (conjC ((mod05_ok n ((strs ops36).length : Int) (by simp only [zq1, show ops36.length = 36 from rfl]; omega) (by simp only [zq1, show ops36.length = 36 from rfl]; omega) : SpG g _ _ _ _ _)) (conj1 (show (0 : Int) ≤ (md5 n ((strs ops36).length : Int)) ∧ (strs ops36)[(md5 n ((strs ops36).length : Int) : Int).toNat]? = some (strD ((ops36).getD (md5 n ((strs ops36).length : Int) : Int).toNat [])) from (by intros; exact map_at [] (by omega) (by (try simp only [zq1] at *); omega))))))
theorem row11_of (l : List Int) (hC : SpG g 14 [] [] (.c (.d (.sl 2 (colsD cols11)))) []) :
  SpG g 18 [.c (.d (.sl 1 (intsD l)))] [] (.c (.d (.sl 7 (valsD ((rwV l cols11 0).1))))) [] := by
 refine enterB 6 Tryz.func18 (by kernel_rfl) fun fr hG => ?_
 exact zr hG [(1, 0, .call (.c (.d (.sl 2 (colsD cols11)))) [] []), (1, 2, .call (.c (.d (.sl 7 (valsD ((rwV l cols11 0).1))))) [] [])] [] (by kernel_rfl) (conjC ((hC : SpG g _ _ _ _ _)) (conj1 ((row_ok cols11 l (by decide) : SpG g _ _ _ _ _))))
theorem lazy11_ok (t : List UInt8) :
  SpG g 22 [.c (.d (.s (S t)))] [] (.c (.d (.b (decide (t = [105, 102]))))) [] := by
 refine enterB 5 Tryz.func22 (by kernel_rfl) fun fr hG => ?_
 refine zR hG [] [] (.c (.d (.b ((S t).toList == (S [105, 102]).toList)))) [] (by kernel_rfl) conj0 ?_ ?_
 ·exact congrArg (fun b => SV.c (.d (.b b))) (S_beq t [105, 102])
 ·rfl
def zq21 := And.intro @List.length_map.{0, 0} (And.intro @S_eqf (And.intro @S_eqv (And.intro @blS (@strs.eq_1))))
theorem ix11_ok (l : List (List UInt8)) (t : List UInt8) (hl : l.length ≤ 1000) :
  SpG g 78 [.c (.d (.sl 1 (strs l))), .c (.d (.s (S t)))] [] (.c (.d (.i (ixL t l 0)))) [] := by
 refine enterB 19 Tryz.func78 (by kernel_rfl) fun fr hG => ?_
 refine zL hG [] [0, 1, 0, 1] (fun (zz : Nat) => match zz with | k => (l.length - k, ⟨[(1, [], .c (.d (.s (S t)))), (4, [], .c (.d (.i 0))), (7, [], .c (.d (.sl 1 (strs l)))), (8, [], .c (.d (.i ((strs l).length : Int)))), (9, [], .c (.d (.i (k : Int))))], []⟩, k ≤ l.length ∧ ixL t (l.drop k) k = ixL t l 0)) 0 (by kernel_rfl) conj0 (by kernel_rfl) ?_ ?_
 ·exact ⟨Nat.zero_le _, by simp⟩
 rintro k ⟨hk, hx⟩
 refine zc hG [] [0, 1] (decide (((k : Int) : Int) < ((strs l).length : Int))) (by kernel_rfl) conj0 (fun hc2 => ?_) (fun hc2 => ?_)
 ·(try simp only [zq21] at hc2)
  refine zC hG [(3, 1, .elem (strD ((l).getD k [])))] [1, 1, 0, 0, 1, 1] ((S ((l).getD k [])).toList == (S t).toList) (⟨[(1, [], .c (.d (.s (S t)))), (4, [], .c (.d (.i 0))), (5, [], .c (.d (.i (k : Int)))), (7, [], .c (.d (.sl 1 (strs l)))), (8, [], .c (.d (.i ((strs l).length : Int)))), (9, [], .c (.d (.i (k : Int))))], []⟩) (by kernel_rfl) (conj1 (show (0 : Int) ≤ (k : Int) ∧ (strs l)[k]? = some (strD ((l).getD k [])) from (by intros; exact map_at [] (by omega) (by (try simp only [zq1] at *); omega)))) (fun hc3 => ?_) (fun hc3 => ?_)
  ·(try simp only [zq21] at hc3)
   refine zE hG [] .ret (⟨[(4, [], .c (.d (.i (k : Int))))], []⟩) (by kernel_rfl) conj0 rfl ?_
   refine zR hG [] [] (.c (.d (.i (k : Int)))) [] (by kernel_rfl) conj0 ?_ ?_
   ·have h9 := ixL_step (t := t) (l := l) (k := k) (by omega)
    rw [if_pos hc3] at h9
    rw [← hx, h9]
   ·rfl
  ·(try simp only [zq21] at hc3)
   refine zD hG [] (k + 1) (by kernel_rfl) (conj1 (show inR ((k : Int) + 1) from (by intros; (try simp only [zq2] at *); omega))) ?_ ?_
   ·(try dsimp only); omega
   ·have h9 := ixL_step (t := t) (l := l) (k := k) (by omega)
    rw [if_neg hc3] at h9
    exact ⟨by omega, h9.symm.trans hx⟩
 ·(try simp only [zq21] at hc2)
  refine zE hG [] (.exit 0) (⟨[(4, [], .c (.d (.i 0)))], []⟩) (by kernel_rfl) conj0 rfl ?_
  refine zR hG [] [] (.c (.d (.i (-1)))) [] (by kernel_rfl) conj0 ?_ ?_
  ·have : l.drop k = [] := List.drop_eq_nil_of_le (by omega)
   rw [← hx, this]; rfl
  ·rfl
theorem ckNo_ok (p nm ky cl : List UInt8) (kd : Int) (bes : List (List D)) (hL : SpG g 68 [.c (.d (.s (S p)))] [] (.tup [(false, [.d (.s (S nm))]), (false, [.d (.s (S ky))]), (false, [.d (.s (S cl))]), (false, [.d (.i kd)])]) []) (hF : SpG g 47 [.c (.d (.sl 3 bes)), .c (.d (.s (S nm)))] [] (.tup [(true, [.d (.s (S [])), .d .nil, .d .nil]), (false, [.d (.b false)])]) []) :
  SpG g 46 [.c (.d (.s (S p))), .c (.d (.sl 3 (bes)))] [] (.c (.d (.i 13))) [] := by
 refine enterB 63 Tryz.func46 (by kernel_rfl) fun fr hG => ?_
 refine zC hG [(1, 1, .call (.tup [(false, [.d (.s (S nm))]), (false, [.d (.s (S ky))]), (false, [.d (.s (S cl))]), (false, [.d (.i kd)])]) [] []), (2, 2, .call (.tup [(true, [.d (.s (S [])), .d (.nil), .d (.nil)]), (false, [.d (.b false)])]) [] [])] [1, 0, 1, 1, 1] (true) (⟨[(4, [], .c (.d (.i 0))), (6, [], .c (.d (.s (S ky)))), (7, [], .c (.d (.s (S cl)))), (8, [], .c (.d (.i kd))), (9, [], .c (.bx 306 0))], [(306, .box 66 [.d (.s (S [])), .d (.nil), .d (.nil)])]⟩) (by kernel_rfl) (conjC ((hL : SpG g _ _ _ _ _)) (conj1 ((hF : SpG g _ _ _ _ _)))) (fun _ => ?_) (fun hc1 => absurd hc1 (by decide))
 exact zr hG [] [] (by kernel_rfl) conj0
theorem ckYes_ok (p nm ky cl : List UInt8) (kd : Int) (bes : List (List D)) (cols : List (List UInt8)) (rows : List (List Cl)) (hcl : cols.length ≤ 1000) (hrl : rows.length ≤ 1000) (hw : ∀ i, i < rows.length → (rows.getD i []).length = cols.length) (hL : SpG g 68 [.c (.d (.s (S p)))] [] (.tup [(false, [.d (.s (S nm))]), (false, [.d (.s (S ky))]), (false, [.d (.s (S cl))]), (false, [.d (.i kd)])]) []) (hF : SpG g 47 [.c (.d (.sl 3 bes)), .c (.d (.s (S nm)))] [] (.tup [(true, [.d (.s (S nm)), .d (.sl 1 (strs cols)), .d (.sl 1 (rowsD rows))]), (false, [.d (.b true)])]) []) :
  SpG g 46 [.c (.d (.s (S p))), .c (.d (.sl 3 (bes)))] [] (.c (.d (.i (ckR cols rows ky cl kd)))) [] := by
 have b1 := ixL_bd cl cols 0 (by omega)
 have b2 := ixL_bd ky cols 0 (by omega)
 refine enterB 63 Tryz.func46 (by kernel_rfl) fun fr hG => ?_
 refine zC hG [(1, 1, .call (.tup [(false, [.d (.s (S nm))]), (false, [.d (.s (S ky))]), (false, [.d (.s (S cl))]), (false, [.d (.i kd)])]) [] []), (2, 2, .call (.tup [(true, [.d (.s (S nm)), .d (.sl 1 (strs cols)), .d (.sl 1 (rowsD rows))]), (false, [.d (.b true)])]) [] [])] [1, 0, 1, 1, 1] (false) (⟨[(4, [], .c (.d (.i 0))), (6, [], .c (.d (.s (S ky)))), (7, [], .c (.d (.s (S cl)))), (8, [], .c (.d (.i kd))), (9, [], .c (.bx 306 0))], [(306, .box 66 [.d (.s (S nm)), .d (.sl 1 (strs cols)), .d (.sl 1 (rowsD rows))])]⟩) (by kernel_rfl) (conjC ((hL : SpG g _ _ _ _ _)) (conj1 ((hF : SpG g _ _ _ _ _)))) (fun hc1 => absurd hc1 (by decide)) (fun _ => ?_)
 refine zC hG [(5, 3, .call (.c (.d (.i (ixL cl cols 0)))) [] []), (6, 6, .call (.c (.d (.i (ixL ky cols 0)))) [] [])] [1, 0, 1, 1, 1, 1, 1] ((decide ((ixL cl cols 0 : Int) < 0)) || (decide ((ixL ky cols 0 : Int) < 0))) (⟨[(4, [], .c (.d (.i 0))), (8, [], .c (.d (.i kd))), (9, [], .c (.bx 306 0)), (11, [], .c (.d (.i (ixL cl cols 0))))], [(306, .box 66 [.d (.s (S nm)), .d (.sl 1 (strs cols)), .d (.sl 1 (rowsD rows))])]⟩) (by kernel_rfl) (conjC ((ix11_ok cols cl hcl : SpG g _ _ _ _ _)) (conj1 (fun (hg1 : (decide ((ixL cl cols 0 : Int) < 0)) = false) => ((ix11_ok cols ky hcl : SpG g _ _ _ _ _))))) (fun hc2 => ?_) (fun hc2 => ?_)
 ·(try simp only [zq18] at hc2)
  refine zR hG [] [] (.c (.d (.i 13))) [] (by kernel_rfl) conj0 ?_ ?_
  ·unfold ckR; rw [if_pos (by omega)]
  ·rfl
 ·(try simp only [zq18] at hc2)
  refine zL hG [] [0, 1, 0, 1, 1, 1, 1, 1, 1] (fun (zz : Nat) => match zz with | i => (rows.length - i, ⟨[(4, [], .c (.d (.i 0))), (8, [], .c (.d (.i kd))), (11, [], .c (.d (.i (ixL cl cols 0)))), (44, [], .c (.d (.sl 1 (rowsD rows)))), (45, [], .c (.d (.i ((rowsD rows).length : Int)))), (46, [], .c (.d (.i (i : Int))))], []⟩, i ≤ rows.length ∧ ∀ j, j < i → ckAt rows kd (ixL cl cols 0).toNat j = true)) 0 (by kernel_rfl) conj0 (by kernel_rfl) ?_ ?_
  ·exact ⟨Nat.zero_le _, fun j hj => by omega⟩
  rintro i ⟨hi, hn⟩
  refine zc hG [] [0, 1] (decide (((i : Int) : Int) < ((rowsD rows).length : Int))) (by kernel_rfl) conj0 (fun hc4 => ?_) (fun hc4 => ?_)
  ·(try simp only [zq18] at hc4)
   have hww := hw i (by omega)
   refine zc hG [(10, 0, .elem (rows1 ((rows).getD i []))), (11, 2, .elem (ClD (((rows).getD i []).getD (ixL cl cols 0 : Int).toNat Cl.z)))] [1, 1, 1, 0, 0, 1, 1] ((!decide (((((rows).getD i []).getD (ixL cl cols 0 : Int).toNat Cl.z).kind : Int) = 0)) && (!decide (((((rows).getD i []).getD (ixL cl cols 0 : Int).toNat Cl.z).kind : Int) = kd))) (by kernel_rfl) (conjC (show (0 : Int) ≤ (i : Int) ∧ (rowsD rows)[i]? = some (rows1 ((rows).getD i [])) from (by intros; exact map_at _ (by omega) (by (try simp only [zq3] at *); omega))) (conj1 (show (0 : Int) ≤ (ixL cl cols 0) ∧ (rowD ((rows).getD i []))[(ixL cl cols 0 : Int).toNat]? = some (ClD (((rows).getD i []).getD (ixL cl cols 0 : Int).toNat Cl.z)) from (by intros; exact map_at _ (by omega) (by (try simp only [zq3] at *); omega))))) (fun hc5 => ?_) (fun hc5 => ?_)
   ·(try simp only [zq18] at hc5)
    refine zE hG [] .ret (⟨[(4, [], .c (.d (.i 14)))], []⟩) (by kernel_rfl) conj0 rfl ?_
    refine zR hG [] [] (.c (.d (.i 14))) [] (by kernel_rfl) conj0 ?_ ?_
    ·unfold ckR; rw [if_neg (by omega), if_neg]
     rw [allR_false (i := i) (by omega) (by simp only [ckAt, Bool.or_eq_false_iff, decide_eq_false_iff_not]; omega)]; simp
    ·rfl
   ·(try simp only [zq18] at hc5)
    refine zD hG [] (i + 1) (by kernel_rfl) (conj1 (show inR ((i : Int) + 1) from (by intros; (try simp only [zq2] at *); omega))) ?_ ?_
    ·(try dsimp only); omega
    ·refine ⟨by omega, below_succ hn ?_⟩
     simp only [ckAt, Bool.or_eq_true, decide_eq_true_eq]
     omega
  ·(try simp only [zq18] at hc4)
   refine zE hG [] (.exit 0) (⟨[(4, [], .c (.d (.i 0)))], []⟩) (by kernel_rfl) conj0 rfl ?_
   refine zR hG [] [] (.c (.d (.i 0))) [] (by kernel_rfl) conj0 ?_ ?_
   ·unfold ckR; rw [if_neg (by omega), if_pos (allR_true fun j hj => hn j (by omega))]
   ·rfl
end Go.Proofs.YtdejnaokkdndeaaGreatDoor
namespace Go.Proofs.YtdejnaokkdndeaaGreatDoor
open Go.RowKit Go.V
variable {m : Int}
theorem cellB_right {c : Cl} (h : c.good) : rightB c.toV = true ∧ c.toV.fit := by
 have k : ¬ c.toV.kind = 5 := h.kind
 have e := h.right
 refine ⟨?_, ?_, ?_, ?_⟩
 ·simp only [rightK] at e
  simp only [rightB, rightK, if_neg k] at e ⊢
  exact e
 ·have := h.len
  show c.s.length ≤ maxLen
  unfold maxLen; omega
 ·intro t ht; cases ht
 ·intro r hr; cases hr
theorem tab_right {cols : List (List UInt8)} {rows : List (List Cl)} (h1 : cols.length ≤ 8) (h2 : rows.length ≤ 100) (hn : allR cols.length (nameAt cols) = true) (hl : ∀ t, t ∈ cols → t.length ≤ 20) (hr : ∀ r, r ∈ rows → r.length = cols.length ∧ ∀ c, c ∈ r → c.good) :
  rightB ⟨5, [], 0, 0, 0, cols, rows⟩ = true ∧ Vl.fit ⟨5, [], 0, 0, 0, cols, rows⟩ := by
 have ht : tableB cols rows = true := tableB_good h1 h2 hn fun r h => ⟨(hr r h).1, fun c hc => ⟨((hr r h).2 c hc).kind, ((hr r h).2 c hc).right⟩⟩
 refine ⟨by simp [rightB, rightK, ht, bareB], ?_, ?_, ?_⟩
 ·show ([] : List UInt8).length ≤ maxLen
  unfold maxLen; simp
 ·intro t h
  have := hl t h
  unfold maxLen; omega
 ·intro r h c hc
  have := ((hr r h).2 c hc).len
  unfold maxLen; omega
theorem hN : CellF ClN := wkN
theorem rightOk_cell {f : Cl → List D} (hf : CellF f) {c : Cl} (h : c.good) : RightOk [cellF f c] := ⟨c.toV, All2.one (wkCell hf c), cellB_right h⟩
theorem names9 : allR cols9L.length (nameAt cols9L) = true := by decide
theorem len9 : ∀ t, t ∈ cols9L → t.length ≤ 20 := by decide
structure GoodB (nu da bo : Nat → Cl) (lb : Nat → List UInt8) : Prop where
 nu : ∀ i, (nu i).good ∧ ((nu i).kind = 0 ∨ (nu i).kind = 2)
 da : ∀ i, (da i).good ∧ ((da i).kind = 0 ∨ (da i).kind = 3)
 bo : ∀ i, (bo i).good ∧ ((bo i).kind = 0 ∨ (bo i).kind = 4)
 lb : ∀ i, (txC (lb i)).good
theorem code_good : ∀ t, t ∈ ([[97], [98], [97, 98], [49, 50], [120]] : List (List UInt8)) → (txC t).good := by
 intro t ht
 simp only [List.mem_cons, List.not_mem_nil, or_false] at ht
 rcases ht with rfl | rfl | rfl | rfl | rfl <;> exact ⟨by decide, by decide, by decide⟩
theorem lab_good : ∀ t, t ∈ lab9L → (txC t).good := by
 intro t ht
 simp only [lab9L, List.mem_cons, List.not_mem_nil, or_false] at ht
 rcases ht with rfl | rfl | rfl <;> exact ⟨by decide, by decide, by decide⟩
theorem c9_good {kind n : Int} (hk : kind = 2 ∨ kind = 3) (h0 : 0 ≤ n) (h1 : n < 5) : (c9 kind n).good ∧ ((c9 kind n).kind = 0 ∨ (c9 kind n).kind = kind) := by
 have hn : n = 0 ∨ n = 1 ∨ n = 2 ∨ n = 3 ∨ n = 4 := by omega
 rcases hk with rfl | rfl <;> rcases hn with rfl | rfl | rfl | rfl | rfl <;> exact ⟨⟨by decide, by decide, by decide⟩, by decide⟩
theorem bool_good (b : Bool) : (⟨4, [], 0, 0, bI b⟩ : Cl).good := by
 cases b <;> exact ⟨by decide, by decide, by decide⟩
def K9 (c : Nat) : Int := ([1, 2, 3, 4, 1] : List Int).getD c 0
section
variable {nu da bo : Nat → Cl} {lb : Nat → List UInt8}
theorem row_good (G : GoodB nu da bo lb) {t : List UInt8} (ht : (txC t).good) (i : Nat) : (rowB t (nu i) (da i) (bo i) (lb i)).length = 5 ∧ (∀ c, c ∈ rowB t (nu i) (da i) (bo i) (lb i) → c.good) ∧
  ∀ c, c < 5 → ((rowB t (nu i) (da i) (bo i) (lb i)).getD c Cl.z).kind = 0 ∨ ((rowB t (nu i) (da i) (bo i) (lb i)).getD c Cl.z).kind = K9 c := by
 refine ⟨rfl, fun c hc => ?_, fun c hc => ?_⟩
 ·simp only [rowB, List.mem_cons, List.not_mem_nil, or_false] at hc
  rcases hc with rfl | rfl | rfl | rfl | rfl
  ·exact ht
  ·exact (G.nu i).1
  ·exact (G.da i).1
  ·exact (G.bo i).1
  ·exact G.lb i
 ·have hj : c = 0 ∨ c = 1 ∨ c = 2 ∨ c = 3 ∨ c = 4 := by omega
  rcases hj with rfl | rfl | rfl | rfl | rfl
  ·exact .inr rfl
  ·exact (G.nu i).2
  ·exact (G.da i).2
  ·exact (G.bo i).2
  ·exact .inr rfl
def AllB (nu da bo : Nat → Cl) (lb : Nat → List UInt8) (rows : List (List Cl)) : Prop := ∀ r, r ∈ rows → ∃ t i, (txC t).good ∧ r = rowB t (nu i) (da i) (bo i) (lb i)
theorem allB (nu da bo : Nat → Cl) (lb : Nat → List UInt8) : ∀ k, 2 ≤ k → k ≤ 4 → AllB nu da bo lb (rowsB nu da bo lb k) := by
 intro k h1 h2 r hr
 have hk : k = 2 ∨ k = 3 ∨ k = 4 := by omega
 rcases hk with rfl | rfl | rfl <;> simp only [rowsB, List.mem_cons, List.not_mem_nil, or_false] at hr
 ·rcases hr with rfl | rfl
  ·exact ⟨_, 0, code_good _ (by simp), rfl⟩
  ·exact ⟨_, 1, code_good _ (by simp), rfl⟩
 ·rcases hr with rfl | rfl | rfl
  ·exact ⟨_, 0, code_good _ (by simp), rfl⟩
  ·exact ⟨_, 1, code_good _ (by simp), rfl⟩
  ·exact ⟨_, 2, code_good _ (by simp), rfl⟩
 ·rcases hr with rfl | rfl | rfl | rfl
  ·exact ⟨_, 0, code_good _ (by simp), rfl⟩
  ·exact ⟨_, 1, code_good _ (by simp), rfl⟩
  ·exact ⟨_, 2, code_good _ (by simp), rfl⟩
  ·exact ⟨_, 3, code_good _ (by simp), rfl⟩
end
def bkk (l : List Int) : Nat → Int
 | 0 => nxK l 0 3
 | i + 1 => brk l (bkk l i)
def nuL (l : List Int) (i : Nat) : Cl := c9 2 (nxV l (bkk l i) 5)
def daL (l : List Int) (i : Nat) : Cl := c9 3 (nxV l (nxK l (bkk l i) 5) 5)
def boL (l : List Int) (i : Nat) : Cl := ⟨4, [], 0, 0, bI (decide (nxV l (nxK l (nxK l (bkk l i) 5) 5) 2 = 1))⟩
def lbL (l : List Int) (i : Nat) : List UInt8 := lab9L.getD (nxV l (nxK l (nxK l (nxK l (bkk l i) 5) 5) 2) 3).toNat []
theorem base_good (l : List Int) : GoodB (nuL l) (daL l) (boL l) (lbL l) where
 nu i := c9_good (.inl rfl) (nxV_bd _ _ (by decide)).1 (nxV_bd _ _ (by decide)).2
 da i := c9_good (.inr rfl) (nxV_bd _ _ (by decide)).1 (nxV_bd _ _ (by decide)).2
 bo i := ⟨bool_good _, .inr rfl⟩
 lb i := lab_good _ (getD_mem (by
  have h := nxV_bd l (nxK l (nxK l (nxK l (bkk l i) 5) 5) 2) (n := 3) (by decide)
  show _ < 3; omega))
theorem base_rows (l : List Int) {k : Nat} (h : bN l = k) (h1 : 2 ≤ k) (h2 : k ≤ 4) : (bR l).1 = rowsB (nuL l) (daL l) (boL l) (lbL l) k := by
 have hk : k = 2 ∨ k = 3 ∨ k = 4 := by omega
 unfold bR
 rw [h]
 rcases hk with rfl | rfl | rfl <;> rfl
end Go.Proofs.YtdejnaokkdndeaaGreatDoor
namespace Go.Proofs.YtdejnaokkdndeaaGreatDoor
open Go.RowKit Go.V
variable {m : Int}
def orcL (l : List Nat) : Nat → Option Bool := fun k => bif l.any (Nat.beq k) then some true else none
def litL (l : List (Nat × Value)) : Nat → Option Value := fun k => (l.find? (fun x => Nat.beq x.1 k)).map (·.2)
def u8A (x : Int) : D := .v (.int .u8 x)
def insA (opn q0 q1 q2 : Int) (as_ rw bs : List (List D)) (a e0 e1 : Int) : List SV := [.agg [.d (.i opn), .d (.i q0), .d (.i q1), .d (.i q2), .d (.sl 1 as_), .d (.sl 1 rw), .d (.sl 1 bs)], .c (.d (u8A a)), .agg [.d (u8A e0), .d (u8A e1)]]
def ksD (ks : List Int) : D := .sl 1 (ks.map fun k => [.i k])
def SpM (m : Int) (f : FuncId) (ins : List SV) (out : SV) : Prop := V.Spec Tryz.prog (Gl (gT m)) f ins [] out []
def TyS (m : Int) (op p : List UInt8) (b : List (List D)) (out : SV) : Prop := SpM m 15 (tyA op p b) out
theorem rT {op p : List UInt8} {b : List (List D)} {out : SV} (h : topX (P := Tryz.prog) (G := Gl (gT m)) (eItoa :: eFmtU :: T0) N0e D0e (fun _ => none) (fun _ => none) 100000 60 15 (tyA op p b) = some (out, [])) : TyS m op p b out := specX _ _ hmix h trivial
theorem rTm (l : List Nat) {op p : List UInt8} {b : List (List D)} {out : SV} (h : topX (P := Tryz.prog) (G := Gl (gT m)) (eItoa :: eFmtU :: T0) N0e D0e (fun _ => none) (mkT l 0 0) 100000 60 15 (tyA op p b) = some (out, [])) : TyS m op p b out := specX _ _ hmix h trivial
theorem rTk {f : FuncId} {o : SV} {ins : List SV} {op p : List UInt8} {b : List (List D)} {out : SV} (hc : SpM m f ins o) (h : topX (P := Tryz.prog) (G := Gl (gT m)) (eAny f o :: eItoa :: eFmtU :: T0) N0e D0e (fun _ => none) (fun _ => none) 100000 60 15 (tyA op p b) = some (out, [SpM m f ins o])) : TyS m op p b out := specX _ _ hmix h hc
def oP (m n : Int) (op : List UInt8) : Prop := SpM m 11 [.c (.d (.i n))] (.c (.d (.s (S op))))
def pP (m : Int) (op : List UInt8) (q0 q1 q2 : Int) (p : List UInt8) : Prop := SpM m 12 [.c (.d (.s (S op))), .agg [.d (.i q0), .d (.i q1), .d (.i q2)]] (.c (.d (.s (S p))))
def bP (m : Int) (bs bes : List (List D)) : Prop := SpM m 13 [.c (.d (.sl 1 bs))] (.c (.d (.sl 3 bes)))
def rP (m : Int) (rw rv : List (List D)) : Prop := SpM m 18 [.c (.d (.sl 1 rw))] (.c (.d (.sl 7 rv)))
def lP (m : Int) (op : List UInt8) (b : Bool) : Prop := SpM m 22 [.c (.d (.s (S op)))] (.c (.d (.b b)))
def iP (a n k : Int) : Prop := Value.int .i64 ((IntKind.i64.wrap a).tmod n) = Value.int .i64 k
def oS (m opn q0 q1 q2 a e0 e1 : Int) (as_ rw bs : List (List D)) : Prop := SpM m 4 (insA opn q0 q1 q2 as_ rw bs a e0 e1) (.c (.d (.b true)))
def TS (op p : List UInt8) (bes rv : List (List D)) (lz : Bool) (o : SV) : List (Ent Tryz.prog (Gl (gT m))) := eSan :: eAny 11 (.c (.d (.s (S op)))) :: eAny 12 (.c (.d (.s (S p)))) :: eAny 13 (.c (.d (.sl 3 bes))) :: eAny 15 o :: eAny 18 (.c (.d (.sl 7 rv))) :: eAny 22 (.c (.d (.b lz))) :: eVal :: eRightT :: eErr :: T0
def oneS (e : Int) : Int := 1 + IntKind.i64.wrap (e.tmod 40)
theorem wrap_small {x : Int} (h0 : -1000 ≤ x) (h1 : x ≤ 1000) : IntKind.i64.wrap x = x := by
 unfold IntKind.wrap
 simp only [IntKind.signed, IntKind.bits]
 simp
 omega
theorem oneS_eq (e : Int) : oneS e = 1 + e.tmod 40 := by
 have h1 := Int.tmod_lt_of_pos e (b := 40) (by decide)
 have h2 : -40 < e.tmod 40 := by
  have := Int.tmod_lt_of_pos (-e) (b := 40) (by decide)
  rw [Int.neg_tmod] at this; omega
 unfold oneS
 rw [wrap_small (by omega) (by omega)]
theorem oneS_in (e : Int) : Go.Eng.inR (oneS e) := by
 have h1 := Int.tmod_lt_of_pos e (b := 40) (by decide)
 have h2 : -40 < e.tmod 40 := by
  have := Int.tmod_lt_of_pos (-e) (b := 40) (by decide)
  rw [Int.neg_tmod] at this; omega
 rw [oneS_eq]; unfold Go.Eng.inR; omega
theorem oneS_ne (e : Int) (h : 0 ≤ e) : oneS e ≠ 0 := by
 have := Int.tmod_nonneg 40 h
 rw [oneS_eq]; omega
theorem boolS_good (n : Int) (h : n = 0 ∨ n = 1) : (⟨4, [], 0, 0, n⟩ : Cl).good := by
 rcases h with rfl | rfl
 ·exact ⟨by decide, by decide, by decide⟩
 ·exact ⟨by decide, by decide, by decide⟩
def eqS (x : Int) : Prop := Value.bool (x == x) = Value.bool true
theorem eqS_ok (x : Int) : eqS x := by simp [eqS]
def errSp (m x : Int) : Prop := V.Spec Tryz.prog (Gl (gT m)) 49 [.agg [.d (.i 0), .d (.s (S [])), .d (.i 0), .d (.i 0), .d (.i x), .d .nil, .d .nil]] [] (.c (.d (.i x))) []
theorem errS_ok (m x : Int) (h : x ≠ 0) : errSp m x := by
 have := nil1 (m := m) (v := ⟨0, [], 0, 0, x, [], []⟩) rfl rfl (error_ok (g := gT m) ⟨0, [], 0, 0, x, [], []⟩)
 unfold errI at this
 rw [if_pos rfl, if_neg h] at this
 exact this
theorem valS_ok (i kind : Int) (h0 : 0 ≤ kind) (h1 : kind ≤ 5) : ValOk (intsD [i, 2, 3]) 0 kind := ⟨_, rfl, ⟨by decide, by simp, by simp⟩, h0, h1⟩
theorem valS_right (i kind : Int) (h0 : 0 ≤ kind) (h1 : kind ≤ 5) : RightOk [valS (intsD [i, 2, 3]) 0 kind] := by
 refine ⟨(vlM [i, 2, 3] 0 kind).1, ?_, (vl_good _ _ _).1, (vl_good _ _ _).2⟩
 unfold valS
 rw [unI_D]
 have := vl_kind [i, 2, 3] 0 kind h0 h1
 refine All2.one ?_
 show WkS _ (vArg _)
 unfold vArg
 rw [this]
 exact WkS.refl _
end Go.Proofs.YtdejnaokkdndeaaGreatDoor
namespace Go.Proofs.YtdejnaokkdndeaaGreatDoor
open Go.RowKit Go.V
variable {m : Int}
def outOf : List (Nat × SV) → Nat → Option SV
 | [], _ => none
 | e :: r, k => bif Nat.beq k e.1 then some e.2 else outOf r k
def eAnyK (f : FuncId) (L : List (Nat × SV)) : Ent Tryz.prog (Gl (gT m)) where
 f := f
 ask := fun k ins refs => match refs with
  | [] => match outOf L k with
   | some out => some (out, [], [V.Spec Tryz.prog (Gl (gT m)) f ins [] out []])
   | none => none
  | _ => none
 ok := by
  intro k ins refs post out' cs h hc
  split at h
  ·split at h
   ·cases h; exact hc
   ·cases h
  ·cases h
def oddL : List (List UInt8) := [[], [120], [35, 49], [97, 58, 116, 101, 120, 116], [49, 120], [97, 44, 97], [46, 46, 58, 116, 101, 120, 116], [97, 62, 61], [48, 55], [92, 100, 43, 35, 48]]
def moP (m a n r : Int) : Prop := SpM m 36 [.c (.d (.i a)), .c (.d (.i n))] (.c (.d (.i r)))
def soP (m a : Int) (l : List (List UInt8)) (p : List UInt8) : Prop := SpM m 37 [.c (.d (.i a)), .c (.d (.sl 1 (strs l)))] (.c (.d (.s (S p))))
def dP (m n : Int) (p : List UInt8) : Prop := SpM m 38 [.c (.d (.i n))] (.c (.d (.s (S p))))
def n18 (md : Int) : Prop := Value.bool (md == 18) = Value.bool false
def z1 (p s : List UInt8) : Prop := (S p).size + (S s).size ≤ maxLen
def z2 (p s q : List UInt8) : Prop := (S p ++ S s).size + (S q).size ≤ maxLen
def pI (op : List UInt8) (q0 q1 q2 : Int) : List SV := [.c (.d (.s (S op))), .agg [.d (.i q0), .d (.i q1), .d (.i q2)]]
theorem mod_sp (m a n : Int) (h1 : 1 ≤ n) (h2 : n ≤ 1000000) : moP m a n (md5 a n) := mod05_ok (g := gT m) a n h1 h2
theorem some_sp (m n : Int) (l : List (List UInt8)) (h0 : 1 ≤ l.length) (h1 : l.length ≤ 1000) : ∃ p, p ∈ l ∧ soP m n l p := by
 have e : (strs l).length = l.length := by simp [strs]
 have := md5_bd (a := n) (n := ((strs l).length : Int)) (by omega)
 exact ⟨_, getD_mem (by omega), some11_ok (g := gT m) n l h0 h1⟩
section
variable {op : List UInt8} {q0 q1 q2 : Int}
theorem rPo {pv : List UInt8} (h1 : moP m q2 19 18) (h2 : soP m q1 oddL pv)
  (h : topX (P := Tryz.prog) (G := Gl (gT m)) (eAny 36 (.c (.d (.i 18))) :: eAny 37 (.c (.d (.s (S pv)))) :: T0) N0e D0e (fun _ => none) (fun _ => none) 100000 60 12 (pI op q0 q1 q2) = some (.c (.d (.s (S pv))), [soP m q1 oddL pv, moP m q2 19 18])) : pP m op q0 q1 q2 pv := specX _ _ hmix h ⟨h2, h1⟩
theorem rP0 (k : Nat) {md : Int} (hn : n18 md) (h1 : moP m q2 19 md)
  (h : topX (P := Tryz.prog) (G := Gl (gT m)) (eAny 36 (.c (.d (.i md))) :: T0) N0e D0e (fun _ => none) (litL [(k, .bool false)]) 100000 60 12 (pI op q0 q1 q2) = some (.c (.d (.s (S []))), [moP m q2 19 md, n18 md])) : pP m op q0 q1 q2 [] := specX _ _ hmix h ⟨h1, hn⟩
theorem rP1 (k : Nat) {md : Int} {L : List (List UInt8)} {pv : List UInt8} (hn : n18 md) (h1 : moP m q2 19 md) (h2 : soP m q0 L pv)
  (h : topX (P := Tryz.prog) (G := Gl (gT m)) (eAny 36 (.c (.d (.i md))) :: eAny 37 (.c (.d (.s (S pv)))) :: T0) N0e D0e (fun _ => none) (litL [(k, .bool false)]) 100000 60 12 (pI op q0 q1 q2) = some (.c (.d (.s (S pv))), [soP m q0 L pv, moP m q2 19 md, n18 md])) : pP m op q0 q1 q2 pv := specX _ _ hmix h ⟨h2, h1, hn⟩
theorem rP2 (k k1 k2 : Nat) (oc : List Nat) {md : Int} {A C : List (List UInt8)} {sep pv pw : List UInt8} (hn : n18 md) (h1 : moP m q2 19 md) (h2 : soP m q0 A pv) (h3 : soP m q1 C pw) (s1 : z1 pv sep) (s2 : z2 pv sep pw)
  (h : topX (P := Tryz.prog) (G := Gl (gT m)) (eAny 36 (.c (.d (.i md))) :: eAnyK 37 [(k1, .c (.d (.s (S pv)))), (k2, .c (.d (.s (S pw))))] :: T0) N0e D0e (orcL oc) (litL [(k, .bool false)]) 100000 60 12 (pI op q0 q1 q2) = some (.c (.d (.s (S pv ++ S sep ++ S pw))), [soP m q0 A pv, z1 pv sep, soP m q1 C pw, z2 pv sep pw, moP m q2 19 md, n18 md])) : pP m op q0 q1 q2 (pv ++ sep ++ pw) := by
 have := specX _ _ hmix h ⟨h2, s1, h3, s2, h1, hn⟩
 rw [S_app, S_app] at this
 exact this
theorem par0 {pl : List (List UInt8)} (hodd : ∀ x ∈ oddL, x ∈ pl) (ho : ∀ pv, moP m q2 19 18 → soP m q1 oddL pv → pP m op q0 q1 q2 pv) (hr : ∀ md, n18 md → moP m q2 19 md → ∃ p, p ∈ pl ∧ pP m op q0 q1 q2 p) : ∃ p, p ∈ pl ∧ pP m op q0 q1 q2 p := by
 have hm := mod_sp m q2 19 (by decide) (by decide)
 by_cases hq : md5 q2 19 = 18
 ·obtain ⟨p, hp, hs⟩ := some_sp m q1 oddL (by decide) (by decide)
  rw [hq] at hm
  exact ⟨p, hodd p hp, ho p hm hs⟩
 ·exact hr _ (by unfold n18; simp [hq]) hm
theorem par1 {pl L : List (List UInt8)} (h0 : 1 ≤ L.length) (h1 : L.length ≤ 1000) (hsub : ∀ x ∈ L, x ∈ pl) (hodd : ∀ x ∈ oddL, x ∈ pl) (ho : ∀ pv, moP m q2 19 18 → soP m q1 oddL pv → pP m op q0 q1 q2 pv) (hr : ∀ md pv, n18 md → moP m q2 19 md → soP m q0 L pv → pP m op q0 q1 q2 pv) : ∃ p, p ∈ pl ∧ pP m op q0 q1 q2 p :=
 par0 hodd ho fun md hn hm => by
  obtain ⟨p, hp, hs⟩ := some_sp m q0 L h0 h1
  exact ⟨p, hsub p hp, hr md p hn hm hs⟩
theorem par2 {pl A C : List (List UInt8)} {sep : List UInt8} (a0 : 1 ≤ A.length) (a1 : A.length ≤ 1000) (c0 : 1 ≤ C.length) (c1 : C.length ≤ 1000) (la : ∀ x ∈ A, x.length ≤ 100) (lc : ∀ x ∈ C, x.length ≤ 100) (ls : sep.length ≤ 100) (hsub : ∀ x ∈ A, ∀ y ∈ C, x ++ sep ++ y ∈ pl) (hodd : ∀ x ∈ oddL, x ∈ pl) (ho : ∀ pv, moP m q2 19 18 → soP m q1 oddL pv → pP m op q0 q1 q2 pv)
  (hr : ∀ md pv pw, n18 md → moP m q2 19 md → soP m q0 A pv → soP m q1 C pw → z1 pv sep → z2 pv sep pw → pP m op q0 q1 q2 (pv ++ sep ++ pw)) : ∃ p, p ∈ pl ∧ pP m op q0 q1 q2 p :=
 par0 hodd ho fun md hn hm => by
  obtain ⟨p, hp, hs⟩ := some_sp m q0 A a0 a1
  obtain ⟨q, hq, hs2⟩ := some_sp m q1 C c0 c1
  have l1 := la p hp
  have l2 := lc q hq
  refine ⟨p ++ sep ++ q, hsub p hp q hq, hr md p q hn hm hs hs2 ?_ ?_⟩
  ·unfold z1; rw [S_size, S_size]; unfold maxLen; omega
  ·unfold z2; rw [S_app, S_size, S_size, List.length_append]; unfold maxLen; omega
end
end Go.Proofs.YtdejnaokkdndeaaGreatDoor
