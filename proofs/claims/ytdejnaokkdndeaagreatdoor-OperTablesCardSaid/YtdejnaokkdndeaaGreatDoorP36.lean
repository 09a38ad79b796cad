/- Part 36 of the proof: texts K5, T1, T2, T4. -/
import Derived.Test.YtdejnaokkdndeaaGreatDoorP28
import Derived.Test.YtdejnaokkdndeaaGreatDoorP32
import Derived.Test.YtdejnaokkdndeaaGreatDoorP33
import Derived.Test.YtdejnaokkdndeaaGreatDoorP35
set_option linter.all false
namespace Go.Proofs.YtdejnaokkdndeaaGreatDoor
open Go.RowKit Go.V
variable {m : Int}
def eSan : Ent Tryz.prog (Gl (gT m)) where
 f := 10
 ask := aSan
 ok := by
  intro k ins refs post out cs h hc
  unfold aSan at h
  split at h
  ·cases h
   exact sanity_ok m
  ·cases h
end Go.Proofs.YtdejnaokkdndeaaGreatDoor
namespace Go.Proofs.YtdejnaokkdndeaaGreatDoor
open Go.RowKit Go.V
open Go.Eng (inR byteAt u8 bytesV)
variable {g : Gv}
def dec9L : List (Int × Int) := [(1, 0), (-25, 1), (3, 0), (1000000000000000, 0)]
def city9L : List (List UInt8) := [[82, 111, 109, 101], [79, 115, 108, 111], [66, 101, 114, 103, 101, 110], [105, 116]]
def col9L : List (List UInt8) := [[99, 105, 116, 121], [122, 105, 112], [99, 111, 117, 110, 116, 114, 121], [115, 105, 110, 99, 101]]
def kind9L : List Int := [1, 2, 1, 3]
def code9L : List (List UInt8) := [[97], [98], [97, 98], [49, 50], [97]]
def lab9L : List (List UInt8) := [[111, 110, 101], [116, 119, 111], [97]]
def c9 (kind n : Int) : Cl :=
 if n = 4 then Cl.z else if kind = 2 then ⟨2, [], (dec9L.getD n.toNat (0, 0)).1, (dec9L.getD n.toNat (0, 0)).2, 0⟩ else if kind = 3 then ⟨3, [], 0, 0, 738000 + n⟩ else ⟨1, city9L.getD n.toNat [], 0, 0, 0⟩
theorem mod5 {n : Int} (h0 : 0 ≤ n) (h1 : n < 5) : (n.tmod 5 + 5).tmod 5 = n := by
 rw [Int.tmod_eq_emod_of_nonneg h0, Int.tmod_eq_emod_of_nonneg (by omega)]; omega
theorem dec9_at {j : Nat} (h : j < 4) : ([[D.i 1, D.i 0], [D.i (-25), D.i 1], [D.i 3, D.i 0], [D.i 1000000000000000, D.i 0]] : List (List D))[j]? = some [D.i (dec9L.getD j (0, 0)).1, D.i (dec9L.getD j (0, 0)).2] := by
 have hj : j = 0 ∨ j = 1 ∨ j = 2 ∨ j = 3 := by omega
 rcases hj with rfl | rfl | rfl | rfl <;> rfl
theorem city9_at {j : Nat} (h : j < 4) : ([[D.s (S [82, 111, 109, 101])], [D.s (S [79, 115, 108, 111])], [D.s (S [66, 101, 114, 103, 101, 110])], [D.s (S [105, 116])]] : List (List D))[j]? = some (strD (city9L.getD j [])) := by
 have hj : j = 0 ∨ j = 1 ∨ j = 2 ∨ j = 3 := by omega
 rcases hj with rfl | rfl | rfl | rfl <;> rfl
theorem col9_at {j : Nat} (h : j < 4) : ([[D.s (S [99, 105, 116, 121])], [D.s (S [122, 105, 112])], [D.s (S [99, 111, 117, 110, 116, 114, 121])], [D.s (S [115, 105, 110, 99, 101])]] : List (List D))[j]? = some (strD (col9L.getD j [])) := by
 have hj : j = 0 ∨ j = 1 ∨ j = 2 ∨ j = 3 := by omega
 rcases hj with rfl | rfl | rfl | rfl <;> rfl
theorem kind9_at {j : Nat} (h : j < 4) : ([[D.i 1], [D.i 2], [D.i 1], [D.i 3]] : List (List D))[j]? = some (intD (kind9L.getD j 0)) := by
 have hj : j = 0 ∨ j = 1 ∨ j = 2 ∨ j = 3 := by omega
 rcases hj with rfl | rfl | rfl | rfl <;> rfl
theorem code9_at {j : Nat} (h : j < 5) : ([[D.s (S [97])], [D.s (S [98])], [D.s (S [97, 98])], [D.s (S [49, 50])], [D.s (S [97])]] : List (List D))[j]? = some (strD (code9L.getD j [])) := by
 have hj : j = 0 ∨ j = 1 ∨ j = 2 ∨ j = 3 ∨ j = 4 := by omega
 rcases hj with rfl | rfl | rfl | rfl | rfl <;> rfl
theorem lab9_at {j : Nat} (h : j < 3) : ([[D.s (S [111, 110, 101])], [D.s (S [116, 119, 111])], [D.s (S [97])]] : List (List D))[j]? = some (strD (lab9L.getD j [])) := by
 have hj : j = 0 ∨ j = 1 ∨ j = 2 := by omega
 rcases hj with rfl | rfl | rfl <;> rfl
def kd9 (l : List Int) : Nat → Nat → Int → List Int × Int
 | 0, j, k => ([], k)
 | f + 1, j, k => (kind9L.getD (((j : Int) + nxV l k 2 * 2).tmod 4).toNat 0 :: (kd9 l f (j + 1) (nxK l k 2)).1, (kd9 l f (j + 1) (nxK l k 2)).2)
theorem kd9_step {l : List Int} {N j : Nat} {kk : Int} (h : j < N) : kd9 l (N - j) j kk = (kind9L.getD (((j : Int) + nxV l kk 2 * 2).tmod 4).toNat 0 :: (kd9 l (N - (j + 1)) (j + 1) (nxK l kk 2)).1, (kd9 l (N - (j + 1)) (j + 1) (nxK l kk 2)).2) := by
 have : N - j = (N - (j + 1)) + 1 := by omega
 rw [this, kd9]
def rw9 (l : List Int) : List Int → Int → List Cl × Int
 | [], k => ([], k)
 | kd :: r, k => (c9 kd (nxV l k 5) :: (rw9 l r (nxK l k 5)).1, (rw9 l r (nxK l k 5)).2)
theorem rw9_step {l kds : List Int} {j : Nat} {kk : Int} (h : j < kds.length) : rw9 l (kds.drop j) kk = (c9 (kds.getD j 0) (nxV l kk 5) :: (rw9 l (kds.drop (j + 1)) (nxK l kk 5)).1, (rw9 l (kds.drop (j + 1)) (nxK l kk 5)).2) := by
 have : kds.drop j = kds.getD j 0 :: kds.drop (j + 1) := by
  rw [List.drop_eq_getElem_cons h]; simp [h]
 rw [this, rw9]
def rs9 (l : List Int) (kds : List Int) : Nat → Int → List (List Cl) × Int
 | 0, k => ([], k)
 | n + 1, k => ((rw9 l kds k).1 :: (rs9 l kds n (rw9 l kds k).2).1, (rs9 l kds n (rw9 l kds k).2).2)
theorem rs9_step {l kds : List Int} {N j : Nat} {kk : Int} (h : j < N) : rs9 l kds (N - j) kk = ((rw9 l kds kk).1 :: (rs9 l kds (N - (j + 1)) (rw9 l kds kk).2).1, (rs9 l kds (N - (j + 1)) (rw9 l kds kk).2).2) := by
 have : N - j = (N - (j + 1)) + 1 := by omega
 rw [this, rs9]
def mN9 (l : List Int) : Nat := (1 + nxV l 0 4).toNat
def mK9 (l : List Int) : List Int × Int := kd9 l (mN9 l) 0 (nxK l 0 4)
def mR9 (l : List Int) : List (List Cl) := (rs9 l ((mK9 l).1.set 0 1) (nxV l (mK9 l).2 7).toNat (nxK l (mK9 l).2 7)).1
def bI (b : Bool) : Int := if b then 1 else 0
def ClN (c : Cl) : List D := [.i c.kind, .s (S c.s), .i c.dn, .i c.ds, .i c.n, .nil, .nil]
def rowN (r : List Cl) : List (List D) := r.map ClN
def rowN1 (r : List Cl) : List D := [.sl 7 (rowN r)]
def rowsN (l : List (List Cl)) : List (List D) := l.map rowN1
def brow (l : List Int) (j : Nat) (k : Int) : List Cl :=
 [⟨1, code9L.getD j [], 0, 0, 0⟩, c9 2 (nxV l k 5), c9 3 (nxV l (nxK l k 5) 5), ⟨4, [], 0, 0, bI (decide (nxV l (nxK l (nxK l k 5) 5) 2 = 1))⟩, ⟨1, lab9L.getD (nxV l (nxK l (nxK l (nxK l k 5) 5) 2) 3).toNat [], 0, 0, 0⟩]
def brk (l : List Int) (k : Int) : Int := nxK l (nxK l (nxK l (nxK l k 5) 5) 2) 3
def brs (l : List Int) : Nat → Nat → Int → List (List Cl) × Int
 | 0, j, k => ([], k)
 | f + 1, j, k => (brow l j k :: (brs l f (j + 1) (brk l k)).1, (brs l f (j + 1) (brk l k)).2)
theorem brs_step {l : List Int} {N j : Nat} {kk : Int} (h : j < N) : brs l (N - j) j kk = (brow l j kk :: (brs l (N - (j + 1)) (j + 1) (brk l kk)).1, (brs l (N - (j + 1)) (j + 1) (brk l kk)).2) := by
 have : N - j = (N - (j + 1)) + 1 := by omega
 rw [this, brs]
def rest9 (l : List Int) : Nat → Int → List Int × Int
 | 0, k => ([], k)
 | f + 1, k => (nxV l k 5040 :: (rest9 l f (nxK l k 5040)).1, (rest9 l f (nxK l k 5040)).2)
theorem rest9_step {l : List Int} {N j : Nat} {kk : Int} (h : j < N) : rest9 l (N - j) kk = (nxV l kk 5040 :: (rest9 l (N - (j + 1)) (nxK l kk 5040)).1, (rest9 l (N - (j + 1)) (nxK l kk 5040)).2) := by
 have : N - j = (N - (j + 1)) + 1 := by omega
 rw [this, rest9]
def bN (l : List Int) : Nat := (2 + nxV l 0 3).toNat
def bR (l : List Int) : List (List Cl) × Int := brs l (bN l) 0 (nxK l 0 3)
def bT (l : List Int) : List Int := (rest9 l 12 (bR l).2).1
def cols9L : List (List UInt8) := [[99, 111, 100, 101], [114, 97, 116, 101], [115, 105, 110, 99, 101], [111, 112, 101, 110], [108, 97, 98, 101, 108]]
def zq5 := And.intro @List.length_append.{0} (And.intro @List.length_cons.{0} (And.intro @List.length_map.{0, 0} (And.intro @List.length_nil.{0} (@List.length_set.{0}))))
theorem cell9_ok (kind n : Int) (h0 : 0 ≤ n) (h1 : n < 5) :
  SpG g 41 [.c (.d (.i kind)), .c (.d (.i n))] [] (.agg [.d (.i ((c9 kind n).kind)), .d (.s (S (c9 kind n).s)), .d (.i ((c9 kind n).dn)), .d (.i ((c9 kind n).ds)), .d (.i ((c9 kind n).n)), .d (.nil), .d (.nil)]) [] := by
 have e5 := mod5 h0 h1
 have e6 := tmod_in (x := n) (n := 5) (by decide)
 refine enterB 36 Tryz.func41 (by kernel_rfl) fun fr hG => ?_
 refine zC hG [] [1, 0, 1, 1] (decide ((Int.tmod ((Int.tmod n 5) + 5) 5 : Int) = 4)) (⟨[(0, [], .c (.d (.i kind))), (1, [], .c (.d (.i (Int.tmod ((Int.tmod n 5) + 5) 5)))), (4, [], .c (.bx 100 0))], [(100, .box 42 [.d (.i 0), .d (.s (S [])), .d (.i 0), .d (.i 0), .d (.i 0), .d (.nil), .d (.nil)])]⟩) (by kernel_rfl) (conjC (show 5 ≠ (0 : Int) from (by intros; (try simp only [zq4] at *); (try simp only [zq5] at *); omega)) (conjC (show inR ((Int.tmod n 5) + 5) from (by intros; (try simp only [zq4] at *); (try simp only [zq5] at *); omega)) (conj1 (show 5 ≠ (0 : Int) from (by intros; (try simp only [zq4] at *); (try simp only [zq5] at *); omega))))) (fun hc1 => ?_) (fun hc1 => ?_)
 ·(try simp only [blS] at hc1)
  (try simp only [e5] at hc1)
  refine zR hG [] [] (.agg [.d (.i 0), .d (.s (S [])), .d (.i 0), .d (.i 0), .d (.i 0), .d (.nil), .d (.nil)]) [] (by kernel_rfl) conj0 ?_ ?_
  ·(try simp only [e5] at *)
   simp [c9, Cl.z, *]
  ·rfl
 ·(try simp only [blS] at hc1)
  (try simp only [e5] at hc1)
  refine zC hG [] [1, 0, 1, 0, 1, 1, 1] (decide ((kind : Int) = 2)) (⟨[(0, [], .c (.d (.i kind))), (1, [], .c (.d (.i (Int.tmod ((Int.tmod n 5) + 5) 5)))), (4, [], .c (.bx 100 0)), (12, [], .c (.d (.i kind)))], [(100, .box 42 [.d (.i 0), .d (.s (S [])), .d (.i 0), .d (.i 0), .d (.i 0), .d (.nil), .d (.nil)])]⟩) (by kernel_rfl) conj0 (fun hc2 => ?_) (fun hc2 => ?_)
  ·(try simp only [blS] at hc2)
   (try simp only [e5] at hc2)
   refine zR hG [(6, 8, .elem ([D.i (dec9L.getD (Int.tmod ((Int.tmod n 5) + 5) 5 : Int).toNat (0, 0)).1, D.i (dec9L.getD (Int.tmod ((Int.tmod n 5) + 5) 5 : Int).toNat (0, 0)).2]))] [] (.agg [.d (.i kind), .d (.s (S [])), .d (.i ((dec9L.getD (Int.tmod ((Int.tmod n 5) + 5) 5 : Int).toNat (0, 0)).1)), .d (.i ((dec9L.getD (Int.tmod ((Int.tmod n 5) + 5) 5 : Int).toNat (0, 0)).2)), .d (.i 0), .d (.nil), .d (.nil)]) [] (by kernel_rfl) (conjC (show (0 : Int) ≤ (Int.tmod ((Int.tmod n 5) + 5) 5) ∧ (Int.tmod ((Int.tmod n 5) + 5) 5) < ((([[.i 1, .i 0], [.i (-25), .i 1], [.i 3, .i 0], [.i 1000000000000000, .i 0]] : List (List D))).length : Int) from (by intros; (try simp only [zq4] at *); (try simp only [zq5] at *); omega)) (conj1 (show (([[.i 1, .i 0], [.i (-25), .i 1], [.i 3, .i 0], [.i 1000000000000000, .i 0]] : List (List D)))[(Int.tmod ((Int.tmod n 5) + 5) 5 : Int).toNat]? = some ([D.i (dec9L.getD (Int.tmod ((Int.tmod n 5) + 5) 5 : Int).toNat (0, 0)).1, D.i (dec9L.getD (Int.tmod ((Int.tmod n 5) + 5) 5 : Int).toNat (0, 0)).2]) from (dec9_at (by omega))))) ?_ ?_
   ·(try simp only [e5] at *)
    simp [c9, Cl.z, *]
   ·rfl
  ·(try simp only [blS] at hc2)
   (try simp only [e5] at hc2)
   refine zC hG [] [1, 1, 1, 0, 1, 0, 1, 1, 1] (decide ((kind : Int) = 3)) (⟨[(0, [], .c (.d (.i kind))), (1, [], .c (.d (.i (Int.tmod ((Int.tmod n 5) + 5) 5)))), (4, [], .c (.bx 100 0))], [(100, .box 42 [.d (.i 0), .d (.s (S [])), .d (.i 0), .d (.i 0), .d (.i 0), .d (.nil), .d (.nil)])]⟩) (by kernel_rfl) conj0 (fun hc3 => ?_) (fun hc3 => ?_)
   ·(try simp only [blS] at hc3)
    (try simp only [e5] at hc3)
    refine zR hG [] [] (.agg [.d (.i kind), .d (.s (S [])), .d (.i 0), .d (.i 0), .d (.i (738000 + (Int.tmod ((Int.tmod n 5) + 5) 5))), .d (.nil), .d (.nil)]) [] (by kernel_rfl) (conj1 (show inR (738000 + (Int.tmod ((Int.tmod n 5) + 5) 5)) from (by intros; (try simp only [zq4] at *); (try simp only [zq5] at *); omega))) ?_ ?_
    ·(try simp only [e5] at *)
     simp [c9, Cl.z, *]
    ·rfl
   ·(try simp only [blS] at hc3)
    (try simp only [e5] at hc3)
    refine zR hG [(9, 3, .elem (strD (city9L.getD (Int.tmod ((Int.tmod n 5) + 5) 5 : Int).toNat [])))] [] (.agg [.d (.i 1), .d (.s (S (city9L.getD (Int.tmod ((Int.tmod n 5) + 5) 5 : Int).toNat []))), .d (.i 0), .d (.i 0), .d (.i 0), .d (.nil), .d (.nil)]) [] (by kernel_rfl) (conjC (show (0 : Int) ≤ (Int.tmod ((Int.tmod n 5) + 5) 5) ∧ (Int.tmod ((Int.tmod n 5) + 5) 5) < ((([[.s (S [82, 111, 109, 101])], [.s (S [79, 115, 108, 111])], [.s (S [66, 101, 114, 103, 101, 110])], [.s (S [105, 116])]] : List (List D))).length : Int) from (by intros; (try simp only [zq4] at *); (try simp only [zq5] at *); omega)) (conj1 (show (([[.s (S [82, 111, 109, 101])], [.s (S [79, 115, 108, 111])], [.s (S [66, 101, 114, 103, 101, 110])], [.s (S [105, 116])]] : List (List D)))[(Int.tmod ((Int.tmod n 5) + 5) 5 : Int).toNat]? = some (strD (city9L.getD (Int.tmod ((Int.tmod n 5) + 5) 5 : Int).toNat [])) from (city9_at (by omega))))) ?_ ?_
    ·(try simp only [e5] at *)
     simp [c9, Cl.z, *]
    ·rfl
theorem text11_ok (t : List UInt8) :
  SpG g 40 [.c (.d (.s (S t)))] [] (.agg [.d (.i (((⟨1, t, 0, 0, 0⟩ : Cl)).kind)), .d (.s (S ((⟨1, t, 0, 0, 0⟩ : Cl)).s)), .d (.i (((⟨1, t, 0, 0, 0⟩ : Cl)).dn)), .d (.i (((⟨1, t, 0, 0, 0⟩ : Cl)).ds)), .d (.i (((⟨1, t, 0, 0, 0⟩ : Cl)).n)), .d (.nil), .d (.nil)]) [] := by
 refine enterB 5 Tryz.func40 (by kernel_rfl) fun fr hG => ?_
 exact zr hG [] [] (by kernel_rfl) conj0
theorem truth11_ok (b : Bool) :
  SpG g 42 [.c (.d (.b b))] [] (.agg [.d (.i (((⟨4, [], 0, 0, bI b⟩ : Cl)).kind)), .d (.s (S ((⟨4, [], 0, 0, bI b⟩ : Cl)).s)), .d (.i (((⟨4, [], 0, 0, bI b⟩ : Cl)).dn)), .d (.i (((⟨4, [], 0, 0, bI b⟩ : Cl)).ds)), .d (.i (((⟨4, [], 0, 0, bI b⟩ : Cl)).n)), .d (.nil), .d (.nil)]) [] := by
 refine enterB 6 Tryz.func42 (by kernel_rfl) fun fr hG => ?_
 refine zC hG [] [1, 0, 1] (b) (⟨[(2, [], .c (.bx 100 0))], [(100, .box 42 [.d (.i 0), .d (.s (S [])), .d (.i 0), .d (.i 0), .d (.i 0), .d (.nil), .d (.nil)])]⟩) (by kernel_rfl) conj0 (fun hc1 => ?_) (fun hc1 => ?_)
 ·(try simp only [blS] at hc1)
  refine zR hG [] [] (.agg [.d (.i 4), .d (.s (S [])), .d (.i 0), .d (.i 0), .d (.i 1), .d (.nil), .d (.nil)]) [] (by kernel_rfl) conj0 ?_ ?_
  ·simp [bI, *]
  ·rfl
 ·(try simp only [blS] at hc1)
  refine zR hG [] [] (.agg [.d (.i 4), .d (.s (S [])), .d (.i 0), .d (.i 0), .d (.i 0), .d (.nil), .d (.nil)]) [] (by kernel_rfl) conj0 ?_ ?_
  ·simp [bI, *]
  ·rfl
theorem made9_ok (nm : List UInt8) (l : List Int) (h : NumOk l 0) :
  SpG g 43 [.c (.d (.s (S nm))), .c (.d (.sl 1 (intsD l)))] [] (.agg [.d (.s (S nm)), .d (.sl 1 (strs (col9L.take (mN9 l)))), .d (.sl 1 (rowsD (mR9 l)))]) [] := by
 have a1 := nxV_bd l 0 (n := 4) (by decide)
 have a2 : (mN9 l : Int) = 1 + nxV l 0 4 := by unfold mN9; omega
 refine enterB 79 Tryz.func43 (by kernel_rfl) fun fr hG => ?_
 refine zA hG [(3, 1, .call (.c (.d (.i (nxV l 0 4)))) [] [[.sl 1 (intsD l), .i (nxK l 0 4)]])] [0, 1, 0, 1, 1, 1, 1, 1] (⟨[(4, [], .c (.bx 100 0)), (5, [], .c (.bx 202 0)), (6, [], .c (.bx 302 0)), (7, [], .c (.d (.i (1 + (nxV l 0 4))))), (8, [], .c (.d (.nil))), (9, [], .c (.d (.i 0)))], [(100, .box 66 [.d (.s (S [])), .d (.nil), .d (.nil)]), (202, .box 53 [.d (.sl 1 (intsD l)), .d (.i (nxK l 0 4))]), (302, .box 66 [.d (.s (S nm)), .d (.nil), .d (.nil)])]⟩) [(8, 9001, 3, 1)] [(302, 1, 9002, 9, 1)] (fun (zz : Nat × List (List D) × List (List D) × List Int × Int) => match zz with | (j, ek, ec, acck, kk) => (mN9 l - j, ⟨[(4, [], .c (.bx 100 0)), (5, [], .c (.bx 202 0)), (6, [], .c (.bx 302 0)), (7, [], .c (.d (.i (1 + (nxV l 0 4))))), (8, [], .c (.ar 9001 0)), (9, [], .c (.d (.i (j : Int))))], [(100, .box 66 [.d (.s (S [])), .d (.nil), .d (.nil)]), (202, .box 53 [.d (.sl 1 (intsD l)), .d (.i kk)]), (302, .box 66 [.d (.s (S nm)), .ar 9002 0, .d (.nil)]), (9001, .arr 0 3 1 (ek)), (9002, .arr 0 9 1 (ec))]⟩, j ≤ mN9 l ∧ NumOk l kk ∧ ek = intsD acck ∧ ec = strs (col9L.take j) ∧ acck.length = j ∧ acck ++ (kd9 l (mN9 l - j) j kk).1 = (mK9 l).1 ∧ (kd9 l (mN9 l - j) j kk).2 = (mK9 l).2)) (0, [], [], [], nxK l 0 4) (by kernel_rfl) (conjC ((next_ok l 0 4 (by (repeat (first | assumption | apply NumOk.next))) (by decide) : SpG g _ _ _ _ _)) (conj1 (show inR (1 + (nxV l 0 4)) from (by intros; (try simp only [zq4] at *); (try simp only [zq5] at *); omega)))) (by kernel_rfl) (by kernel_rfl) ?_ ?_
 ·exact ⟨Nat.zero_le _, (by (repeat (first | assumption | apply NumOk.next))), rfl, rfl, rfl, by simp [mK9], by simp [mK9]⟩
 rintro ⟨j, ek, ec, acck, kk⟩ ⟨hj, hN, hek, hec, ha, h3, h4⟩
 have hlen : ek.length = j := by rw [hek, intsD, List.length_map, ha]
 have hlen2 : ec.length = j := by rw [hec, strs, List.length_map, List.length_take, show col9L.length = 4 from rfl]; omega
 have hx := nxV_bd l kk (n := 2) (by decide)
 have hy := Int.tmod_nonneg 4 (a := (j : Int) + nxV l kk 2 * 2) (by omega)
 have hy2 := Int.tmod_lt_of_pos ((j : Int) + nxV l kk 2 * 2) (b := 4) (by decide)
 refine zc hG [] [1, 0] (decide (((j : Int) : Int) < (1 + (nxV l 0 4)))) (by kernel_rfl) conj0 (fun hc2 => ?_) (fun hc2 => ?_)
 ·(try simp only [blS] at hc2)
  refine zD hG [(8, 5, .elem (strD (col9L.getD j []))), (9, 4, .call (.c (.d (.i (nxV l kk 2)))) [] [[.sl 1 (intsD l), .i (nxK l kk 2)]]), (9, 9, .elem (intD (kind9L.getD (Int.tmod ((j : Int) + ((nxV l kk 2) * 2)) 4 : Int).toNat 0)))] (j + 1, ek ++ [[D.i (kind9L.getD (((j : Int) + nxV l kk 2 * 2).tmod 4).toNat 0)]], ec ++ [[D.s (S (col9L.getD j []))]], acck ++ [kind9L.getD (((j : Int) + nxV l kk 2 * 2).tmod 4).toNat 0], nxK l kk 2) (by kernel_rfl) (conjC (show (0 : Int) ≤ (j : Int) ∧ (j : Int) < ((([[.s (S [99, 105, 116, 121])], [.s (S [122, 105, 112])], [.s (S [99, 111, 117, 110, 116, 114, 121])], [.s (S [115, 105, 110, 99, 101])]] : List (List D))).length : Int) from (by intros; (try simp only [zq4] at *); (try simp only [zq5] at *); omega)) (conjC (show (([[.s (S [99, 105, 116, 121])], [.s (S [122, 105, 112])], [.s (S [99, 111, 117, 110, 116, 114, 121])], [.s (S [115, 105, 110, 99, 101])]] : List (List D)))[j]? = some (strD (col9L.getD j [])) from (col9_at (by omega))) (conjC (show ((ec).length + (([[.s (S (col9L.getD j []))]] : List (List D))).length) * (16 + 1) ≤ 140737488355328 from (by intros; (try simp only [zq4] at *); (try simp only [zq5] at *); omega)) (conjC ((next_ok l kk 2 (by (repeat (first | assumption | apply NumOk.next))) (by decide) : SpG g _ _ _ _ _)) (conjC (show inR ((nxV l kk 2) * 2) from (by intros; (try simp only [zq4] at *); (try simp only [zq5] at *); omega)) (conjC (show inR ((j : Int) + ((nxV l kk 2) * 2)) from (by intros; (try simp only [zq4] at *); (try simp only [zq5] at *); omega)) (conjC (show 4 ≠ (0 : Int) from (by intros; (try simp only [zq4] at *); (try simp only [zq5] at *); omega)) (conjC (show (0 : Int) ≤ (Int.tmod ((j : Int) + ((nxV l kk 2) * 2)) 4) ∧ (Int.tmod ((j : Int) + ((nxV l kk 2) * 2)) 4) < ((([[.i 1], [.i 2], [.i 1], [.i 3]] : List (List D))).length : Int) from (by intros; (try simp only [zq4] at *); (try simp only [zq5] at *); omega)) (conjC (show (([[.i 1], [.i 2], [.i 1], [.i 3]] : List (List D)))[(Int.tmod ((j : Int) + ((nxV l kk 2) * 2)) 4 : Int).toNat]? = some (intD (kind9L.getD (Int.tmod ((j : Int) + ((nxV l kk 2) * 2)) 4 : Int).toNat 0)) from (kind9_at (by omega))) (conjC (show ((ek).length + (([[.i (kind9L.getD (Int.tmod ((j : Int) + ((nxV l kk 2) * 2)) 4 : Int).toNat 0)]] : List (List D))).length) * (8 + 1) ≤ 140737488355328 from (by intros; (try simp only [zq4] at *); (try simp only [zq5] at *); omega)) (conj1 (show inR ((j : Int) + 1) from (by intros; (try simp only [zq4] at *); (try simp only [zq5] at *); omega))))))))))))) ?_ ?_
  ·(try dsimp only); omega
  ·have hjs := kd9_step (l := l) (kk := kk) (N := mN9 l) (j := j) (by omega)
   refine ⟨by omega, hN.next _, by rw [hek]; simp [intsD, intD], ?_, by simp [ha], ?_, ?_⟩
   ·rw [hec, take_succ_strs (show j < col9L.length by rw [show col9L.length = 4 from rfl]; omega)]; rfl
   ·rw [← h3, hjs]; simp
   ·rw [← h4, hjs]
 ·(try simp only [blS] at hc2)
  have hjm : j = mN9 l := by unfold mN9; omega
  have hz0 : mN9 l - j = 0 := by omega
  rw [hz0] at h3 h4
  simp only [kd9, List.append_nil] at h3 h4
  have e1 : (mK9 l).1 = acck := h3.symm
  have e2 : (mK9 l).2 = kk := h4.symm
  have hml : ((mK9 l).1.set 0 1).length = mN9 l := by rw [List.length_set, e1, ha, hjm]
  have a5 := nxV_bd l kk (n := 7) (by decide)
  have e3 : (nxV l (mK9 l).2 7).toNat = (nxV l kk 7).toNat := by rw [e2]
  have e4 : 1 ≤ mN9 l := by unfold mN9; omega
  refine zE hG [] (.exit 0) (⟨[(4, [], .c (.bx 100 0)), (5, [], .c (.bx 202 0)), (6, [], .c (.bx 302 0)), (7, [], .c (.d (.i (1 + (nxV l 0 4))))), (8, [], .c (.ar 9001 0))], [(100, .box 66 [.d (.s (S [])), .d (.nil), .d (.nil)]), (202, .box 53 [.d (.sl 1 (intsD l)), .d (.i kk)]), (302, .box 66 [.d (.s (S nm)), .ar 9002 0, .d (.nil)]), (9001, .arr 0 3 1 (ek)), (9002, .arr 0 9 1 (ec))]⟩) (by kernel_rfl) conj0 rfl ?_
  refine zA hG [(11, 1, .call (.c (.d (.i (nxV l kk 7)))) [] [[.sl 1 (intsD l), .i (nxK l kk 7)]])] [0, 1, 0, 1, 1, 1, 1, 1, 1, 1, 1] (⟨[(4, [], .c (.bx 100 0)), (5, [], .c (.bx 202 0)), (6, [], .c (.bx 302 0)), (7, [], .c (.d (.i (1 + (nxV l 0 4))))), (8, [], .c (.ar 9001 0)), (10, [], .c (.d (.i (nxV l kk 7)))), (11, [], .c (.d (.i 0)))], [(100, .box 66 [.d (.s (S [])), .d (.nil), .d (.nil)]), (202, .box 53 [.d (.sl 1 (intsD l)), .d (.i (nxK l kk 7))]), (302, .box 66 [.d (.s (S nm)), .ar 9002 0, .d (.nil)]), (9001, .arr 0 3 1 ((ek).set 0 [.i 1])), (9002, .arr 0 9 1 (ec))]⟩) [] [(302, 2, 9003, 45, 1)] (fun (zz : Nat × List (List D) × List (List D) × List (List Cl) × Int) => match zz with | (i, er, ek2, accr, kr) => ((nxV l (mK9 l).2 7).toNat - i, ⟨[(4, [], .c (.bx 100 0)), (5, [], .c (.bx 202 0)), (6, [], .c (.bx 302 0)), (7, [], .c (.d (.i (1 + (nxV l 0 4))))), (8, [], .c (.ar 9001 0)), (10, [], .c (.d (.i (nxV l kk 7)))), (11, [], .c (.d (.i (i : Int))))], [(100, .box 66 [.d (.s (S [])), .d (.nil), .d (.nil)]), (202, .box 53 [.d (.sl 1 (intsD l)), .d (.i kr)]), (302, .box 66 [.d (.s (S nm)), .ar 9002 0, .ar 9003 0]), (9001, .arr 0 3 1 (ek2)), (9002, .arr 0 9 1 (ec)), (9003, .arr 0 45 1 (er))]⟩, i ≤ (nxV l (mK9 l).2 7).toNat ∧ NumOk l kr ∧ er = rowsD accr ∧ ek2 = intsD ((mK9 l).1.set 0 1) ∧ accr.length = i ∧ accr ++ (rs9 l ((mK9 l).1.set 0 1) ((nxV l (mK9 l).2 7).toNat - i) kr).1 = mR9 l)) (0, [], ek.set 0 [D.i 1], [], nxK l kk 7) (by kernel_rfl) (conjC (show (0 : Int) ≤ 0 ∧ 0 < ((ek).length : Int) from (by intros; (try simp only [zq4] at *); (try simp only [zq5] at *); omega)) (conj1 ((next_ok l kk 7 (by (repeat (first | assumption | apply NumOk.next))) (by decide) : SpG g _ _ _ _ _)))) (by kernel_rfl) (by kernel_rfl) ?_ ?_
  ·exact ⟨Nat.zero_le _, (by (repeat (first | assumption | apply NumOk.next))), rfl, (by rw [hek, e1]; simp [intsD, intD, List.map_set]), rfl, by simp [mR9, e2]⟩
  rintro ⟨i, er, ek2, accr, kr⟩ ⟨hi, hNr, her, hek2, har, hr3⟩
  have hlen3 : er.length = i := by rw [her, rowsD, List.length_map, har]
  refine zc hG [] [1, 0] (decide (((i : Int) : Int) < (nxV l kk 7))) (by kernel_rfl) conj0 (fun hc4 => ?_) (fun hc4 => ?_)
  ·(try simp only [blS] at hc4)
   refine zA hG [] [0, 1, 0, 1, 0, 0, 1] (⟨[(4, [], .c (.bx 100 0)), (5, [], .c (.bx 202 0)), (6, [], .c (.bx 302 0)), (7, [], .c (.d (.i (1 + (nxV l 0 4))))), (8, [], .c (.ar 9001 0)), (10, [], .c (.d (.i (nxV l kk 7)))), (11, [], .c (.d (.i (i : Int)))), (12, [], .c (.d (.nil))), (13, [], .c (.d (.i 0)))], [(100, .box 66 [.d (.s (S [])), .d (.nil), .d (.nil)]), (202, .box 53 [.d (.sl 1 (intsD l)), .d (.i kr)]), (302, .box 66 [.d (.s (S nm)), .ar 9002 0, .ar 9003 0]), (9001, .arr 0 3 1 (ek2)), (9002, .arr 0 9 1 (ec)), (9003, .arr 0 45 1 (er))]⟩) [(12, 9004, 42, 7)] [] (fun (zz : Nat × List (List D) × List Cl × Int) => match zz with | (c, et, acct, kt) => (((mK9 l).1.set 0 1).length - c, ⟨[(4, [], .c (.bx 100 0)), (5, [], .c (.bx 202 0)), (6, [], .c (.bx 302 0)), (7, [], .c (.d (.i (1 + (nxV l 0 4))))), (8, [], .c (.ar 9001 0)), (10, [], .c (.d (.i (nxV l kk 7)))), (11, [], .c (.d (.i (i : Int)))), (12, [], .c (.ar 9004 0)), (13, [], .c (.d (.i (c : Int))))], [(100, .box 66 [.d (.s (S [])), .d (.nil), .d (.nil)]), (202, .box 53 [.d (.sl 1 (intsD l)), .d (.i kt)]), (302, .box 66 [.d (.s (S nm)), .ar 9002 0, .ar 9003 0]), (9001, .arr 0 3 1 (ek2)), (9002, .arr 0 9 1 (ec)), (9003, .arr 0 45 1 (er)), (9004, .arr 0 42 7 (et))]⟩, c ≤ ((mK9 l).1.set 0 1).length ∧ NumOk l kt ∧ et = rowD acct ∧ acct.length = c ∧ acct ++ (rw9 l (((mK9 l).1.set 0 1).drop c) kt).1 = (rw9 l ((mK9 l).1.set 0 1) kr).1 ∧ (rw9 l (((mK9 l).1.set 0 1).drop c) kt).2 = (rw9 l ((mK9 l).1.set 0 1) kr).2)) (0, [], [], kr) (by kernel_rfl) conj0 (by kernel_rfl) (by kernel_rfl) ?_ ?_
   ·exact ⟨Nat.zero_le _, hNr, rfl, rfl, by simp, by simp⟩
   rintro ⟨c, et, acct, kt⟩ ⟨hc, hNt, het, hat, ht3, ht4⟩
   have hlen4 : et.length = c := by rw [het, rowD, List.length_map, hat]
   have hl2 : ek2.length = ((mK9 l).1.set 0 1).length := by rw [hek2, intsD, List.length_map]
   refine zc hG [] [1, 0] (decide (((c : Int) : Int) < (1 + (nxV l 0 4)))) (by kernel_rfl) conj0 (fun hc6 => ?_) (fun hc6 => ?_)
   ·(try simp only [blS] at hc6)
    refine zD hG [(19, 4, .elem (intD (((mK9 l).1.set 0 1).getD c 0))), (19, 6, .call (.c (.d (.i (nxV l kt 5)))) [] [[.sl 1 (intsD l), .i (nxK l kt 5)]]), (19, 7, .call (.agg [.d (.i ((c9 (((mK9 l).1.set 0 1).getD c 0) (nxV l kt 5)).kind)), .d (.s (S (c9 (((mK9 l).1.set 0 1).getD c 0) (nxV l kt 5)).s)), .d (.i ((c9 (((mK9 l).1.set 0 1).getD c 0) (nxV l kt 5)).dn)), .d (.i ((c9 (((mK9 l).1.set 0 1).getD c 0) (nxV l kt 5)).ds)), .d (.i ((c9 (((mK9 l).1.set 0 1).getD c 0) (nxV l kt 5)).n)), .d (.nil), .d (.nil)]) [] []), (19, 8, .mask [none, none, none, none, none, some 1, some 1])] (c + 1, et ++ [ClD (c9 (((mK9 l).1.set 0 1).getD c 0) (nxV l kt 5))], acct ++ [c9 (((mK9 l).1.set 0 1).getD c 0) (nxV l kt 5)], nxK l kt 5) (by kernel_rfl) (conjC (show (0 : Int) ≤ (c : Int) ∧ (c : Int) < ((ek2).length : Int) from (by intros; (try simp only [zq4] at *); (try simp only [zq5] at *); omega)) (conjC (show (ek2)[c]? = some (intD (((mK9 l).1.set 0 1).getD c 0)) from (by intros; rw [hek2]; exact map_nat _ (by omega))) (conjC ((next_ok l kt 5 (by (repeat (first | assumption | apply NumOk.next))) (by decide) : SpG g _ _ _ _ _)) (conjC ((cell9_ok (((mK9 l).1.set 0 1).getD c 0) (nxV l kt 5) (nxV_bd _ _ (by decide)).1 (nxV_bd _ _ (by decide)).2 : SpG g _ _ _ _ _)) (conjC (show ((et).length + (([[.i ((c9 (((mK9 l).1.set 0 1).getD c 0) (nxV l kt 5)).kind), .s (S (c9 (((mK9 l).1.set 0 1).getD c 0) (nxV l kt 5)).s), .i ((c9 (((mK9 l).1.set 0 1).getD c 0) (nxV l kt 5)).dn), .i ((c9 (((mK9 l).1.set 0 1).getD c 0) (nxV l kt 5)).ds), .i ((c9 (((mK9 l).1.set 0 1).getD c 0) (nxV l kt 5)).n), .sl 1 ([]), .sl 1 ([])]] : List (List D))).length) * (96 + 1) ≤ 140737488355328 from (by intros; (try simp only [zq4] at *); (try simp only [zq5] at *); omega)) (conj1 (show inR ((c : Int) + 1) from (by intros; (try simp only [zq4] at *); (try simp only [zq5] at *); omega)))))))) ?_ ?_
    ·(try dsimp only); omega
    ·have hjs := rw9_step (l := l) (kds := ((mK9 l).1.set 0 1)) (kk := kt) (j := c) (by omega)
     refine ⟨by omega, hNt.next _, by rw [het]; simp [rowD], by simp [hat], ?_, ?_⟩
     ·rw [← ht3, hjs]; simp
     ·rw [← ht4, hjs]
   ·(try simp only [blS] at hc6)
    refine zE hG [] (.exit 4) (⟨[(4, [], .c (.bx 100 0)), (5, [], .c (.bx 202 0)), (6, [], .c (.bx 302 0)), (7, [], .c (.d (.i (1 + (nxV l 0 4))))), (8, [], .c (.ar 9001 0)), (10, [], .c (.d (.i (nxV l kk 7)))), (11, [], .c (.d (.i (i : Int)))), (12, [], .c (.ar 9004 0))], [(100, .box 66 [.d (.s (S [])), .d (.nil), .d (.nil)]), (202, .box 53 [.d (.sl 1 (intsD l)), .d (.i kt)]), (302, .box 66 [.d (.s (S nm)), .ar 9002 0, .ar 9003 0]), (9001, .arr 0 3 1 (ek2)), (9002, .arr 0 9 1 (ec)), (9003, .arr 0 45 1 (er)), (9004, .arr 0 42 7 (et))]⟩) (by kernel_rfl) conj0 rfl ?_
    refine stepK hG (⟨[(4, [], .c (.bx 100 0)), (5, [], .c (.bx 202 0)), (6, [], .c (.bx 302 0)), (7, [], .c (.d (.i (1 + (nxV l 0 4))))), (8, [], .c (.ar 9001 0)), (10, [], .c (.d (.i (nxV l kk 7)))), (11, [], .c (.d (.i (i : Int)))), (12, [], .c (.d (.sl 7 (et))))], [(100, .box 66 [.d (.s (S [])), .d (.nil), .d (.nil)]), (202, .box 53 [.d (.sl 1 (intsD l)), .d (.i kt)]), (302, .box 66 [.d (.s (S nm)), .ar 9002 0, .ar 9003 0]), (9001, .arr 0 3 1 (ek2)), (9002, .arr 0 9 1 (ec)), (9003, .arr 0 45 1 (er))]⟩) (by kernel_rfl) ?_
    refine zD hG [] (i + 1, er ++ [[D.sl 7 et]], ek2, accr ++ [acct], kt) (by kernel_rfl) (conjC (show ((er).length + (([[.sl 7 (et)]] : List (List D))).length) * (24 + 1) ≤ 140737488355328 from (by intros; (try simp only [zq4] at *); (try simp only [zq5] at *); omega)) (conj1 (show inR ((i : Int) + 1) from (by intros; (try simp only [zq4] at *); (try simp only [zq5] at *); omega)))) ?_ ?_
    ·(try dsimp only); omega
    ·have hjs := rs9_step (l := l) (kds := ((mK9 l).1.set 0 1)) (kk := kr) (N := (nxV l (mK9 l).2 7).toNat) (j := i) (by omega)
     have hz : ((mK9 l).1.set 0 1).drop c = [] := List.drop_eq_nil_of_le (by omega)
     rw [hz] at ht3 ht4
     simp only [rw9, List.append_nil] at ht3 ht4
     refine ⟨by omega, hNt, ?_, hek2, by simp [har], ?_⟩
     ·rw [her, het]; simp [rowsD, rows1]
     ·rw [← hr3, hjs, ← ht3, ← ht4]; simp
  ·(try simp only [blS] at hc4)
   refine zE hG [] (.exit 2) (⟨[(4, [], .c (.bx 100 0)), (6, [], .c (.bx 302 0))], [(100, .box 66 [.d (.s (S [])), .d (.nil), .d (.nil)]), (302, .box 66 [.d (.s (S nm)), .ar 9002 0, .ar 9003 0]), (9002, .arr 0 9 1 (ec)), (9003, .arr 0 45 1 (er))]⟩) (by kernel_rfl) conj0 rfl ?_
   refine zR hG [] [] (.agg [.d (.s (S nm)), .d (.sl 1 (ec)), .d (.sl 1 (er))]) [] (by kernel_rfl) conj0 ?_ ?_
   ·have hzr : (nxV l (mK9 l).2 7).toNat - i = 0 := by omega
    rw [hzr] at hr3
    simp only [rs9, List.append_nil] at hr3
    rw [← hr3, ← hjm, hec, her]
   ·rfl
theorem made9_of (nm : List UInt8) (l : List Int) (es : List (List D)) (he : es = intsD l) (h : NumOk l 0) : SpG g 43 [.c (.d (.s (S nm))), .c (.d (.sl 1 es))] [] (.agg [.d (.s (S nm)), .d (.sl 1 (strs (col9L.take (mN9 l)))), .d (.sl 1 (rowsD (mR9 l)))]) [] := by
 subst he; exact made9_ok nm l h
theorem base_ok (l : List Int) (h : NumOk l 0) :
  SpG g 13 [.c (.d (.sl 1 (intsD l)))] [] (.c (.d (.sl 3 ([[D.s (S [114, 97, 116, 101, 115]), D.sl 1 (strs cols9L), D.sl 1 (rowsN (bR l).1)], [D.s (S [116, 111, 119, 110, 115]), D.sl 1 (strs (col9L.take (mN9 (bT l)))), D.sl 1 (rowsD (mR9 (bT l)))]])))) [] := by
 have a1 := nxV_bd l 0 (n := 3) (by decide)
 have a2 : (bN l : Int) = 2 + nxV l 0 3 := by unfold bN; omega
 refine enterB 64 Tryz.func13 (by kernel_rfl) fun fr hG => ?_
 refine zA hG [(3, 1, .call (.c (.d (.i (nxV l 0 3)))) [] [[.sl 1 (intsD l), .i (nxK l 0 3)]])] [0, 1, 0, 1, 1, 1, 1] (⟨[(2, [], .c (.d (.nil))), (3, [], .c (.bx 202 0)), (4, [], .c (.bx 302 0)), (5, [], .c (.d (.i (2 + (nxV l 0 3))))), (6, [], .c (.d (.i 0)))], [(202, .box 53 [.d (.sl 1 (intsD l)), .d (.i (nxK l 0 3))]), (300, .arr 0 9 1 (([[.s (S [99, 111, 100, 101])], [.s (S [114, 97, 116, 101])], [.s (S [115, 105, 110, 99, 101])], [.s (S [111, 112, 101, 110])], [.s (S [108, 97, 98, 101, 108])]] : List (List D)))), (302, .box 66 [.d (.s (S [114, 97, 116, 101, 115])), .ar 300 0, .d (.nil)])]⟩) [] [(302, 2, 9003, 45, 1)] (fun (zz : Nat × List (List D) × List (List Cl) × Int) => match zz with | (j, er, accr, kk) => (bN l - j, ⟨[(2, [], .c (.d (.nil))), (3, [], .c (.bx 202 0)), (4, [], .c (.bx 302 0)), (5, [], .c (.d (.i (2 + (nxV l 0 3))))), (6, [], .c (.d (.i (j : Int))))], [(202, .box 53 [.d (.sl 1 (intsD l)), .d (.i kk)]), (300, .arr 0 9 1 (([[.s (S [99, 111, 100, 101])], [.s (S [114, 97, 116, 101])], [.s (S [115, 105, 110, 99, 101])], [.s (S [111, 112, 101, 110])], [.s (S [108, 97, 98, 101, 108])]] : List (List D)))), (302, .box 66 [.d (.s (S [114, 97, 116, 101, 115])), .ar 300 0, .ar 9003 0]), (9003, .arr 0 45 1 (er))]⟩, j ≤ bN l ∧ NumOk l kk ∧ er = rowsN accr ∧ accr.length = j ∧ accr ++ (brs l (bN l - j) j kk).1 = (bR l).1 ∧ (brs l (bN l - j) j kk).2 = (bR l).2)) (0, [], [], nxK l 0 3) (by kernel_rfl) (conjC ((next_ok l 0 3 (by (repeat (first | assumption | apply NumOk.next))) (by decide) : SpG g _ _ _ _ _)) (conj1 (show inR (2 + (nxV l 0 3)) from (by intros; (try simp only [zq4] at *); (try simp only [zq5] at *); omega)))) (by kernel_rfl) (by kernel_rfl) ?_ ?_
 ·exact ⟨Nat.zero_le _, (by (repeat (first | assumption | apply NumOk.next))), rfl, rfl, by simp [bR], by simp [bR]⟩
 rintro ⟨j, er, accr, kk⟩ ⟨hj, hN, her, har, h3, h4⟩
 have hlen : er.length = j := by rw [her, rowsN, List.length_map, har]
 have b1 := nxV_bd l (nxK l (nxK l (nxK l kk 5) 5) 2) (n := 3) (by decide)
 refine zc hG [] [1, 0] (decide (((j : Int) : Int) < (2 + (nxV l 0 3)))) (by kernel_rfl) conj0 (fun hc2 => ?_) (fun hc2 => ?_)
 ·(try simp only [blS] at hc2)
  refine zD hG [(7, 3, .elem (strD (code9L.getD j []))), (7, 4, .call (.agg [.d (.i (((⟨1, (code9L.getD j []), 0, 0, 0⟩ : Cl)).kind)), .d (.s (S ((⟨1, (code9L.getD j []), 0, 0, 0⟩ : Cl)).s)), .d (.i (((⟨1, (code9L.getD j []), 0, 0, 0⟩ : Cl)).dn)), .d (.i (((⟨1, (code9L.getD j []), 0, 0, 0⟩ : Cl)).ds)), .d (.i (((⟨1, (code9L.getD j []), 0, 0, 0⟩ : Cl)).n)), .d (.nil), .d (.nil)]) [] []), (7, 6, .call (.c (.d (.i (nxV l kk 5)))) [] [[.sl 1 (intsD l), .i (nxK l kk 5)]]), (7, 7, .call (.agg [.d (.i ((c9 2 (nxV l kk 5)).kind)), .d (.s (S (c9 2 (nxV l kk 5)).s)), .d (.i ((c9 2 (nxV l kk 5)).dn)), .d (.i ((c9 2 (nxV l kk 5)).ds)), .d (.i ((c9 2 (nxV l kk 5)).n)), .d (.nil), .d (.nil)]) [] []), (7, 9, .call (.c (.d (.i (nxV l (nxK l kk 5) 5)))) [] [[.sl 1 (intsD l), .i (nxK l (nxK l kk 5) 5)]]), (7, 10, .call (.agg [.d (.i ((c9 3 (nxV l (nxK l kk 5) 5)).kind)), .d (.s (S (c9 3 (nxV l (nxK l kk 5) 5)).s)), .d (.i ((c9 3 (nxV l (nxK l kk 5) 5)).dn)), .d (.i ((c9 3 (nxV l (nxK l kk 5) 5)).ds)), .d (.i ((c9 3 (nxV l (nxK l kk 5) 5)).n)), .d (.nil), .d (.nil)]) [] []), (7, 12, .call (.c (.d (.i (nxV l (nxK l (nxK l kk 5) 5) 2)))) [] [[.sl 1 (intsD l), .i (nxK l (nxK l (nxK l kk 5) 5) 2)]]), (7, 14, .call (.agg [.d (.i (((⟨4, [], 0, 0, bI (decide ((nxV l (nxK l (nxK l kk 5) 5) 2 : Int) = 1))⟩ : Cl)).kind)), .d (.s (S ((⟨4, [], 0, 0, bI (decide ((nxV l (nxK l (nxK l kk 5) 5) 2 : Int) = 1))⟩ : Cl)).s)), .d (.i (((⟨4, [], 0, 0, bI (decide ((nxV l (nxK l (nxK l kk 5) 5) 2 : Int) = 1))⟩ : Cl)).dn)), .d (.i (((⟨4, [], 0, 0, bI (decide ((nxV l (nxK l (nxK l kk 5) 5) 2 : Int) = 1))⟩ : Cl)).ds)), .d (.i (((⟨4, [], 0, 0, bI (decide ((nxV l (nxK l (nxK l kk 5) 5) 2 : Int) = 1))⟩ : Cl)).n)), .d (.nil), .d (.nil)]) [] []), (7, 17, .call (.c (.d (.i (nxV l (nxK l (nxK l (nxK l kk 5) 5) 2) 3)))) [] [[.sl 1 (intsD l), .i (nxK l (nxK l (nxK l (nxK l kk 5) 5) 2) 3)]]), (7, 19, .elem (strD (lab9L.getD (nxV l (nxK l (nxK l (nxK l kk 5) 5) 2) 3 : Int).toNat []))), (7, 20, .call (.agg [.d (.i (((⟨1, (lab9L.getD (nxV l (nxK l (nxK l (nxK l kk 5) 5) 2) 3 : Int).toNat []), 0, 0, 0⟩ : Cl)).kind)), .d (.s (S ((⟨1, (lab9L.getD (nxV l (nxK l (nxK l (nxK l kk 5) 5) 2) 3 : Int).toNat []), 0, 0, 0⟩ : Cl)).s)), .d (.i (((⟨1, (lab9L.getD (nxV l (nxK l (nxK l (nxK l kk 5) 5) 2) 3 : Int).toNat []), 0, 0, 0⟩ : Cl)).dn)), .d (.i (((⟨1, (lab9L.getD (nxV l (nxK l (nxK l (nxK l kk 5) 5) 2) 3 : Int).toNat []), 0, 0, 0⟩ : Cl)).ds)), .d (.i (((⟨1, (lab9L.getD (nxV l (nxK l (nxK l (nxK l kk 5) 5) 2) 3 : Int).toNat []), 0, 0, 0⟩ : Cl)).n)), .d (.nil), .d (.nil)]) [] []), (7, 21, .elem [.nil, .nil, .nil, .nil, .nil, .nil, .nil, .nil, .nil, .nil, .nil, .nil, .nil, .nil, .nil, .nil, .nil, .nil, .nil, .nil, .nil, .nil, .nil, .nil, .nil, .nil, .nil, .nil, .nil, .nil, .nil, .nil, .nil, .nil, .nil])] (j + 1, er ++ ([[.sl 7 (([[.i (((⟨1, (code9L.getD j []), 0, 0, 0⟩ : Cl)).kind), .s (S ((⟨1, (code9L.getD j []), 0, 0, 0⟩ : Cl)).s), .i (((⟨1, (code9L.getD j []), 0, 0, 0⟩ : Cl)).dn), .i (((⟨1, (code9L.getD j []), 0, 0, 0⟩ : Cl)).ds), .i (((⟨1, (code9L.getD j []), 0, 0, 0⟩ : Cl)).n), .nil, .nil], [.i ((c9 2 (nxV l kk 5)).kind), .s (S (c9 2 (nxV l kk 5)).s), .i ((c9 2 (nxV l kk 5)).dn), .i ((c9 2 (nxV l kk 5)).ds), .i ((c9 2 (nxV l kk 5)).n), .nil, .nil], [.i ((c9 3 (nxV l (nxK l kk 5) 5)).kind), .s (S (c9 3 (nxV l (nxK l kk 5) 5)).s), .i ((c9 3 (nxV l (nxK l kk 5) 5)).dn), .i ((c9 3 (nxV l (nxK l kk 5) 5)).ds), .i ((c9 3 (nxV l (nxK l kk 5) 5)).n), .nil, .nil], [.i (((⟨4, [], 0, 0, bI (decide ((nxV l (nxK l (nxK l kk 5) 5) 2 : Int) = 1))⟩ : Cl)).kind), .s (S ((⟨4, [], 0, 0, bI (decide ((nxV l (nxK l (nxK l kk 5) 5) 2 : Int) = 1))⟩ : Cl)).s), .i (((⟨4, [], 0, 0, bI (decide ((nxV l (nxK l (nxK l kk 5) 5) 2 : Int) = 1))⟩ : Cl)).dn), .i (((⟨4, [], 0, 0, bI (decide ((nxV l (nxK l (nxK l kk 5) 5) 2 : Int) = 1))⟩ : Cl)).ds), .i (((⟨4, [], 0, 0, bI (decide ((nxV l (nxK l (nxK l kk 5) 5) 2 : Int) = 1))⟩ : Cl)).n), .nil, .nil], [.i (((⟨1, (lab9L.getD (nxV l (nxK l (nxK l (nxK l kk 5) 5) 2) 3 : Int).toNat []), 0, 0, 0⟩ : Cl)).kind), .s (S ((⟨1, (lab9L.getD (nxV l (nxK l (nxK l (nxK l kk 5) 5) 2) 3 : Int).toNat []), 0, 0, 0⟩ : Cl)).s), .i (((⟨1, (lab9L.getD (nxV l (nxK l (nxK l (nxK l kk 5) 5) 2) 3 : Int).toNat []), 0, 0, 0⟩ : Cl)).dn), .i (((⟨1, (lab9L.getD (nxV l (nxK l (nxK l (nxK l kk 5) 5) 2) 3 : Int).toNat []), 0, 0, 0⟩ : Cl)).ds), .i (((⟨1, (lab9L.getD (nxV l (nxK l (nxK l (nxK l kk 5) 5) 2) 3 : Int).toNat []), 0, 0, 0⟩ : Cl)).n), .nil, .nil]] : List (List D)))]] : List (List D)), accr ++ [brow l j kk], brk l kk) (by kernel_rfl) (conjC (show (0 : Int) ≤ (j : Int) ∧ (j : Int) < ((([[.s (S [97])], [.s (S [98])], [.s (S [97, 98])], [.s (S [49, 50])], [.s (S [97])]] : List (List D))).length : Int) from (by intros; (try simp only [zq4] at *); (try simp only [zq5] at *); omega)) (conjC (show (([[.s (S [97])], [.s (S [98])], [.s (S [97, 98])], [.s (S [49, 50])], [.s (S [97])]] : List (List D)))[j]? = some (strD (code9L.getD j [])) from (code9_at (by omega))) (conjC ((text11_ok (code9L.getD j []) : SpG g _ _ _ _ _)) (conjC ((next_ok l kk 5 (by (repeat (first | assumption | apply NumOk.next))) (by decide) : SpG g _ _ _ _ _)) (conjC ((cell9_ok 2 (nxV l kk 5) (nxV_bd _ _ (by decide)).1 (nxV_bd _ _ (by decide)).2 : SpG g _ _ _ _ _)) (conjC ((next_ok l (nxK l kk 5) 5 (by (repeat (first | assumption | apply NumOk.next))) (by decide) : SpG g _ _ _ _ _)) (conjC ((cell9_ok 3 (nxV l (nxK l kk 5) 5) (nxV_bd _ _ (by decide)).1 (nxV_bd _ _ (by decide)).2 : SpG g _ _ _ _ _)) (conjC ((next_ok l (nxK l (nxK l kk 5) 5) 2 (by (repeat (first | assumption | apply NumOk.next))) (by decide) : SpG g _ _ _ _ _)) (conjC ((truth11_ok (decide ((nxV l (nxK l (nxK l kk 5) 5) 2 : Int) = 1)) : SpG g _ _ _ _ _)) (conjC ((next_ok l (nxK l (nxK l (nxK l kk 5) 5) 2) 3 (by (repeat (first | assumption | apply NumOk.next))) (by decide) : SpG g _ _ _ _ _)) (conjC (show (0 : Int) ≤ (nxV l (nxK l (nxK l (nxK l kk 5) 5) 2) 3) ∧ (nxV l (nxK l (nxK l (nxK l kk 5) 5) 2) 3) < ((([[.s (S [111, 110, 101])], [.s (S [116, 119, 111])], [.s (S [97])]] : List (List D))).length : Int) from (by intros; (try simp only [zq4] at *); (try simp only [zq5] at *); omega)) (conjC (show (([[.s (S [111, 110, 101])], [.s (S [116, 119, 111])], [.s (S [97])]] : List (List D)))[(nxV l (nxK l (nxK l (nxK l kk 5) 5) 2) 3 : Int).toNat]? = some (strD (lab9L.getD (nxV l (nxK l (nxK l (nxK l kk 5) 5) 2) 3 : Int).toNat [])) from (lab9_at (by omega))) (conjC ((text11_ok (lab9L.getD (nxV l (nxK l (nxK l (nxK l kk 5) 5) 2) 3 : Int).toNat []) : SpG g _ _ _ _ _)) (conjC (show ((er).length + (([[.sl 7 (([[.i (((⟨1, (code9L.getD j []), 0, 0, 0⟩ : Cl)).kind), .s (S ((⟨1, (code9L.getD j []), 0, 0, 0⟩ : Cl)).s), .i (((⟨1, (code9L.getD j []), 0, 0, 0⟩ : Cl)).dn), .i (((⟨1, (code9L.getD j []), 0, 0, 0⟩ : Cl)).ds), .i (((⟨1, (code9L.getD j []), 0, 0, 0⟩ : Cl)).n), .nil, .nil], [.i ((c9 2 (nxV l kk 5)).kind), .s (S (c9 2 (nxV l kk 5)).s), .i ((c9 2 (nxV l kk 5)).dn), .i ((c9 2 (nxV l kk 5)).ds), .i ((c9 2 (nxV l kk 5)).n), .nil, .nil], [.i ((c9 3 (nxV l (nxK l kk 5) 5)).kind), .s (S (c9 3 (nxV l (nxK l kk 5) 5)).s), .i ((c9 3 (nxV l (nxK l kk 5) 5)).dn), .i ((c9 3 (nxV l (nxK l kk 5) 5)).ds), .i ((c9 3 (nxV l (nxK l kk 5) 5)).n), .nil, .nil], [.i (((⟨4, [], 0, 0, bI (decide ((nxV l (nxK l (nxK l kk 5) 5) 2 : Int) = 1))⟩ : Cl)).kind), .s (S ((⟨4, [], 0, 0, bI (decide ((nxV l (nxK l (nxK l kk 5) 5) 2 : Int) = 1))⟩ : Cl)).s), .i (((⟨4, [], 0, 0, bI (decide ((nxV l (nxK l (nxK l kk 5) 5) 2 : Int) = 1))⟩ : Cl)).dn), .i (((⟨4, [], 0, 0, bI (decide ((nxV l (nxK l (nxK l kk 5) 5) 2 : Int) = 1))⟩ : Cl)).ds), .i (((⟨4, [], 0, 0, bI (decide ((nxV l (nxK l (nxK l kk 5) 5) 2 : Int) = 1))⟩ : Cl)).n), .nil, .nil], [.i (((⟨1, (lab9L.getD (nxV l (nxK l (nxK l (nxK l kk 5) 5) 2) 3 : Int).toNat []), 0, 0, 0⟩ : Cl)).kind), .s (S ((⟨1, (lab9L.getD (nxV l (nxK l (nxK l (nxK l kk 5) 5) 2) 3 : Int).toNat []), 0, 0, 0⟩ : Cl)).s), .i (((⟨1, (lab9L.getD (nxV l (nxK l (nxK l (nxK l kk 5) 5) 2) 3 : Int).toNat []), 0, 0, 0⟩ : Cl)).dn), .i (((⟨1, (lab9L.getD (nxV l (nxK l (nxK l (nxK l kk 5) 5) 2) 3 : Int).toNat []), 0, 0, 0⟩ : Cl)).ds), .i (((⟨1, (lab9L.getD (nxV l (nxK l (nxK l (nxK l kk 5) 5) 2) 3 : Int).toNat []), 0, 0, 0⟩ : Cl)).n), .nil, .nil]] : List (List D)))]] : List (List D))).length) * (24 + 1) ≤ 140737488355328 from (by intros; (try simp only [zq4] at *); (try simp only [zq5] at *); omega)) (conj1 (show inR ((j : Int) + 1) from (by intros; (try simp only [zq4] at *); (try simp only [zq5] at *); omega))))))))))))))))) ?_ ?_
  ·(try dsimp only); omega
  ·have hjs := brs_step (l := l) (kk := kk) (N := bN l) (j := j) (by omega)
   refine ⟨by omega, (((hN.next _).next _).next _).next _, ?_, by simp [har], ?_, ?_⟩
   ·rw [her]; simp [rowsN, rowN1, rowN, brow, ClN, strD]
   ·rw [← h3, hjs]; simp
   ·rw [← h4, hjs]
 ·(try simp only [blS] at hc2)
  have hjm : j = bN l := by unfold bN; omega
  have hz0 : bN l - j = 0 := by omega
  rw [hz0] at h3 h4
  simp only [brs, List.append_nil] at h3 h4
  have e1 : (bR l).1 = accr := h3.symm
  have e2 : kk = (bR l).2 := h4
  refine zE hG [] (.exit 0) (⟨[(2, [], .c (.d (.nil))), (3, [], .c (.bx 202 0)), (4, [], .c (.bx 302 0))], [(202, .box 53 [.d (.sl 1 (intsD l)), .d (.i kk)]), (300, .arr 0 9 1 (([[.s (S [99, 111, 100, 101])], [.s (S [114, 97, 116, 101])], [.s (S [115, 105, 110, 99, 101])], [.s (S [111, 112, 101, 110])], [.s (S [108, 97, 98, 101, 108])]] : List (List D)))), (302, .box 66 [.d (.s (S [114, 97, 116, 101, 115])), .ar 300 0, .ar 9003 0]), (9003, .arr 0 45 1 (er))]⟩) (by kernel_rfl) conj0 rfl ?_
  refine zA hG [] [0, 1, 0, 1, 1, 1, 1, 1, 1] (⟨[(2, [], .c (.d (.nil))), (3, [], .c (.bx 202 0)), (4, [], .c (.bx 302 0)), (8, [], .c (.d (.nil))), (9, [], .c (.d (.i 0)))], [(202, .box 53 [.d (.sl 1 (intsD l)), .d (.i kk)]), (300, .arr 0 9 1 (([[.s (S [99, 111, 100, 101])], [.s (S [114, 97, 116, 101])], [.s (S [115, 105, 110, 99, 101])], [.s (S [111, 112, 101, 110])], [.s (S [108, 97, 98, 101, 108])]] : List (List D)))), (302, .box 66 [.d (.s (S [114, 97, 116, 101, 115])), .ar 300 0, .ar 9003 0]), (9003, .arr 0 45 1 (er))]⟩) [(8, 9005, 3, 1)] [] (fun (zz : Nat × List (List D) × List Int × Int) => match zz with | (i, es, acc, kq) => (12 - i, ⟨[(2, [], .c (.d (.nil))), (3, [], .c (.bx 202 0)), (4, [], .c (.bx 302 0)), (8, [], .c (.ar 9005 0)), (9, [], .c (.d (.i (i : Int))))], [(202, .box 53 [.d (.sl 1 (intsD l)), .d (.i kq)]), (300, .arr 0 9 1 (([[.s (S [99, 111, 100, 101])], [.s (S [114, 97, 116, 101])], [.s (S [115, 105, 110, 99, 101])], [.s (S [111, 112, 101, 110])], [.s (S [108, 97, 98, 101, 108])]] : List (List D)))), (302, .box 66 [.d (.s (S [114, 97, 116, 101, 115])), .ar 300 0, .ar 9003 0]), (9003, .arr 0 45 1 (er)), (9005, .arr 0 3 1 (es))]⟩, i ≤ 12 ∧ NumOk l kq ∧ es = intsD acc ∧ acc.length = i ∧ acc ++ (rest9 l (12 - i) kq).1 = bT l)) (0, [], [], kk) (by kernel_rfl) conj0 (by kernel_rfl) (by kernel_rfl) ?_ ?_
  ·exact ⟨Nat.zero_le _, hN, rfl, rfl, by rw [e2]; simp [bT]⟩
  rintro ⟨i, es, acc, kq⟩ ⟨hi, hNq, hes, has, hr3⟩
  have hlen5 : es.length = i := by rw [hes, intsD, List.length_map, has]
  refine zc hG [] [1, 0] (decide (((i : Int) : Int) < 12)) (by kernel_rfl) conj0 (fun hc4 => ?_) (fun hc4 => ?_)
  ·(try simp only [blS] at hc4)
   refine zD hG [(13, 2, .call (.c (.d (.i (nxV l kq 5040)))) [] [[.sl 1 (intsD l), .i (nxK l kq 5040)]])] (i + 1, es ++ [[D.i (nxV l kq 5040)]], acc ++ [nxV l kq 5040], nxK l kq 5040) (by kernel_rfl) (conjC ((next_ok l kq 5040 (by (repeat (first | assumption | apply NumOk.next))) (by decide) : SpG g _ _ _ _ _)) (conjC (show ((es).length + (([[.i (nxV l kq 5040)]] : List (List D))).length) * (8 + 1) ≤ 140737488355328 from (by intros; (try simp only [zq4] at *); (try simp only [zq5] at *); omega)) (conj1 (show inR ((i : Int) + 1) from (by intros; (try simp only [zq4] at *); (try simp only [zq5] at *); omega))))) ?_ ?_
   ·(try dsimp only); omega
   ·have hjs := rest9_step (l := l) (kk := kq) (N := 12) (j := i) (by omega)
    refine ⟨by omega, hNq.next _, by rw [hes]; simp [intsD, intD], by simp [has], ?_⟩
    rw [← hr3, hjs]; simp
  ·(try simp only [blS] at hc4)
   have him : i = 12 := by omega
   subst him
   simp only [Nat.sub_self, rest9, List.append_nil] at hr3
   have hrl : (bT l).length = 12 := by rw [← hr3]; exact has
   refine zE hG [] (.exit 2) (⟨[(2, [], .c (.d (.nil))), (4, [], .c (.bx 302 0)), (8, [], .c (.ar 9005 0))], [(300, .arr 0 9 1 (([[.s (S [99, 111, 100, 101])], [.s (S [114, 97, 116, 101])], [.s (S [115, 105, 110, 99, 101])], [.s (S [111, 112, 101, 110])], [.s (S [108, 97, 98, 101, 108])]] : List (List D)))), (302, .box 66 [.d (.s (S [114, 97, 116, 101, 115])), .ar 300 0, .ar 9003 0]), (9003, .arr 0 45 1 (er)), (9005, .arr 0 3 1 (es))]⟩) (by kernel_rfl) conj0 rfl ?_
   refine stepK hG (⟨[(2, [], .c (.d (.nil))), (4, [], .c (.bx 302 0)), (8, [], .c (.d (.sl 1 (es))))], [(300, .arr 0 9 1 (([[.s (S [99, 111, 100, 101])], [.s (S [114, 97, 116, 101])], [.s (S [115, 105, 110, 99, 101])], [.s (S [111, 112, 101, 110])], [.s (S [108, 97, 98, 101, 108])]] : List (List D)))), (302, .box 66 [.d (.s (S [114, 97, 116, 101, 115])), .ar 300 0, .ar 9003 0]), (9003, .arr 0 45 1 (er))]⟩) (by kernel_rfl) ?_
   refine stepK hG (⟨[(2, [], .c (.d (.nil))), (4, [], .c (.bx 302 0)), (8, [], .c (.d (.sl 1 (es))))], [(302, .box 66 [.d (.s (S [114, 97, 116, 101, 115])), .d (.sl 1 (([[.s (S [99, 111, 100, 101])], [.s (S [114, 97, 116, 101])], [.s (S [115, 105, 110, 99, 101])], [.s (S [111, 112, 101, 110])], [.s (S [108, 97, 98, 101, 108])]] : List (List D)))), .ar 9003 0]), (9003, .arr 0 45 1 (er))]⟩) (by kernel_rfl) ?_
   refine stepK hG (⟨[(2, [], .c (.d (.nil))), (4, [], .c (.bx 302 0)), (8, [], .c (.d (.sl 1 (es))))], [(302, .box 66 [.d (.s (S [114, 97, 116, 101, 115])), .d (.sl 1 (([[.s (S [99, 111, 100, 101])], [.s (S [114, 97, 116, 101])], [.s (S [115, 105, 110, 99, 101])], [.s (S [111, 112, 101, 110])], [.s (S [108, 97, 98, 101, 108])]] : List (List D)))), .d (.sl 1 (er))])]⟩) (by kernel_rfl) ?_
   refine zR hG [(14, 2, .call (.agg [.d (.s (S [116, 111, 119, 110, 115])), .d (.sl 1 (strs (col9L.take (mN9 (bT l))))), .d (.sl 1 (rowsD (mR9 (bT l))))]) [] [])] [] (.c (.d (.sl 3 (([[.s (S [114, 97, 116, 101, 115]), .sl 1 (([[.s (S [99, 111, 100, 101])], [.s (S [114, 97, 116, 101])], [.s (S [115, 105, 110, 99, 101])], [.s (S [111, 112, 101, 110])], [.s (S [108, 97, 98, 101, 108])]] : List (List D))), .sl 1 (er)], [.s (S [116, 111, 119, 110, 115]), .sl 1 (strs (col9L.take (mN9 (bT l)))), .sl 1 (rowsD (mR9 (bT l)))]] : List (List D)))))) [] (by kernel_rfl) (conj1 ((made9_of [116, 111, 119, 110, 115] (bT l) es (by rw [hes, hr3]) ⟨by omega, by omega, by rw [hrl]; decide⟩ : SpG g _ _ _ _ _))) ?_ ?_
   ·rw [e1, her]; rfl
   ·rfl
theorem tabName_ok (nm : List UInt8) (hn : nm.length ≤ maxLen) :
  SpG g 161 [.c (.d (.s (S nm)))] [] (.c (.d (.b (rightB ⟨5, [], 0, 0, 0, [nm], []⟩)))) [] := by
 refine enterB 7 Tryz.func161 (by kernel_rfl) fun fr hG => ?_
 exact zr hG [(1, 3, .call (.c (.d (.b (rightB ⟨5, [], 0, 0, 0, [nm], []⟩)))) [] [])] [] (by kernel_rfl) (conj1 ((spec_mask (ins := [.agg [.d (.i 5), .d (.s (S [])), .d (.i 0), .d (.i 0), .d (.i 0), .d (.sl 1 (([[.s (S nm)]] : List (List D)))), .d (.nil)]]) [[none, none, none, none, none, none, some 1]] (right_ok ⟨5, [], 0, 0, 0, [nm], []⟩ ⟨by simp [maxLen], by simpa using hn, by simp⟩) : SpG g _ _ _ _ _)))
def zq6 := And.intro @List.length_map.{0, 0} (And.intro @blS (And.intro @rowD.eq_1 (And.intro @rowsD.eq_1 (@strs.eq_1))))
theorem tabRight_ok (nm : List UInt8) (cols : List (List UInt8)) (rows : List (List Cl)) (K : Nat → Int) (hn : nm.length ≤ maxLen) (h1 : rightB ⟨5, [], 0, 0, 0, [nm], []⟩ = true) (h2 : 1 ≤ cols.length) (hb : rows.length ≤ 1000) (hb2 : cols.length ≤ 1000) (hf : Vl.fit ⟨5, [], 0, 0, 0, cols, rows⟩) (h3 : rightB ⟨5, [], 0, 0, 0, cols, rows⟩ = true) (hw : ∀ i, i < rows.length → (rows.getD i []).length = cols.length) (hk : ∀ i c, i < rows.length → c < cols.length → ((rows.getD i []).getD c Cl.z).kind = 0 ∨ ((rows.getD i []).getD c Cl.z).kind = K c) :
  SpG g 79 [.agg [.d (.s (S nm)), .d (.sl 1 (strs cols)), .d (.sl 1 (rowsD rows))]] [] (.c (.d (.b true))) [] := by
 refine enterB 61 Tryz.func79 (by kernel_rfl) fun fr hG => ?_
 refine zC hG [(1, 2, .call (.c (.d (.b (rightB ⟨5, [], 0, 0, 0, [nm], []⟩)))) [] [])] [1, 0, 1] ((!(rightB ⟨5, [], 0, 0, 0, [nm], []⟩)) || (decide ((((strs cols).length : Int) : Int) = 0))) (⟨[(1, [], .c (.bx 100 0)), (2, [], .c (.d (.b false)))], [(100, .box 66 [.d (.s (S nm)), .d (.sl 1 (strs cols)), .d (.sl 1 (rowsD rows))])]⟩) (by kernel_rfl) (conj1 ((tabName_ok nm hn : SpG g _ _ _ _ _))) (fun hc1 => ?_) (fun hc1 => ?_)
 ·(try simp only [zq6] at hc1)
  exfalso; simp [h1, strs] at hc1; simp [hc1] at h2
 ·(try simp only [zq6] at hc1)
  refine zc hG [(3, 5, .call (.c (.d (.b (rightB ⟨5, [], 0, 0, 0, cols, rows⟩)))) [] [])] [1, 0, 1, 1] (!(rightB ⟨5, [], 0, 0, 0, cols, rows⟩)) (by kernel_rfl) (conj1 ((right_ok ⟨5, [], 0, 0, 0, cols, rows⟩ hf : SpG g _ _ _ _ _))) (fun hc2 => ?_) (fun hc2 => ?_)
  ·(try simp only [zq6] at hc2)
   exfalso; simp [h3] at hc2
  ·(try simp only [zq6] at hc2)
   refine zL hG [] [0, 1, 0, 1, 1, 1] (fun (zz : Nat) => match zz with | c => (cols.length - c, ⟨[(1, [], .c (.bx 100 0)), (2, [], .c (.d (.b false))), (26, [], .c (.d (.i ((strs cols).length : Int)))), (27, [], .c (.d (.i (c : Int))))], [(100, .box 66 [.d (.s (S nm)), .d (.sl 1 (strs cols)), .d (.sl 1 (rowsD rows))])]⟩, c ≤ cols.length)) 0 (by kernel_rfl) conj0 (by kernel_rfl) ?_ ?_
   ·exact Nat.zero_le _
   rintro c hc
   refine zc hG [] [0, 1] (decide (((c : Int) : Int) < ((strs cols).length : Int))) (by kernel_rfl) conj0 (fun hc4 => ?_) (fun hc4 => ?_)
   ·(try simp only [zq6] at hc4)
    refine zL hG [] [0, 1, 1, 1, 0, 0, 1, 1] (fun (zz : Nat × Int) => match zz with | (i, kd) => (rows.length - i, ⟨[(1, [], .c (.bx 100 0)), (2, [], .c (.d (.b false))), (3, [], .c (.d (.i (c : Int)))), (4, [], .c (.d (.i kd))), (26, [], .c (.d (.i ((strs cols).length : Int)))), (27, [], .c (.d (.i (c : Int)))), (31, [], .c (.d (.sl 1 (rowsD rows)))), (32, [], .c (.d (.i ((rowsD rows).length : Int)))), (33, [], .c (.d (.i (i : Int))))], [(100, .box 66 [.d (.s (S nm)), .d (.sl 1 (strs cols)), .d (.sl 1 (rowsD rows))])]⟩, i ≤ rows.length ∧ (kd = 0 ∨ kd = K c))) (0, 0) (by kernel_rfl) conj0 (by kernel_rfl) ?_ ?_
    ·exact ⟨Nat.zero_le _, .inl rfl⟩
    rintro ⟨i, kd⟩ ⟨hi, hkd⟩
    refine zc hG [] [0, 1] (decide (((i : Int) : Int) < ((rowsD rows).length : Int))) (by kernel_rfl) conj0 (fun hc6 => ?_) (fun hc6 => ?_)
    ·(try simp only [zq6] at hc6)
     have hww := hw i (by omega)
     refine zC hG [(11, 0, .elem (rows1 ((rows).getD i []))), (12, 2, .elem (ClD (((rows).getD i []).getD c Cl.z)))] [1, 0, 1, 0, 0, 1, 1] (decide (((((rows).getD i []).getD c Cl.z).kind : Int) = 0)) (⟨[(1, [], .c (.bx 100 0)), (2, [], .c (.d (.b false))), (3, [], .c (.d (.i (c : Int)))), (4, [], .c (.d (.i kd))), (6, [], .c (.d (.sl 7 (rowD ((rows).getD i []))))), (26, [], .c (.d (.i ((strs cols).length : Int)))), (27, [], .c (.d (.i (c : Int)))), (31, [], .c (.d (.sl 1 (rowsD rows)))), (32, [], .c (.d (.i ((rowsD rows).length : Int)))), (33, [], .c (.d (.i (i : Int))))], [(100, .box 66 [.d (.s (S nm)), .d (.sl 1 (strs cols)), .d (.sl 1 (rowsD rows))])]⟩) (by kernel_rfl) (conjC (show (0 : Int) ≤ (i : Int) ∧ (rowsD rows)[i]? = some (rows1 ((rows).getD i [])) from (by intros; exact map_at _ (by omega) (by (try simp only [zq2] at *); omega))) (conj1 (show (0 : Int) ≤ (c : Int) ∧ (rowD ((rows).getD i []))[c]? = some (ClD (((rows).getD i []).getD c Cl.z)) from (by intros; exact map_at _ (by omega) (by (try simp only [zq2] at *); omega))))) (fun hc7 => ?_) (fun hc7 => ?_)
     ·(try simp only [zq6] at hc7)
      refine zD hG [] (i + 1, kd) (by kernel_rfl) (conj1 (show inR ((i : Int) + 1) from (by intros; (try simp only [zq3] at *); omega))) ?_ ?_
      ·(try dsimp only); omega
      ·exact ⟨by omega, hkd⟩
     ·(try simp only [zq6] at hc7)
      refine zc hG [(13, 6, .elem (ClD (((rows).getD i []).getD c Cl.z)))] [1, 0, 1, 1, 0, 0, 1, 1] ((!decide ((kd : Int) = 0)) && (!decide ((kd : Int) = ((((rows).getD i []).getD c Cl.z).kind)))) (by kernel_rfl) (conj1 (show (!decide ((kd : Int) = 0)) = true → (0 : Int) ≤ (c : Int) ∧ (rowD ((rows).getD i []))[c]? = some (ClD (((rows).getD i []).getD c Cl.z)) from (by intros; exact map_at _ (by omega) (by (try simp only [zq2] at *); omega)))) (fun hc8 => ?_) (fun hc8 => ?_)
      ·(try simp only [zq6] at hc8)
       exfalso; have := hk i c (by omega) (by omega); omega
      ·(try simp only [zq6] at hc8)
       refine zD hG [(15, 2, .elem (ClD (((rows).getD i []).getD c Cl.z)))] (i + 1, ((rows.getD i []).getD c Cl.z).kind) (by kernel_rfl) (conjC (show (0 : Int) ≤ (c : Int) ∧ (rowD ((rows).getD i []))[c]? = some (ClD (((rows).getD i []).getD c Cl.z)) from (by intros; exact map_at _ (by omega) (by (try simp only [zq2] at *); omega))) (conj1 (show inR ((i : Int) + 1) from (by intros; (try simp only [zq3] at *); omega)))) ?_ ?_
       ·(try dsimp only); omega
       ·exact ⟨by omega, hk i c (by omega) (by omega)⟩
    ·(try simp only [zq6] at hc6)
     refine zE hG [] (.exit 2) (⟨[(1, [], .c (.bx 100 0)), (2, [], .c (.d (.b false))), (26, [], .c (.d (.i ((strs cols).length : Int)))), (27, [], .c (.d (.i (c : Int))))], [(100, .box 66 [.d (.s (S nm)), .d (.sl 1 (strs cols)), .d (.sl 1 (rowsD rows))])]⟩) (by kernel_rfl) conj0 rfl ?_
     refine zD hG [] (c + 1) (by kernel_rfl) (conj1 (show inR ((c : Int) + 1) from (by intros; (try simp only [zq3] at *); omega))) ?_ ?_
     ·(try dsimp only); omega
     ·show _ ≤ _; omega
   ·(try simp only [zq6] at hc4)
    refine zE hG [] (.exit 0) (⟨[(2, [], .c (.d (.b false)))], []⟩) (by kernel_rfl) conj0 rfl ?_
    exact zr hG [] [] (by kernel_rfl) conj0
end Go.Proofs.YtdejnaokkdndeaaGreatDoor
namespace Go.Proofs.YtdejnaokkdndeaaGreatDoor
open Go.RowKit Go.V
variable {m : Int}
def Wk (d d' : D) : Prop := ∀ (w : World) (F : Nat → Prop) (v : Value), Rd w F d v → Rd w F d' v
theorem Wk.refl (d : D) : Wk d d := fun _ _ _ h => h
theorem Wk.nil (sz : Nat) : Wk .nil (.sl sz []) := fun w F v h => by
 have : v = .slice none 0 0 := Rd.exact h
 rw [this]; exact .nil sz
theorem Wk.sl {sz : Nat} {es es' : List (List D)} (h : All2 (All2 Wk) es es') : Wk (.sl sz es) (.sl sz es') := fun w F v hv => by
 have hl : es.length = es'.length := h.1
 cases hv with
 | nil => have : es' = [] := List.eq_nil_of_length_eq_zero hl.symm; rw [this]; exact .nil sz
 | far _ a => have : es' = [] := List.eq_nil_of_length_eq_zero hl.symm; rw [this]; exact .far sz a
 | sl us hF hb hc hm hs hu hr =>
  have back : ∀ {i j : Nat} {ds' : List D} {d' : D}, es'[i]? = some ds' → ds'[j]? = some d' → ∃ ds d, es[i]? = some ds ∧ ds[j]? = some d ∧ Wk d d' := fun {i j ds' d'} hi hj => by
   have hi2 : i < es.length := by have := (List.getElem?_eq_some_iff.1 hi).1; omega
   have h2 := h.2 i es[i] ds' (List.getElem?_eq_getElem hi2) hi
   have hj2 : j < es[i].length := by have := (List.getElem?_eq_some_iff.1 hj).1; have := h2.1; omega
   exact ⟨es[i], es[i][j], List.getElem?_eq_getElem hi2, List.getElem?_eq_getElem hj2, h2.2 j _ d' (List.getElem?_eq_getElem hj2) hj⟩
  rw [hl]
  refine Rd.sl us hF hb (hl ▸ hc) hm (fun ds' hds => ?_) (fun i j ds' d' hi hj => ?_) (fun i j ds' d' hi hj => ?_)
  ·obtain ⟨i, hi⟩ := List.mem_iff_getElem?.1 hds
   have hi2 : i < es.length := by have := (List.getElem?_eq_some_iff.1 hi).1; omega
   have h2 := h.2 i es[i] ds' (List.getElem?_eq_getElem hi2) hi
   rw [← h2.1]; exact hs _ (List.getElem_mem hi2)
  ·obtain ⟨ds, d, a, b, _⟩ := back hi hj; exact hu i j ds d a b
  ·obtain ⟨ds, d, a, b, c⟩ := back hi hj; exact c _ _ _ (hr i j ds d a b)
def WkS (x y : SV) : Prop := ∀ (w : World) (pl : Pl) (own : V.Own) (v : Value), SvOk w pl own x v → SvOk w pl own y v
theorem All2.trans2 {α β γ : Type} {R : α → γ → Prop} {S : β → γ → Prop} {Q : α → β → Prop} {xs : List α} {ys : List β} {zs : List γ} (h : All2 Q xs ys) (h1 : All2 R xs zs) (hf : ∀ x y z, Q x y → R x z → S y z) : All2 S ys zs :=
 ⟨h.1.symm.trans h1.1, fun j y z hy hz => by
  have hj : j < xs.length := by have := (List.getElem?_eq_some_iff.1 hy).1; have := h.1; omega
  exact hf _ _ _ (h.2 j xs[j] y (List.getElem?_eq_getElem hj) hy) (h1.2 j xs[j] z (List.getElem?_eq_getElem hj) hz)⟩
theorem WkS.agg {ds ds' : List D} (h : All2 Wk ds ds') : WkS (.agg (ds.map .d)) (.agg (ds'.map .d)) := fun w pl own v hv => by
 obtain ⟨vs, rfl, h2⟩ := hv
 refine ⟨vs, rfl, ?_⟩
 have h3 : All2 (fun d v => Rd w (Sh pl own) d v) ds vs := ⟨by have := h2.1; simpa using this, fun j d v hd hv => h2.2 j (.d d) v (by simp [hd]) hv⟩
 have h4 : All2 (fun d v => Rd w (Sh pl own) d v) ds' vs := All2.trans2 h h3 fun x y z q r => q _ _ _ r
 exact h4.mapL fun x y r => r
theorem spec_wk {P : Program} {G : List (Nat × List Value)} {f : FuncId} {xs ys : List SV} {refs post : List (Nat × Ob)} {out : SV} (h : All2 WkS xs ys) (hs : V.Spec P G f ys refs out post) : V.Spec P G f xs refs out post :=
 fun fr w pl args hw hG hm ha => hs fr w pl args hw hG hm (All2.trans2 h ha fun x y z q r => q _ _ _ _ r)
theorem All2.map2 {α β γ : Type} {R : β → γ → Prop} {f : α → β} {g : α → γ} (l : List α) (h : ∀ x, R (f x) (g x)) : All2 R (l.map f) (l.map g) :=
 ⟨by simp, fun j x y hx hy => by
  rw [List.getElem?_map] at hx hy
  cases hj : l[j]? with
  | none => rw [hj] at hx; cases hx
  | some z =>
   rw [hj] at hx hy
   simp only [Option.map_some, Option.some.injEq] at hx hy
   subst hx; subst hy; exact h z⟩
def ClK (c : Cl) : List D := [.i c.kind, .s (S c.s), .i c.dn, .i c.ds, .i c.n, .nil, .sl 1 []]
def rowsF (f : Cl → List D) (rows : List (List Cl)) : List (List D) := rows.map fun r => [.sl 7 (r.map f)]
theorem all2_7 {R : D → D → Prop} {a b c d e f g a' b' c' d' e' f' g' : D} (h1 : R a a') (h2 : R b b') (h3 : R c c') (h4 : R d d') (h5 : R e e') (h6 : R f f') (h7 : R g g') : All2 R [a, b, c, d, e, f, g] [a', b', c', d', e', f', g'] :=
 All2.cons h1 (All2.cons h2 (All2.cons h3 (All2.cons h4 (All2.cons h5 (All2.cons h6 (All2.one h7))))))
theorem wkN (c : Cl) : All2 Wk (ClN c) (ClD c) := all2_7 (Wk.refl _) (Wk.refl _) (Wk.refl _) (Wk.refl _) (Wk.refl _) (Wk.nil 1) (Wk.nil 1)
theorem wkK (c : Cl) : All2 Wk (ClK c) (ClD c) := all2_7 (Wk.refl _) (Wk.refl _) (Wk.refl _) (Wk.refl _) (Wk.refl _) (Wk.nil 1) (Wk.refl _)
def CellF (f : Cl → List D) : Prop := ∀ c, All2 Wk (f c) (ClD c)
theorem wkRows {f : Cl → List D} (hf : CellF f) (rows : List (List Cl)) : Wk (.sl 1 (rowsF f rows)) (.sl 1 (rowsD rows)) :=
 Wk.sl (All2.map2 rows fun r => All2.one (Wk.sl (All2.map2 r fun c => hf c)))
def tabF (f : Cl → List D) (cols : List (List UInt8)) (rows : List (List Cl)) : SV := .agg [.d (.i 5), .d (.s (S [])), .d (.i 0), .d (.i 0), .d (.i 0), .d (.sl 1 (strs cols)), .d (.sl 1 (rowsF f rows))]
theorem wkTab {f : Cl → List D} (hf : CellF f) (cols : List (List UInt8)) (rows : List (List Cl)) : WkS (tabF f cols rows) (vArg ⟨5, [], 0, 0, 0, cols, rows⟩) :=
 WkS.agg (ds := [.i 5, .s (S []), .i 0, .i 0, .i 0, .sl 1 (strs cols), .sl 1 (rowsF f rows)]) (ds' := [.i 5, .s (S []), .i 0, .i 0, .i 0, .sl 1 (strs cols), .sl 1 (rowsD rows)])
  (all2_7 (Wk.refl _) (Wk.refl _) (Wk.refl _) (Wk.refl _) (Wk.refl _) (Wk.refl _) (wkRows hf rows))
def cellF (f : Cl → List D) (c : Cl) : SV := .agg ((f c).map .d)
theorem wkCell {f : Cl → List D} (hf : CellF f) (c : Cl) : WkS (cellF f c) (vArg c.toV) := WkS.agg (ds' := ClD c) (hf c)
def lookF (f : Cl → List D) (nm : List UInt8) (cols : List (List UInt8)) (rows : List (List Cl)) : SV := .agg [.d (.s (S nm)), .d (.sl 1 (strs cols)), .d (.sl 1 (rowsF f rows))]
theorem wkLook {f : Cl → List D} (hf : CellF f) (nm : List UInt8) (cols : List (List UInt8)) (rows : List (List Cl)) : WkS (lookF f nm cols rows) (.agg [.d (.s (S nm)), .d (.sl 1 (strs cols)), .d (.sl 1 (rowsD rows))]) :=
 WkS.agg (ds := [.s (S nm), .sl 1 (strs cols), .sl 1 (rowsF f rows)]) (ds' := [.s (S nm), .sl 1 (strs cols), .sl 1 (rowsD rows)]) (All2.cons (Wk.refl _) (All2.cons (Wk.refl _) (All2.one (wkRows hf rows))))
def RightOk (ins : List SV) : Prop := ∃ v : Vl, All2 WkS ins [vArg v] ∧ rightB v = true ∧ v.fit
def EqOk (ins : List SV) : Prop := ∃ v : Vl, All2 WkS ins [vArg v, vArg v]
def TabOk (ins : List SV) : Prop := ∃ (nm : List UInt8) (cols : List (List UInt8)) (rows : List (List Cl)) (K : Nat → Int), All2 WkS ins [.agg [.d (.s (S nm)), .d (.sl 1 (strs cols)), .d (.sl 1 (rowsD rows))]] ∧
 nm.length ≤ maxLen ∧ rightB ⟨5, [], 0, 0, 0, [nm], []⟩ = true ∧ 1 ≤ cols.length ∧ rows.length ≤ 1000 ∧ cols.length ≤ 1000 ∧ Vl.fit ⟨5, [], 0, 0, 0, cols, rows⟩ ∧ rightB ⟨5, [], 0, 0, 0, cols, rows⟩ = true ∧
 (∀ i, i < rows.length → (rows.getD i []).length = cols.length) ∧ (∀ i c, i < rows.length → c < cols.length → ((rows.getD i []).getD c Cl.z).kind = 0 ∨ ((rows.getD i []).getD c Cl.z).kind = K c)
def baseV (l : List Int) : SV := .c (.d (.sl 3 [[.s (S [114, 97, 116, 101, 115]), .sl 1 (strs cols9L), .sl 1 (rowsF ClN (bR l).1)], [.s (S [116, 111, 119, 110, 115]), .sl 1 (strs (col9L.take (mN9 (bT l)))), .sl 1 (rowsD (mR9 (bT l)))]]))
def BaseOk (es : List (List D)) (b : SV) : Prop := ∃ l, es = intsD l ∧ NumOk l 0 ∧ b = baseV l
def aYes (P : List SV → Prop) : Ask := fun _ ins refs => match refs with
 | [] => some (.c (.d (.b true)), [], [P ins])
 | _ => none
def aBase (b : SV) : Ask := fun _ ins refs => match ins, refs with
 | [.c (.d (.sl 1 es))], [] => some (b, [], [BaseOk es b])
 | _, _ => none
def eRightT : Ent Tryz.prog (Gl (gT m)) where
 f := 20
 ask := aYes RightOk
 ok := by
  intro k ins refs post out cs h hc
  unfold aYes at h
  split at h
  ·cases h
   obtain ⟨v, c1, c2, c3⟩ : RightOk ins := hc
   have := right_ok (g := gT m) v c3
   rw [c2] at this
   exact spec_wk c1 this
  ·cases h
def eTabT : Ent Tryz.prog (Gl (gT m)) where
 f := 79
 ask := aYes TabOk
 ok := by
  intro k ins refs post out cs h hc
  unfold aYes at h
  split at h
  ·cases h
   obtain ⟨nm, cols, rows, K, c1, c2, c3, c4, c5, c6, c7, c8, c9, c10⟩ : TabOk ins := hc
   exact spec_wk c1 (tabRight_ok (g := gT m) nm cols rows K c2 c3 c4 c5 c6 c7 c8 c9 c10)
  ·cases h
def eEqT : Ent Tryz.prog (Gl (gT m)) where
 f := 19
 ask := aYes EqOk
 ok := by
  intro k ins refs post out cs h hc
  unfold aYes at h
  split at h
  ·cases h
   obtain ⟨v, c1⟩ : EqOk ins := hc
   have := refEqual_ok (g := gT m) v v
   rw [decide_eq_true rfl] at this
   exact spec_wk c1 this
  ·cases h
def eBaseT (b : SV) : Ent Tryz.prog (Gl (gT m)) where
 f := 13
 ask := aBase b
 ok := by
  intro k ins refs post out cs h hc
  unfold aBase at h
  split at h
  ·rename_i es
   cases h
   obtain ⟨l, rfl, c2, c3⟩ : BaseOk es b := hc
   rw [c3]
   exact base_ok (g := gT m) l c2
  ·cases h
def mkT (l : List Nat) (j : Nat) (v : Int) : Nat → Option Value := fun k => bif l.any (Nat.beq k) then some .nilIface else bif Nat.beq k j then some (.int .i64 v) else none
def orcT (j : Nat) : Nat → Option Bool := fun k => bif Nat.beq k j then some true else none
def rowB (code : List UInt8) (a b c : Cl) (l : List UInt8) : List Cl := [⟨1, code, 0, 0, 0⟩, a, b, c, ⟨1, l, 0, 0, 0⟩]
def rowsB (nu da bo : Nat → Cl) (lb : Nat → List UInt8) : Nat → List (List Cl)
 | 2 => [rowB [97] (nu 0) (da 0) (bo 0) (lb 0), rowB [98] (nu 1) (da 1) (bo 1) (lb 1)]
 | 3 => [rowB [97] (nu 0) (da 0) (bo 0) (lb 0), rowB [98] (nu 1) (da 1) (bo 1) (lb 1), rowB [97, 98] (nu 2) (da 2) (bo 2) (lb 2)]
 | _ => [rowB [97] (nu 0) (da 0) (bo 0) (lb 0), rowB [98] (nu 1) (da 1) (bo 1) (lb 1), rowB [97, 98] (nu 2) (da 2) (bo 2) (lb 2), rowB [49, 50] (nu 3) (da 3) (bo 3) (lb 3)]
def ratesN : List UInt8 := [114, 97, 116, 101, 115]
def baseB (rows : List (List Cl)) (tc tr : List (List D)) : SV := .c (.d (.sl 3 [[.s (S ratesN), .sl 1 (strs cols9L), .sl 1 (rowsF ClN rows)], [.s (S [116, 111, 119, 110, 115]), .sl 1 tc, .sl 1 tr]]))
structure OneK (m : Int) (f : FuncId) where
 k : Nat
 ins : List SV
 out : SV
 ok : V.Spec Tryz.prog (Gl (gT m)) f ins [] out []
def oneOf {f : FuncId} : List (OneK m f) → Nat → Option (OneK m f)
 | [], _ => none
 | e :: r, k => bif Nat.beq k e.k then some e else oneOf r k
def eKey (f : FuncId) (L : List (OneK m f)) : Ent Tryz.prog (Gl (gT m)) where
 f := f
 ask := fun k ins refs => match refs with
  | [] => match oneOf L k with
   | some e => some (e.out, [], [ins = e.ins])
   | none => none
  | _ => none
 ok := by
  intro k ins refs post out cs h hc
  split at h
  ·split at h
   ·rename_i e he
    cases h
    have hc : ins = e.ins := hc
    rw [hc]
    exact e.ok
   ·cases h
  ·cases h
def tabL (f : Cl → List D) (cols : List (List UInt8)) (rows : List (List Cl)) : List D := [.i 5, .s (S []), .i 0, .i 0, .i 0, .sl 1 (strs cols), .sl 1 (rowsF f rows)]
def tabZ (cols : List (List UInt8)) : List D := [.i 5, .s (S []), .i 0, .i 0, .i 0, .sl 1 (strs cols), .nil]
def okO (ds : List D) : SV := .tup [(true, ds.map .d), (false, [.d (.i 0)])]
def noO (e : Int) : SV := .tup [(true, (ClN Cl.z).map .d), (false, [.d (.i e)])]
def txC (t : List UInt8) : Cl := ⟨1, t, 0, 0, 0⟩
def nuC (n : Int) : Cl := ⟨2, [], n, 0, 0⟩
def pickB (rows : List (List Cl)) : List (List Cl) := rows.map fun r => [r.getD 4 Cl.z, r.getD 0 Cl.z]
def lcL : List (List UInt8) := [[108, 97, 98, 101, 108], [99, 111, 100, 101]]
def apI (op p : List UInt8) (args : List (List D)) (b : SV) : List SV := [.c (.d (.s (S op))), .c (.d (.s (S p))), .c (.d (.sl 7 args)), b, .c (.d .nil), .c (.d .nil)]
def nilS : SV := .c (.d .nil)
def sTable : List UInt8 := [116, 97, 98, 108, 101]
def sWhere : List UInt8 := [119, 104, 101, 114, 101]
def sCode : List UInt8 := [99, 111, 100, 101]
def sPick : List UInt8 := [112, 105, 99, 107]
def sLC : List UInt8 := [108, 97, 98, 101, 108, 44, 99, 111, 100, 101]
def sCount : List UInt8 := [99, 111, 117, 110, 116]
def sFirst : List UInt8 := [102, 105, 114, 115, 116]
def sLT : List UInt8 := [108, 97, 98, 101, 108, 58, 116, 101, 120, 116]
def sLookup : List UInt8 := [108, 111, 111, 107, 117, 112]
def sRCL : List UInt8 := [114, 97, 116, 101, 115, 46, 99, 111, 100, 101, 46, 108, 97, 98, 101, 108, 58, 116, 101, 120, 116]
def iTable (b : SV) : List SV := [.c (.d (.s (S sTable))), .c (.d (.s (S ratesN))), nilS, b, nilS, nilS]
end Go.Proofs.YtdejnaokkdndeaaGreatDoor
namespace Go.Proofs.YtdejnaokkdndeaaGreatDoor
open Go.RowKit Go.V
variable {m : Int}
theorem cellB_right {c : Cl} (h : c.good) : rightB c.toV = true ∧ c.toV.fit := by
 have k : ¬ c.toV.kind = 5 := h.kind
 have e := h.right
 refine ⟨?_, ?_, ?_, ?_⟩
 ·simp only [rightK] at e
  simp only [rightB, rightK, if_neg k] at e ⊢
  exact e
 ·have := h.len
  show c.s.length ≤ maxLen
  unfold maxLen; omega
 ·intro t ht; cases ht
 ·intro r hr; cases hr
theorem tab_right {cols : List (List UInt8)} {rows : List (List Cl)} (h1 : cols.length ≤ 8) (h2 : rows.length ≤ 100) (hn : allR cols.length (nameAt cols) = true) (hl : ∀ t, t ∈ cols → t.length ≤ 20) (hr : ∀ r, r ∈ rows → r.length = cols.length ∧ ∀ c, c ∈ r → c.good) :
  rightB ⟨5, [], 0, 0, 0, cols, rows⟩ = true ∧ Vl.fit ⟨5, [], 0, 0, 0, cols, rows⟩ := by
 have ht : tableB cols rows = true := tableB_good h1 h2 hn fun r h => ⟨(hr r h).1, fun c hc => ⟨((hr r h).2 c hc).kind, ((hr r h).2 c hc).right⟩⟩
 refine ⟨by simp [rightB, rightK, ht, bareB], ?_, ?_, ?_⟩
 ·show ([] : List UInt8).length ≤ maxLen
  unfold maxLen; simp
 ·intro t h
  have := hl t h
  unfold maxLen; omega
 ·intro r h c hc
  have := ((hr r h).2 c hc).len
  unfold maxLen; omega
theorem hN : CellF ClN := wkN
theorem hK : CellF ClK := wkK
theorem rightOk_cell {f : Cl → List D} (hf : CellF f) {c : Cl} (h : c.good) : RightOk [cellF f c] := ⟨c.toV, All2.one (wkCell hf c), cellB_right h⟩
theorem rightOk_tab {f : Cl → List D} (hf : CellF f) {cols : List (List UInt8)} {rows : List (List Cl)} (h : rightB ⟨5, [], 0, 0, 0, cols, rows⟩ = true ∧ Vl.fit ⟨5, [], 0, 0, 0, cols, rows⟩) : RightOk [tabF f cols rows] := ⟨_, All2.one (wkTab hf cols rows), h⟩
theorem names9 : allR cols9L.length (nameAt cols9L) = true := by decide
theorem names2 : allR lcL.length (nameAt lcL) = true := by decide
theorem len9 : ∀ t, t ∈ cols9L → t.length ≤ 20 := by decide
theorem len2 : ∀ t, t ∈ lcL → t.length ≤ 20 := by decide
theorem rightOk_Z : RightOk [.agg ((tabZ cols9L).map .d)] :=
 ⟨⟨5, [], 0, 0, 0, cols9L, []⟩, All2.one (WkS.agg (ds := tabZ cols9L) (ds' := [.i 5, .s (S []), .i 0, .i 0, .i 0, .sl 1 (strs cols9L), .sl 1 (rowsD [])]) (all2_7 (Wk.refl _) (Wk.refl _) (Wk.refl _) (Wk.refl _) (Wk.refl _) (Wk.refl _) (Wk.nil 1))), tab_right (by decide) (by decide) names9 len9 (fun r hr => by cases hr)⟩
theorem eqOk_cell {f g : Cl → List D} (hf : CellF f) (hg : CellF g) (c : Cl) : EqOk [cellF f c, cellF g c] := ⟨c.toV, All2.cons (wkCell hf c) (All2.one (wkCell hg c))⟩
theorem eqOk_tab {f g : Cl → List D} (hf : CellF f) (hg : CellF g) (cols : List (List UInt8)) (rows : List (List Cl)) : EqOk [tabF f cols rows, tabF g cols rows] := ⟨_, All2.cons (wkTab hf cols rows) (All2.one (wkTab hg cols rows))⟩
structure GoodB (nu da bo : Nat → Cl) (lb : Nat → List UInt8) : Prop where
 nu : ∀ i, (nu i).good ∧ ((nu i).kind = 0 ∨ (nu i).kind = 2)
 da : ∀ i, (da i).good ∧ ((da i).kind = 0 ∨ (da i).kind = 3)
 bo : ∀ i, (bo i).good ∧ ((bo i).kind = 0 ∨ (bo i).kind = 4)
 lb : ∀ i, (txC (lb i)).good
theorem code_good : ∀ t, t ∈ ([[97], [98], [97, 98], [49, 50], [120]] : List (List UInt8)) → (txC t).good := by
 intro t ht
 simp only [List.mem_cons, List.not_mem_nil, or_false] at ht
 rcases ht with rfl | rfl | rfl | rfl | rfl <;> exact ⟨by decide, by decide, by decide⟩
theorem lab_good : ∀ t, t ∈ lab9L → (txC t).good := by
 intro t ht
 simp only [lab9L, List.mem_cons, List.not_mem_nil, or_false] at ht
 rcases ht with rfl | rfl | rfl <;> exact ⟨by decide, by decide, by decide⟩
theorem c9_good {kind n : Int} (hk : kind = 2 ∨ kind = 3) (h0 : 0 ≤ n) (h1 : n < 5) : (c9 kind n).good ∧ ((c9 kind n).kind = 0 ∨ (c9 kind n).kind = kind) := by
 have hn : n = 0 ∨ n = 1 ∨ n = 2 ∨ n = 3 ∨ n = 4 := by omega
 rcases hk with rfl | rfl <;> rcases hn with rfl | rfl | rfl | rfl | rfl <;> exact ⟨⟨by decide, by decide, by decide⟩, by decide⟩
theorem bool_good (b : Bool) : (⟨4, [], 0, 0, bI b⟩ : Cl).good := by
 cases b <;> exact ⟨by decide, by decide, by decide⟩
def K9 (c : Nat) : Int := ([1, 2, 3, 4, 1] : List Int).getD c 0
section
variable {nu da bo : Nat → Cl} {lb : Nat → List UInt8}
theorem row_good (G : GoodB nu da bo lb) {t : List UInt8} (ht : (txC t).good) (i : Nat) : (rowB t (nu i) (da i) (bo i) (lb i)).length = 5 ∧ (∀ c, c ∈ rowB t (nu i) (da i) (bo i) (lb i) → c.good) ∧
  ∀ c, c < 5 → ((rowB t (nu i) (da i) (bo i) (lb i)).getD c Cl.z).kind = 0 ∨ ((rowB t (nu i) (da i) (bo i) (lb i)).getD c Cl.z).kind = K9 c := by
 refine ⟨rfl, fun c hc => ?_, fun c hc => ?_⟩
 ·simp only [rowB, List.mem_cons, List.not_mem_nil, or_false] at hc
  rcases hc with rfl | rfl | rfl | rfl | rfl
  ·exact ht
  ·exact (G.nu i).1
  ·exact (G.da i).1
  ·exact (G.bo i).1
  ·exact G.lb i
 ·have hj : c = 0 ∨ c = 1 ∨ c = 2 ∨ c = 3 ∨ c = 4 := by omega
  rcases hj with rfl | rfl | rfl | rfl | rfl
  ·exact .inr rfl
  ·exact (G.nu i).2
  ·exact (G.da i).2
  ·exact (G.bo i).2
  ·exact .inr rfl
def AllB (nu da bo : Nat → Cl) (lb : Nat → List UInt8) (rows : List (List Cl)) : Prop := ∀ r, r ∈ rows → ∃ t i, (txC t).good ∧ r = rowB t (nu i) (da i) (bo i) (lb i)
theorem allB (nu da bo : Nat → Cl) (lb : Nat → List UInt8) : ∀ k, 2 ≤ k → k ≤ 4 → AllB nu da bo lb (rowsB nu da bo lb k) := by
 intro k h1 h2 r hr
 have hk : k = 2 ∨ k = 3 ∨ k = 4 := by omega
 rcases hk with rfl | rfl | rfl <;> simp only [rowsB, List.mem_cons, List.not_mem_nil, or_false] at hr
 ·rcases hr with rfl | rfl
  ·exact ⟨_, 0, code_good _ (by simp), rfl⟩
  ·exact ⟨_, 1, code_good _ (by simp), rfl⟩
 ·rcases hr with rfl | rfl | rfl
  ·exact ⟨_, 0, code_good _ (by simp), rfl⟩
  ·exact ⟨_, 1, code_good _ (by simp), rfl⟩
  ·exact ⟨_, 2, code_good _ (by simp), rfl⟩
 ·rcases hr with rfl | rfl | rfl | rfl
  ·exact ⟨_, 0, code_good _ (by simp), rfl⟩
  ·exact ⟨_, 1, code_good _ (by simp), rfl⟩
  ·exact ⟨_, 2, code_good _ (by simp), rfl⟩
  ·exact ⟨_, 3, code_good _ (by simp), rfl⟩
theorem one_row (t : List UInt8) (i : Nat) (h : (txC t).good) : AllB nu da bo lb [rowB t (nu i) (da i) (bo i) (lb i)] := fun r hr => by
 rw [List.mem_singleton.1 hr]; exact ⟨t, i, h, rfl⟩
theorem rows_right (G : GoodB nu da bo lb) {rows : List (List Cl)} (h : AllB nu da bo lb rows) (hl : rows.length ≤ 100) : rightB ⟨5, [], 0, 0, 0, cols9L, rows⟩ = true ∧ Vl.fit ⟨5, [], 0, 0, 0, cols9L, rows⟩ :=
 tab_right (by decide) hl names9 len9 fun r hr => by
  obtain ⟨t, i, ht, rfl⟩ := h r hr
  exact ⟨(row_good G ht i).1, (row_good G ht i).2.1⟩
theorem pick_right (G : GoodB nu da bo lb) {rows : List (List Cl)} (h : AllB nu da bo lb rows) (hl : rows.length ≤ 100) : rightB ⟨5, [], 0, 0, 0, lcL, pickB rows⟩ = true ∧ Vl.fit ⟨5, [], 0, 0, 0, lcL, pickB rows⟩ :=
 tab_right (by decide) (by simp only [pickB, List.length_map]; exact hl) names2 len2 fun r hr => by
  obtain ⟨r0, h0, rfl⟩ := List.mem_map.1 hr
  obtain ⟨t, i, ht, rfl⟩ := h r0 h0
  refine ⟨rfl, fun c hc => ?_⟩
  simp only [rowB, List.mem_cons, List.not_mem_nil, or_false] at hc
  rcases hc with rfl | rfl
  ·exact G.lb i
  ·exact ht
theorem tabOk_rows (G : GoodB nu da bo lb) {rows : List (List Cl)} (h : AllB nu da bo lb rows) (hl : rows.length ≤ 100) : TabOk [lookF ClN ratesN cols9L rows] := by
 obtain ⟨h1, h2⟩ := rows_right G h hl
 refine ⟨ratesN, cols9L, rows, K9, All2.one (wkLook hN _ _ _), by decide, by decide, by decide, by omega, by decide, h2, h1, fun i hi => ?_, fun i c hi hc => ?_⟩
 ·obtain ⟨t, j, ht, e⟩ := h _ (getD_mem (z := []) hi)
  rw [e]; exact (row_good G ht j).1
 ·obtain ⟨t, j, ht, e⟩ := h _ (getD_mem (z := []) hi)
  rw [e]; exact (row_good G ht j).2.2 c hc
end
def bkk (l : List Int) : Nat → Int
 | 0 => nxK l 0 3
 | i + 1 => brk l (bkk l i)
def nuL (l : List Int) (i : Nat) : Cl := c9 2 (nxV l (bkk l i) 5)
def daL (l : List Int) (i : Nat) : Cl := c9 3 (nxV l (nxK l (bkk l i) 5) 5)
def boL (l : List Int) (i : Nat) : Cl := ⟨4, [], 0, 0, bI (decide (nxV l (nxK l (nxK l (bkk l i) 5) 5) 2 = 1))⟩
def lbL (l : List Int) (i : Nat) : List UInt8 := lab9L.getD (nxV l (nxK l (nxK l (nxK l (bkk l i) 5) 5) 2) 3).toNat []
theorem base_good (l : List Int) : GoodB (nuL l) (daL l) (boL l) (lbL l) where
 nu i := c9_good (.inl rfl) (nxV_bd _ _ (by decide)).1 (nxV_bd _ _ (by decide)).2
 da i := c9_good (.inr rfl) (nxV_bd _ _ (by decide)).1 (nxV_bd _ _ (by decide)).2
 bo i := ⟨bool_good _, .inr rfl⟩
 lb i := lab_good _ (getD_mem (by
  have h := nxV_bd l (nxK l (nxK l (nxK l (bkk l i) 5) 5) 2) (n := 3) (by decide)
  show _ < 3; omega))
theorem base_rows (l : List Int) {k : Nat} (h : bN l = k) (h1 : 2 ≤ k) (h2 : k ≤ 4) : (bR l).1 = rowsB (nuL l) (daL l) (boL l) (lbL l) k := by
 have hk : k = 2 ∨ k = 3 ∨ k = 4 := by omega
 unfold bR
 rw [h]
 rcases hk with rfl | rfl | rfl <;> rfl
theorem base_is (l : List Int) {k : Nat} (h : bN l = k) (h1 : 2 ≤ k) (h2 : k ≤ 4) (hn : NumOk l 0) : BaseOk (intsD l) (baseB (rowsB (nuL l) (daL l) (boL l) (lbL l) k) (strs (col9L.take (mN9 (bT l)))) (rowsD (mR9 (bT l)))) :=
 ⟨l, rfl, hn, by unfold baseB baseV; rw [base_rows l h h1 h2]; rfl⟩
theorem idx_ok {n : Int} {v : Int} (h : (n.tmod 5 + 5).tmod 5 = v) : Value.int .i64 (Int.tmod (Int.tmod n 5 + 5) 5) = Value.int .i64 v := by rw [h]
theorem idx_in (n : Int) : Go.Eng.inR (Int.tmod n 5 + 5) := by
 have := tmod_in (x := n) (n := 5) (by decide)
 unfold Go.Eng.inR; omega
theorem idx_cases (n : Int) : (n.tmod 5 + 5).tmod 5 = 0 ∨ (n.tmod 5 + 5).tmod 5 = 1 ∨ (n.tmod 5 + 5).tmod 5 = 2 ∨ (n.tmod 5 + 5).tmod 5 = 3 ∨ (n.tmod 5 + 5).tmod 5 = 4 := by
 have h := tmod_in (x := n) (n := 5) (by decide)
 have h1 := Int.tmod_nonneg 5 (a := n.tmod 5 + 5) (by omega)
 have h2 := Int.tmod_lt_of_pos (n.tmod 5 + 5) (b := 5) (by decide)
 omega
end Go.Proofs.YtdejnaokkdndeaaGreatDoor
