/- Part 34 of the proof: texts D3, Z0, D4, D5, D6, D7, TryzShelf, D8, D9, D10, F1. -/
import Derived.Test.YtmpgfchkkemngaaGreatDoorP33
import Derived.Test.YtmpgfchkkemngaaGreatDoorCards
import Derived.Test.YtmpgfchkkemngaaGreatDoorTie
import Derived.WalkKit
import Derived.ProofKit
import Derived.OpenShut
import Derived.Deep.DeepHandedRow
import Derived.Lib.LaidTab
import Derived.Lay
import Derived.Stop.LaidErr
import Derived.MakeChecks
import Derived.Carry
import Derived.Shelf.Strings.Builder1
import Derived.Shelf.Strings.Builder2
import Derived.Shelf.Strings.OnBuilder
import Derived.Shelf.Small.Utf8
import Derived.Shelf.Small.Strs
import Derived.Shelf.Small.Wraps
import Derived.Shelf.Strings.BuilderF
import Derived.Shelf.Strings.BuilderK
import Derived.Shelf.Strconv.Atoi
import Derived.Shelf.Strconv.Itoa0
import Derived.Shelf.Strconv.Itoa1
import Derived.Shelf.LaysM
import Derived.Shelf.Strconv.Itoa2
import Derived.Shelf.Strconv.Itoa3
import Derived.Shelf.Strconv.AtoiErrFast
import Derived.Shelf.Strconv.ParseIntEmpty
import Derived.Shelf.Strconv.AtoiFail
import Derived.Shelf.Strconv.Clone
import Derived.Shelf.Strconv.SyntaxError
import Derived.Shelf.LaysC
import Derived.Shelf.Strconv.ToError
import Derived.Shelf.Strconv.Lower
import Derived.Shelf.Strconv.ParseUint10
import Derived.Shelf.Strconv.ParseUint10Empty
import Derived.Shelf.Strconv.ParseUint10Any
import Derived.Shelf.Strconv.ParseInt10
import Derived.Shelf.Strconv.AtoiLong
import Derived.Shelf.Strconv.AtoiInnerAll
import Derived.Shelf.Strconv.RangeError
import Derived.Shelf.Strconv.ToErrorRange
import Derived.Shelf.Strconv.AtoiAll
import Derived.Shelf.Strconv.ErrVarAll
import Derived.Shelf.Strings.Search1
import Derived.Shelf.Strings.Search2
import Derived.Shelf.Strings.Search3
import Derived.Shelf.Strings.Cut
import Derived.Shelf.Strings.Count
import Derived.Shelf.Strings.Shaped
import Derived.Shelf.Strings.Prefix
import Derived.Shelf.Strings.Split
import Derived.Shelf.Strings.Replace
import Derived.Shelf.Strings.SplitShaped
import Derived.Shelf.Strings.Runes
import Derived.Shelf.Strings.IndexAny
import Derived.Shelf.Strings.AsciiSet
import Derived.Shelf.Strings.IndexAnyAll
import Derived.Shelf.Bits.Mul64
import Derived.Shelf.Strings.Repeat
import Derived.Shelf.Unicode.DecodeSlow
import Derived.Shelf.Unicode.DecodeAny
import Derived.Shelf.Slices.Turned
import Derived.Shelf.Slices.Equal
import Derived.Test.YtmpgfchkkemngaaGreatDoorProg
import Derived.Lib.AppendIntMem
import Derived.WalkSpells
import Derived.WalkLawsBesides
import Derived.Deep.QuietTactic
import Derived.BigQuiet
import Derived.KernelRfl
set_option linter.all false
namespace Go.Proofs.YtmpgfchkkemngaaGreatDoor
open Go.RowKit Go.V
open Go.Eng (inR byteAt u8 bytesV)
variable {g : Gv}
def intD (x : Int) : List D := [.i x]
def intsD (l : List Int) : List (List D) := l.map intD
def nxV (l : List Int) (k n : Int) : Int := if k ≥ l.length ∨ n < 1 then 0 else ((l.getD k.toNat 0).tmod n + n).tmod n
def nxK (l : List Int) (k n : Int) : Int := if k ≥ l.length ∨ n < 1 then k else k + 1
structure NumOk (l : List Int) (k : Int) : Prop where
 k0 : 0 ≤ k
 k1 : k ≤ l.length
 k2 : (l.length : Int) ≤ 9223372036854775807
theorem NumOk.next {l : List Int} {k : Int} (h : NumOk l k) (n : Int) : NumOk l (nxK l k n) := by
 have := h.k0; have := h.k1
 unfold nxK; split
 ·exact h
 ·exact ⟨by omega, by omega, h.k2⟩
theorem tmod_in {x n : Int} (hn : 1 ≤ n) : -n < x.tmod n ∧ x.tmod n < n :=
 ⟨Int.lt_tmod_of_pos x (by omega), Int.tmod_lt_of_pos x (by omega)⟩
theorem nxV_bd (l : List Int) (k : Int) {n : Int} (hn : 1 ≤ n) : 0 ≤ nxV l k n ∧ nxV l k n < n := by
 unfold nxV
 split
 ·omega
 ·have h1 := tmod_in (x := l.getD k.toNat 0) hn
  refine ⟨Int.tmod_nonneg _ (by omega), Int.tmod_lt_of_pos _ (by omega)⟩
def wordsL : List (List UInt8) := [[], [97], [98], [97, 98], [105, 116, 39, 115], [50, 48, 50, 52, 45, 48, 49, 45, 51, 49], [49, 50], [45, 51, 46, 53], [65, 124, 66, 44, 91, 99, 93, 59], [78, 111, 114, 116, 104, 32, 55], [120, 32, 121], [39, 39], [97, 98, 99, 97, 98, 99], [48], [55, 46, 50, 53]]
def chM (l : List Int) : Nat → Int → List UInt8 × Int
 | 0, k => ([], k)
 | n + 1, k => (u8 (32 + nxV l k 95) :: (chM l n (nxK l k 95)).1, (chM l n (nxK l k 95)).2)
def txN (l : List Int) (k : Int) : Int := if nxV l k 18 = 17 then 190 + nxV l (nxK l (nxK l k 18) 9) 11 else nxV l (nxK l k 18) 9
def txK (l : List Int) (k : Int) : Int := if nxV l k 18 = 17 then nxK l (nxK l (nxK l k 18) 9) 11 else nxK l (nxK l k 18) 9
def txM (l : List Int) (k : Int) : List UInt8 × Int := if nxV l k 18 < 15 then (wordsL.getD (nxV l k 18).toNat [], nxK l k 18) else chM l (txN l k).toNat (txK l k)
theorem bytesD_snoc (acc : List UInt8) (x : Int) : bytesD acc ++ [[D.y (IntKind.wrap .u8 x)]] = bytesD (acc ++ [u8 x]) := by
 simp [bytesD, D.y, Eng.wrap_u8]
theorem bytesD_S (acc : List UInt8) : bytesD (S acc).data.toList = bytesD acc := by simp [S]
theorem ch_step {l : List Int} {N j : Nat} {kk : Int} (h : j < N) : chM l (N - j) kk = (u8 (32 + nxV l kk 95) :: (chM l (N - (j + 1)) (nxK l kk 95)).1, (chM l (N - (j + 1)) (nxK l kk 95)).2) := by
 have : N - j = (N - (j + 1)) + 1 := by omega
 rw [this, chM]
theorem ch_len (l : List Int) : ∀ (n : Nat) (k : Int), (chM l n k).1.length = n
 | 0, k => rfl
 | n + 1, k => by simp [chM, ch_len l n]
theorem ch_num {l : List Int} : ∀ (n : Nat) {k : Int}, NumOk l k → NumOk l (chM l n k).2
 | 0, k, h => h
 | n + 1, k, h => by rw [chM]; exact ch_num n (h.next 95)
theorem tx_num {l : List Int} {k : Int} (h : NumOk l k) : NumOk l (txM l k).2 := by
 unfold txM; split
 ·exact h.next 18
 ·refine ch_num _ ?_
  unfold txK; split
  ·exact ((h.next 18).next 9).next 11
  ·exact (h.next 18).next 9
theorem txN_bd (l : List Int) (k : Int) : 0 ≤ txN l k ∧ txN l k ≤ 200 := by
 unfold txN
 have h1 := nxV_bd l (nxK l (nxK l k 18) 9) (n := 11) (by decide)
 have h2 := nxV_bd l (nxK l k 18) (n := 9) (by decide)
 split <;> omega
def dcN (l : List Int) (k : Int) : Int := if nxV l (nxK l k 2001) 8 = 7 then nxV l (nxK l (nxK l k 2001) 8) 2000000000000001 - 1000000000000000 else nxV l k 2001 - 1000
def dcK (l : List Int) (k : Int) : Int := if nxV l (nxK l k 2001) 8 = 7 then nxK l (nxK l (nxK l k 2001) 8) 2000000000000001 else nxK l (nxK l k 2001) 8
def dcM (l : List Int) (k : Int) : Int × Int × Int :=
 (fitN (decide (dcN l k < 0)) (dcN l k).natAbs (nxV l (dcK l k) 4), fitS (dcN l k).natAbs (nxV l (dcK l k) 4), nxK l (dcK l k) 4)
theorem dc_num {l : List Int} {k : Int} (h : NumOk l k) : NumOk l (dcM l k).2.2 := by
 unfold dcM dcK
 simp only
 split
 ·exact (((h.next _).next _).next _).next _
 ·exact ((h.next _).next _).next _
theorem make_ok (n s : Int) (h0 : -72000000000000000 ≤ n) (h1 : n ≤ 72000000000000000) (h2 : 0 ≤ s) (h3 : s ≤ 18) : SpG g 113 [.c (.d (.i n)), .c (.d (.i s))] [] (.tup [(true, [.d (.i (fitN (decide (n < 0)) n.natAbs s)), .d (.i (fitS n.natAbs s))]), (false, [.d (.b (fitB n.natAbs s))])]) [] :=
 of_below (args := [.int .i64 n, .int .i64 s]) rfl rfl rfl (fun w => make_any n s w h0 h1 h2 h3)
def cvM (l : List Int) (k kind : Int) : Cl × Int :=
 if kind = 1 then (⟨1, (txM l k).1, 0, 0, 0⟩, (txM l k).2)
 else if kind = 2 then (⟨2, [], (dcM l k).1, (dcM l k).2.1, 0⟩, (dcM l k).2.2)
 else if kind = 3 then (if nxV l (nxK l k 1000) 8 = 7 then (⟨3, [], 0, 0, nxV l (nxK l (nxK l k 1000) 8) 3652059⟩, nxK l (nxK l (nxK l k 1000) 8) 3652059) else (⟨3, [], 0, 0, 738000 + nxV l k 1000⟩, nxK l (nxK l k 1000) 8))
 else if kind = 4 then (⟨4, [], 0, 0, nxV l k 2⟩, nxK l k 2)
 else (⟨0, [], 0, 0, nxV l k 100⟩, nxK l k 100)
def abcL : List (List UInt8) := [[97], [98], [99]]
def kdM (l : List Int) : Nat → Int → List Int × Int
 | 0, k => ([], k)
 | n + 1, k => ((1 + nxV l k 4) :: (kdM l n (nxK l k 4)).1, (kdM l n (nxK l k 4)).2)
def ceM (l : List Int) (kind k : Int) : Cl × Int := if nxV l k 9 = 8 then (Cl.z, nxK l k 9) else cvM l (nxK l k 9) kind
def rwM (l : List Int) : List Int → Int → List Cl × Int
 | [], k => ([], k)
 | kd :: r, k => ((ceM l kd k).1 :: (rwM l r (ceM l kd k).2).1, (rwM l r (ceM l kd k).2).2)
def rsM (l : List Int) (kds : List Int) : Nat → Int → List (List Cl) × Int
 | 0, k => ([], k)
 | n + 1, k => ((rwM l kds k).1 :: (rsM l kds n (rwM l kds k).2).1, (rsM l kds n (rwM l kds k).2).2)
def tbK (l : List Int) (k : Int) : List Int × Int := kdM l (nxV l k 4).toNat (nxK l k 4)
def tbR (l : List Int) (k : Int) : List (List Cl) × Int := rsM l (tbK l k).1 (nxV l (tbK l k).2 5).toNat (nxK l (tbK l k).2 5)
def tbM (l : List Int) (k : Int) : Vl × Int := (⟨5, [], 0, 0, 0, abcL.take (nxV l k 4).toNat, (tbR l k).1⟩, (tbR l k).2)
def vlM (l : List Int) (k kind : Int) : Vl × Int := if kind = 5 then tbM l k else ((cvM l k kind).1.toV, (cvM l k kind).2)
theorem cv_num {l : List Int} {k kind : Int} (h : NumOk l k) : NumOk l (cvM l k kind).2 := by
 unfold cvM
 split
 ·exact tx_num h
 ·split
  ·exact dc_num h
  ·split
   ·split
    ·exact ((h.next _).next _).next _
    ·exact (h.next _).next _
   ·split
    ·exact h.next _
    ·exact h.next _
theorem kd_step {l : List Int} {N j : Nat} {kk : Int} (h : j < N) : kdM l (N - j) kk = ((1 + nxV l kk 4) :: (kdM l (N - (j + 1)) (nxK l kk 4)).1, (kdM l (N - (j + 1)) (nxK l kk 4)).2) := by
 have : N - j = (N - (j + 1)) + 1 := by omega
 rw [this, kdM]
theorem rs_step {l kds : List Int} {N j : Nat} {kk : Int} (h : j < N) : rsM l kds (N - j) kk = ((rwM l kds kk).1 :: (rsM l kds (N - (j + 1)) (rwM l kds kk).2).1, (rsM l kds (N - (j + 1)) (rwM l kds kk).2).2) := by
 have : N - j = (N - (j + 1)) + 1 := by omega
 rw [this, rsM]
theorem rw_step {l kds : List Int} {j : Nat} {kk : Int} (h : j < kds.length) : rwM l (kds.drop j) kk = ((ceM l (kds.getD j 0) kk).1 :: (rwM l (kds.drop (j + 1)) (ceM l (kds.getD j 0) kk).2).1, (rwM l (kds.drop (j + 1)) (ceM l (kds.getD j 0) kk).2).2) := by
 have : kds.drop j = kds.getD j 0 :: kds.drop (j + 1) := by
  rw [List.drop_eq_getElem_cons h]; simp [h]
 rw [this, rwM]
theorem take_succ_strs {l : List (List UInt8)} {j : Nat} (h : j < l.length) : strs (l.take (j + 1)) = strs (l.take j) ++ [strD (l.getD j [])] := by
 simp only [strs]
 rw [List.take_add_one, List.map_append]
 simp [h]
theorem abc_at {j : Nat} (h : j < 3) : ([[D.s (S [97])], [D.s (S [98])], [D.s (S [99])]] : List (List D))[j]? = some (strD (abcL.getD j [])) := by
 have hj3 : j = 0 ∨ j = 1 ∨ j = 2 := by omega
 rcases hj3 with rfl | rfl | rfl <;> rfl
def madeV (l : List Int) : Vl := (vlM l (nxK l 0 6) (nxV l 0 6)).1
def zq9 := And.intro @List.length_map.{0, 0} (And.intro @inR.eq_1 (And.intro @intsD.eq_1 (@maxLen.eq_1)))
def zq10 := And.intro @List.length_map.{0, 0} (@intsD.eq_1)
theorem next_ok (l : List Int) (k n : Int) (h : NumOk l k) (hn : n ≤ 1000000000000000001) :
  SpG g 35 [.c (.bx 0 0), .c (.d (.i n))] [(0, .box 68 [.d (.sl 1 (intsD l)), .d (.i k)])] (.c (.d (.i (nxV l k n)))) [(0, .box 68 [.d (.sl 1 (intsD l)), .d (.i (nxK l k n))])] := by
 have h0 := h.k0; have h1 := h.k1; have h2 := h.k2
 have hk1 : k + 1 - 1 = k := by omega
 have hb : 1 ≤ n → -n < (l.getD k.toNat 0).tmod n ∧ (l.getD k.toNat 0).tmod n < n := tmod_in
 refine enterB 43 Tryz.func35 (by kernel_rfl) fun fr hG => ?_
 refine zC hG [] [1, 0, 1] ((decide ((k : Int) ≥ ((intsD l).length : Int))) || (decide ((n : Int) < 1))) (⟨[(0, [], .c (.bx 0 0)), (1, [], .c (.d (.i n))), (4, [], .c (.d (.i 0)))], [(0, .box 68 [.d (.sl 1 (intsD l)), .d (.i k)])]⟩) (by kernel_rfl) conj0 (fun hc1 => ?_) (fun hc1 => ?_)
 ·(try simp only [blS, intsD, List.length_map] at hc1)
  refine zR hG [] [] (.c (.d (.i 0))) [(0, .box 68 [.d (.sl 1 (intsD l)), .d (.i k)])] (by kernel_rfl) conj0 ?_ ?_
  ·rw [nxV, if_pos hc1]
  ·rw [nxK, if_pos hc1]
 ·(try simp only [blS, intsD, List.length_map] at hc1)
  refine zR hG [(4, 9, .elem (intD ((l).getD ((k + 1) - 1 : Int).toNat 0)))] [] (.c (.d (.i (Int.tmod ((Int.tmod ((l).getD ((k + 1) - 1 : Int).toNat 0) n) + n) n)))) [(0, .box 68 [.d (.sl 1 (intsD l)), .d (.i (k + 1))])] (by kernel_rfl) (conjC (show inR (k + 1) from (by intros; (try rw [hk1]); (try simp only [zq9] at *); omega)) (conjC (show inR ((k + 1) - 1) from (by intros; (try rw [hk1]); (try simp only [zq9] at *); omega)) (conjC (show (0 : Int) ≤ ((k + 1) - 1) ∧ (intsD l)[((k + 1) - 1 : Int).toNat]? = some (intD ((l).getD ((k + 1) - 1 : Int).toNat 0)) from (by intros; exact map_at _ (by omega) (by (try simp only [zq10] at *); omega))) (conjC (show n ≠ (0 : Int) from (by intros; (try rw [hk1]); (try simp only [zq9] at *); omega)) (conjC (show inR ((Int.tmod ((l).getD ((k + 1) - 1 : Int).toNat 0) n) + n) from (by intros; (try rw [hk1]); (try simp only [zq9] at *); omega)) (conj1 (show n ≠ (0 : Int) from (by intros; (try rw [hk1]); (try simp only [zq9] at *); omega)))))))) ?_ ?_
  ·rw [nxV, if_neg (by omega), hk1]
  ·rw [nxK, if_neg (by omega)]
theorem words_ok  :
  SpG g 112 [] [] (.c (.ar 100 0)) [(100, .arr 0 9 1 (strs wordsL))] := by
 refine enterB 2 Tryz.func112 (by kernel_rfl) fun fr hG => ?_
 exact zr hG [] [200] (by kernel_rfl) conj0
def zq11 := And.intro @inR.eq_1 (@maxLen.eq_1)
def zq12 := And.intro @List.length_append.{0} (And.intro @List.length_cons.{0} (@List.length_nil.{0}))
theorem numText_ok (l : List Int) (k : Int) (h : NumOk l k) :
  SpG g 70 [.c (.bx 0 0)] [(0, .box 68 [.d (.sl 1 (intsD l)), .d (.i k)])] (.c (.d (.s (S (txM l k).1)))) [(0, .box 68 [.d (.sl 1 (intsD l)), .d (.i ((txM l k).2))])] := by
 have a1 := nxV_bd l k (n := 18) (by decide)
 have a2 := nxV_bd l (nxK l k 18) (n := 9) (by decide)
 have a3 := nxV_bd l (nxK l (nxK l k 18) 9) (n := 11) (by decide)
 have hw : ((strs wordsL).length : Int) = 15 := rfl
 refine enterB 40 Tryz.func70 (by kernel_rfl) fun fr hG => ?_
 refine zC hG [(1, 1, .call (.c (.d (.i (nxV l k 18)))) [] [[.sl 1 (intsD l), .i (nxK l k 18)]]), (2, 0, .call (.c (.ar 100 0)) [(100, .arr 0 9 1 (strs wordsL))] [])] [1, 0, 1, 1, 1] (decide ((nxV l k 18 : Int) < ((strs wordsL).length : Int))) (⟨[(0, [], .c (.bx 0 0)), (2, [], .c (.d (.s (S [])))), (3, [], .c (.d (.i (nxV l k 18)))), (4, [], .c (.ar 300 0))], [(0, .box 68 [.d (.sl 1 (intsD l)), .d (.i (nxK l k 18))]), (300, .arr 0 9 1 (strs wordsL))]⟩) (by kernel_rfl) (conjC ((next_ok l k 18 (by (repeat (first | assumption | apply NumOk.next))) (by decide) : SpG g _ _ _ _ _)) (conj1 ((words_ok : SpG g _ _ _ _ _)))) (fun hc1 => ?_) (fun hc1 => ?_)
 ·(try simp only [blS] at hc1)
  refine zR hG [(4, 3, .elem (strD ((wordsL).getD (nxV l k 18 : Int).toNat [])))] [] (.c (.d (.s (S ((wordsL).getD (nxV l k 18 : Int).toNat []))))) [(0, .box 68 [.d (.sl 1 (intsD l)), .d (.i (nxK l k 18))])] (by kernel_rfl) (conjC (show (0 : Int) ≤ (nxV l k 18) ∧ (nxV l k 18) < ((strs wordsL).length : Int) from (by intros; (try simp only [zq11] at *); (try simp only [zq12] at *); omega)) (conj1 (show (strs wordsL)[(nxV l k 18 : Int).toNat]? = some (strD ((wordsL).getD (nxV l k 18 : Int).toNat [])) from (by intros; exact map_nat _ (by (try simp only [zq7] at *); omega))))) ?_ ?_
  ·rw [txM, if_pos (by omega)]
  ·rw [txM, if_pos (by omega)]
 ·(try simp only [blS] at hc1)
  refine zC hG [(5, 1, .call (.c (.d (.i (nxV l (nxK l k 18) 9)))) [] [[.sl 1 (intsD l), .i (nxK l (nxK l k 18) 9)]])] [1, 0, 1, 1, 1, 1, 1] (decide ((nxV l k 18 : Int) = 17)) (⟨[(0, [], .c (.bx 0 0)), (2, [], .c (.d (.s (S [])))), (5, [], .c (.d (.i (nxV l (nxK l k 18) 9))))], [(0, .box 68 [.d (.sl 1 (intsD l)), .d (.i (nxK l (nxK l k 18) 9))])]⟩) (by kernel_rfl) (conj1 ((next_ok l (nxK l k 18) 9 (by (repeat (first | assumption | apply NumOk.next))) (by decide) : SpG g _ _ _ _ _))) (fun hc2 => ?_) (fun hc2 => ?_)
  ·(try simp only [blS] at hc2)
   refine zA hG [(7, 1, .call (.c (.d (.i (nxV l (nxK l (nxK l k 18) 9) 11)))) [] [[.sl 1 (intsD l), .i (nxK l (nxK l (nxK l k 18) 9) 11)]])] [0, 1, 0, 1, 1, 1, 1, 1, 1, 1] (⟨[(0, [], .c (.bx 0 0)), (2, [], .c (.d (.s (S [])))), (5, [], .c (.d (.i (190 + (nxV l (nxK l (nxK l k 18) 9) 11))))), (6, [], .c (.d (.nil))), (7, [], .c (.d (.i 0)))], [(0, .box 68 [.d (.sl 1 (intsD l)), .d (.i (nxK l (nxK l (nxK l k 18) 9) 11))])]⟩) [(6, 9000, 5, 1)] [] (fun (zz : Nat × List (List D) × List UInt8 × Int) => match zz with | (j, es, acc, kk) => ((190 + (nxV l (nxK l (nxK l k 18) 9) 11)).toNat - j, ⟨[(0, [], .c (.bx 0 0)), (2, [], .c (.d (.s (S [])))), (5, [], .c (.d (.i (190 + (nxV l (nxK l (nxK l k 18) 9) 11))))), (6, [], .c (.ar 9000 0)), (7, [], .c (.d (.i (j : Int))))], [(0, .box 68 [.d (.sl 1 (intsD l)), .d (.i kk)]), (9000, .arr 0 5 1 (es))]⟩, j ≤ (190 + (nxV l (nxK l (nxK l k 18) 9) 11)).toNat ∧ NumOk l kk ∧ es = bytesD acc ∧ acc.length = j ∧ acc ++ (chM l ((190 + (nxV l (nxK l (nxK l k 18) 9) 11)).toNat - j) kk).1 = (chM l (190 + (nxV l (nxK l (nxK l k 18) 9) 11)).toNat (nxK l (nxK l (nxK l k 18) 9) 11)).1 ∧ (chM l ((190 + (nxV l (nxK l (nxK l k 18) 9) 11)).toNat - j) kk).2 = (chM l (190 + (nxV l (nxK l (nxK l k 18) 9) 11)).toNat (nxK l (nxK l (nxK l k 18) 9) 11)).2)) (0, [], [], nxK l (nxK l (nxK l k 18) 9) 11) (by kernel_rfl) (conjC ((next_ok l (nxK l (nxK l k 18) 9) 11 (by (repeat (first | assumption | apply NumOk.next))) (by decide) : SpG g _ _ _ _ _)) (conj1 (show inR (190 + (nxV l (nxK l (nxK l k 18) 9) 11)) from (by intros; (try simp only [zq11] at *); (try simp only [zq12] at *); omega)))) (by kernel_rfl) (by kernel_rfl) ?_ ?_
   ·exact ⟨Nat.zero_le _, (by (repeat (first | assumption | apply NumOk.next))), rfl, rfl, by simp, by simp⟩
   rintro ⟨j, es, acc, kk⟩ ⟨hj, hN, hes, ha, h3, h4⟩
   have hlen : es.length = j := by rw [hes, bytesD_len, ha]
   have hx := nxV_bd l kk (n := 95) (by decide)
   refine zc hG [] [1, 0] (decide (((j : Int) : Int) < (190 + (nxV l (nxK l (nxK l k 18) 9) 11)))) (by kernel_rfl) conj0 (fun hc4 => ?_) (fun hc4 => ?_)
   ·(try simp only [blS] at hc4)
    refine zD hG [(12, 2, .call (.c (.d (.i (nxV l kk 95)))) [] [[.sl 1 (intsD l), .i (nxK l kk 95)]])] (j + 1, es ++ [[D.y (IntKind.wrap .u8 (32 + nxV l kk 95))]], acc ++ [u8 (32 + nxV l kk 95)], nxK l kk 95) (by kernel_rfl) (conjC ((next_ok l kk 95 (by (repeat (first | assumption | apply NumOk.next))) (by decide) : SpG g _ _ _ _ _)) (conjC (show inR (32 + (nxV l kk 95)) from (by intros; (try simp only [zq11] at *); (try simp only [zq12] at *); omega)) (conjC (show ((es).length + (([[.y (IntKind.wrap .u8 (32 + (nxV l kk 95)))]] : List (List D))).length) * (1 + 1) ≤ 140737488355328 from (by intros; (try simp only [zq11] at *); (try simp only [zq12] at *); omega)) (conj1 (show inR ((j : Int) + 1) from (by intros; (try simp only [zq11] at *); (try simp only [zq12] at *); omega)))))) ?_ ?_
    ·(try dsimp only); omega
    ·have hjs := ch_step (l := l) (kk := kk) (N := (190 + (nxV l (nxK l (nxK l k 18) 9) 11)).toNat) (j := j) (by omega)
     refine ⟨by omega, hN.next _, by rw [hes, bytesD_snoc], by simp [ha], ?_, ?_⟩
     ·rw [← h3, hjs]; simp
     ·rw [← h4, hjs]
   ·(try simp only [blS] at hc4)
    refine zE hG [] (.exit 0) (⟨[(2, [], .c (.d (.s (S [])))), (6, [], .c (.ar 9000 0))], [(0, .box 68 [.d (.sl 1 (intsD l)), .d (.i kk)]), (9000, .arr 0 5 1 (es))]⟩) (by kernel_rfl) conj0 rfl ?_
    refine zR hG [(13, 1, .call (.c (.d (.s (S acc)))) [] [])] [] (.c (.d (.s (S acc)))) [(0, .box 68 [.d (.sl 1 (intsD l)), .d (.i kk)])] (by kernel_rfl) (conj1 (show es = bytesD (S acc).data.toList from (by rw [hes, bytesD_S]))) ?_ ?_
    ·have e : txM l k = chM l (txN l k).toNat (txK l k) := by rw [txM, if_neg (by omega)]
     have e2 : txN l k = 190 + nxV l (nxK l (nxK l k 18) 9) 11 := by rw [txN, if_pos hc2]
     have e3 : txK l k = nxK l (nxK l (nxK l k 18) 9) 11 := by rw [txK, if_pos hc2]
     have hz : (190 + nxV l (nxK l (nxK l k 18) 9) 11).toNat - j = 0 := by omega
     rw [hz] at h3
     simp only [chM, List.append_nil] at h3
     rw [e, e2, e3, ← h3]
    ·have e : txM l k = chM l (txN l k).toNat (txK l k) := by rw [txM, if_neg (by omega)]
     have e2 : txN l k = 190 + nxV l (nxK l (nxK l k 18) 9) 11 := by rw [txN, if_pos hc2]
     have e3 : txK l k = nxK l (nxK l (nxK l k 18) 9) 11 := by rw [txK, if_pos hc2]
     have hz : (190 + nxV l (nxK l (nxK l k 18) 9) 11).toNat - j = 0 := by omega
     rw [hz] at h4
     simp only [chM] at h4
     rw [e, e2, e3, ← h4]
  ·(try simp only [blS] at hc2)
   refine zA hG [] [0, 1, 0, 1, 1, 1, 1, 1, 1, 1] (⟨[(0, [], .c (.bx 0 0)), (2, [], .c (.d (.s (S [])))), (5, [], .c (.d (.i (nxV l (nxK l k 18) 9)))), (6, [], .c (.d (.nil))), (7, [], .c (.d (.i 0)))], [(0, .box 68 [.d (.sl 1 (intsD l)), .d (.i (nxK l (nxK l k 18) 9))])]⟩) [(6, 9000, 5, 1)] [] (fun (zz : Nat × List (List D) × List UInt8 × Int) => match zz with | (j, es, acc, kk) => ((nxV l (nxK l k 18) 9).toNat - j, ⟨[(0, [], .c (.bx 0 0)), (2, [], .c (.d (.s (S [])))), (5, [], .c (.d (.i (nxV l (nxK l k 18) 9)))), (6, [], .c (.ar 9000 0)), (7, [], .c (.d (.i (j : Int))))], [(0, .box 68 [.d (.sl 1 (intsD l)), .d (.i kk)]), (9000, .arr 0 5 1 (es))]⟩, j ≤ (nxV l (nxK l k 18) 9).toNat ∧ NumOk l kk ∧ es = bytesD acc ∧ acc.length = j ∧ acc ++ (chM l ((nxV l (nxK l k 18) 9).toNat - j) kk).1 = (chM l (nxV l (nxK l k 18) 9).toNat (nxK l (nxK l k 18) 9)).1 ∧ (chM l ((nxV l (nxK l k 18) 9).toNat - j) kk).2 = (chM l (nxV l (nxK l k 18) 9).toNat (nxK l (nxK l k 18) 9)).2)) (0, [], [], nxK l (nxK l k 18) 9) (by kernel_rfl) conj0 (by kernel_rfl) (by kernel_rfl) ?_ ?_
   ·exact ⟨Nat.zero_le _, (by (repeat (first | assumption | apply NumOk.next))), rfl, rfl, by simp, by simp⟩
   rintro ⟨j, es, acc, kk⟩ ⟨hj, hN, hes, ha, h3, h4⟩
   have hlen : es.length = j := by rw [hes, bytesD_len, ha]
   have hx := nxV_bd l kk (n := 95) (by decide)
   refine zc hG [] [1, 0] (decide (((j : Int) : Int) < (nxV l (nxK l k 18) 9))) (by kernel_rfl) conj0 (fun hc6 => ?_) (fun hc6 => ?_)
   ·(try simp only [blS] at hc6)
    refine zD hG [(12, 2, .call (.c (.d (.i (nxV l kk 95)))) [] [[.sl 1 (intsD l), .i (nxK l kk 95)]])] (j + 1, es ++ [[D.y (IntKind.wrap .u8 (32 + nxV l kk 95))]], acc ++ [u8 (32 + nxV l kk 95)], nxK l kk 95) (by kernel_rfl) (conjC ((next_ok l kk 95 (by (repeat (first | assumption | apply NumOk.next))) (by decide) : SpG g _ _ _ _ _)) (conjC (show inR (32 + (nxV l kk 95)) from (by intros; (try simp only [zq11] at *); (try simp only [zq12] at *); omega)) (conjC (show ((es).length + (([[.y (IntKind.wrap .u8 (32 + (nxV l kk 95)))]] : List (List D))).length) * (1 + 1) ≤ 140737488355328 from (by intros; (try simp only [zq11] at *); (try simp only [zq12] at *); omega)) (conj1 (show inR ((j : Int) + 1) from (by intros; (try simp only [zq11] at *); (try simp only [zq12] at *); omega)))))) ?_ ?_
    ·(try dsimp only); omega
    ·have hjs := ch_step (l := l) (kk := kk) (N := (nxV l (nxK l k 18) 9).toNat) (j := j) (by omega)
     refine ⟨by omega, hN.next _, by rw [hes, bytesD_snoc], by simp [ha], ?_, ?_⟩
     ·rw [← h3, hjs]; simp
     ·rw [← h4, hjs]
   ·(try simp only [blS] at hc6)
    refine zE hG [] (.exit 0) (⟨[(2, [], .c (.d (.s (S [])))), (6, [], .c (.ar 9000 0))], [(0, .box 68 [.d (.sl 1 (intsD l)), .d (.i kk)]), (9000, .arr 0 5 1 (es))]⟩) (by kernel_rfl) conj0 rfl ?_
    refine zR hG [(13, 1, .call (.c (.d (.s (S acc)))) [] [])] [] (.c (.d (.s (S acc)))) [(0, .box 68 [.d (.sl 1 (intsD l)), .d (.i kk)])] (by kernel_rfl) (conj1 (show es = bytesD (S acc).data.toList from (by rw [hes, bytesD_S]))) ?_ ?_
    ·have e : txM l k = chM l (txN l k).toNat (txK l k) := by rw [txM, if_neg (by omega)]
     have e2 : txN l k = nxV l (nxK l k 18) 9 := by rw [txN, if_neg hc2]
     have e3 : txK l k = nxK l (nxK l k 18) 9 := by rw [txK, if_neg hc2]
     have hz : (nxV l (nxK l k 18) 9).toNat - j = 0 := by omega
     rw [hz] at h3
     simp only [chM, List.append_nil] at h3
     rw [e, e2, e3, ← h3]
    ·have e : txM l k = chM l (txN l k).toNat (txK l k) := by rw [txM, if_neg (by omega)]
     have e2 : txN l k = nxV l (nxK l k 18) 9 := by rw [txN, if_neg hc2]
     have e3 : txK l k = nxK l (nxK l k 18) 9 := by rw [txK, if_neg hc2]
     have hz : (nxV l (nxK l k 18) 9).toNat - j = 0 := by omega
     rw [hz] at h4
     simp only [chM] at h4
     rw [e, e2, e3, ← h4]
theorem numDec_ok (l : List Int) (k : Int) (h : NumOk l k) :
  SpG g 71 [.c (.bx 0 0)] [(0, .box 68 [.d (.sl 1 (intsD l)), .d (.i k)])] (.agg [.d (.i ((dcM l k).1)), .d (.i ((dcM l k).2.1))]) [(0, .box 68 [.d (.sl 1 (intsD l)), .d (.i ((dcM l k).2.2))])] := by
 have a1 := nxV_bd l k (n := 2001) (by decide)
 have a2 := nxV_bd l (nxK l (nxK l k 2001) 8) (n := 2000000000000001) (by decide)
 have a3 := nxV_bd l (nxK l (nxK l k 2001) 8) (n := 4) (by decide)
 have a4 := nxV_bd l (nxK l (nxK l (nxK l k 2001) 8) 2000000000000001) (n := 4) (by decide)
 refine enterB 23 Tryz.func71 (by kernel_rfl) fun fr hG => ?_
 refine zC hG [(1, 1, .call (.c (.d (.i (nxV l k 2001)))) [] [[.sl 1 (intsD l), .i (nxK l k 2001)]]), (2, 1, .call (.c (.d (.i (nxV l (nxK l k 2001) 8)))) [] [[.sl 1 (intsD l), .i (nxK l (nxK l k 2001) 8)]])] [1, 0, 1, 1] (decide ((nxV l (nxK l k 2001) 8 : Int) = 7)) (⟨[(0, [], .c (.bx 0 0)), (2, [], .c (.bx 100 0)), (3, [], .c (.d (.i ((nxV l k 2001) - 1000))))], [(0, .box 68 [.d (.sl 1 (intsD l)), .d (.i (nxK l (nxK l k 2001) 8))]), (100, .box 26 [.d (.i 0), .d (.i 0)])]⟩) (by kernel_rfl) (conjC ((next_ok l k 2001 (by (repeat (first | assumption | apply NumOk.next))) (by decide) : SpG g _ _ _ _ _)) (conjC (show inR ((nxV l k 2001) - 1000) from (by intros; (try simp only [zq11] at *); (try simp only [zq12] at *); omega)) (conj1 ((next_ok l (nxK l k 2001) 8 (by (repeat (first | assumption | apply NumOk.next))) (by decide) : SpG g _ _ _ _ _))))) (fun hc1 => ?_) (fun hc1 => ?_)
 ·(try simp only [blS] at hc1)
  refine zR hG [(3, 1, .call (.c (.d (.i (nxV l (nxK l (nxK l k 2001) 8) 2000000000000001)))) [] [[.sl 1 (intsD l), .i (nxK l (nxK l (nxK l k 2001) 8) 2000000000000001)]]), (4, 2, .call (.c (.d (.i (nxV l (nxK l (nxK l (nxK l k 2001) 8) 2000000000000001) 4)))) [] [[.sl 1 (intsD l), .i (nxK l (nxK l (nxK l (nxK l k 2001) 8) 2000000000000001) 4)]]), (4, 3, .call (.tup [(true, [.d (.i (fitN (decide ((nxV l (nxK l (nxK l k 2001) 8) 2000000000000001) - 1000000000000000 < 0)) ((nxV l (nxK l (nxK l k 2001) 8) 2000000000000001) - 1000000000000000).natAbs (nxV l (nxK l (nxK l (nxK l k 2001) 8) 2000000000000001) 4))), .d (.i (fitS ((nxV l (nxK l (nxK l k 2001) 8) 2000000000000001) - 1000000000000000).natAbs (nxV l (nxK l (nxK l (nxK l k 2001) 8) 2000000000000001) 4)))]), (false, [.d (.b (fitB ((nxV l (nxK l (nxK l k 2001) 8) 2000000000000001) - 1000000000000000).natAbs (nxV l (nxK l (nxK l (nxK l k 2001) 8) 2000000000000001) 4)))])]) [] [])] [] (.agg [.d (.i (fitN (decide ((nxV l (nxK l (nxK l k 2001) 8) 2000000000000001) - 1000000000000000 < 0)) ((nxV l (nxK l (nxK l k 2001) 8) 2000000000000001) - 1000000000000000).natAbs (nxV l (nxK l (nxK l (nxK l k 2001) 8) 2000000000000001) 4))), .d (.i (fitS ((nxV l (nxK l (nxK l k 2001) 8) 2000000000000001) - 1000000000000000).natAbs (nxV l (nxK l (nxK l (nxK l k 2001) 8) 2000000000000001) 4)))]) [(0, .box 68 [.d (.sl 1 (intsD l)), .d (.i (nxK l (nxK l (nxK l (nxK l k 2001) 8) 2000000000000001) 4))])] (by kernel_rfl) (conjC ((next_ok l (nxK l (nxK l k 2001) 8) 2000000000000001 (by (repeat (first | assumption | apply NumOk.next))) (by decide) : SpG g _ _ _ _ _)) (conjC (show inR ((nxV l (nxK l (nxK l k 2001) 8) 2000000000000001) - 1000000000000000) from (by intros; (try simp only [zq11] at *); (try simp only [zq12] at *); omega)) (conjC ((next_ok l (nxK l (nxK l (nxK l k 2001) 8) 2000000000000001) 4 (by (repeat (first | assumption | apply NumOk.next))) (by decide) : SpG g _ _ _ _ _)) (conj1 ((make_ok ((nxV l (nxK l (nxK l k 2001) 8) 2000000000000001) - 1000000000000000) (nxV l (nxK l (nxK l (nxK l k 2001) 8) 2000000000000001) 4) (by omega) (by omega) (by omega) (by omega) : SpG g _ _ _ _ _)))))) ?_ ?_
  ·simp [dcM, dcN, dcK, hc1]
  ·simp [dcM, dcN, dcK, hc1]
 ·(try simp only [blS] at hc1)
  refine zR hG [(4, 2, .call (.c (.d (.i (nxV l (nxK l (nxK l k 2001) 8) 4)))) [] [[.sl 1 (intsD l), .i (nxK l (nxK l (nxK l k 2001) 8) 4)]]), (4, 3, .call (.tup [(true, [.d (.i (fitN (decide ((nxV l k 2001) - 1000 < 0)) ((nxV l k 2001) - 1000).natAbs (nxV l (nxK l (nxK l k 2001) 8) 4))), .d (.i (fitS ((nxV l k 2001) - 1000).natAbs (nxV l (nxK l (nxK l k 2001) 8) 4)))]), (false, [.d (.b (fitB ((nxV l k 2001) - 1000).natAbs (nxV l (nxK l (nxK l k 2001) 8) 4)))])]) [] [])] [] (.agg [.d (.i (fitN (decide ((nxV l k 2001) - 1000 < 0)) ((nxV l k 2001) - 1000).natAbs (nxV l (nxK l (nxK l k 2001) 8) 4))), .d (.i (fitS ((nxV l k 2001) - 1000).natAbs (nxV l (nxK l (nxK l k 2001) 8) 4)))]) [(0, .box 68 [.d (.sl 1 (intsD l)), .d (.i (nxK l (nxK l (nxK l k 2001) 8) 4))])] (by kernel_rfl) (conjC ((next_ok l (nxK l (nxK l k 2001) 8) 4 (by (repeat (first | assumption | apply NumOk.next))) (by decide) : SpG g _ _ _ _ _)) (conj1 ((make_ok ((nxV l k 2001) - 1000) (nxV l (nxK l (nxK l k 2001) 8) 4) (by omega) (by omega) (by omega) (by omega) : SpG g _ _ _ _ _)))) ?_ ?_
  ·simp [dcM, dcN, dcK, hc1]
  ·simp [dcM, dcN, dcK, hc1]
theorem numCell_ok (l : List Int) (k kind : Int) (h : NumOk l k) (hk : ¬ kind = 5) :
  SpG g 34 [.c (.bx 0 0), .c (.d (.i kind))] [(0, .box 68 [.d (.sl 1 (intsD l)), .d (.i k)])] (.agg [.d (.i (((cvM l k kind).1).kind)), .d (.s (S ((cvM l k kind).1).s)), .d (.i (((cvM l k kind).1).dn)), .d (.i (((cvM l k kind).1).ds)), .d (.i (((cvM l k kind).1).n)), .d (.nil), .d (.nil)]) [(0, .box 68 [.d (.sl 1 (intsD l)), .d (.i ((cvM l k kind).2))])] := by
 have a1 := nxV_bd l k (n := 1000) (by decide)
 refine enterB 45 Tryz.func34 (by kernel_rfl) fun fr hG => ?_
 refine zC hG [] [1, 0, 1, 0, 1] (decide ((kind : Int) = 1)) (⟨[(0, [], .c (.bx 0 0)), (1, [], .c (.d (.i kind))), (4, [], .c (.bx 100 0)), (6, [], .c (.d (.i kind)))], [(0, .box 68 [.d (.sl 1 (intsD l)), .d (.i k)]), (100, .box 30 [.d (.i 0), .d (.s (S [])), .d (.i 0), .d (.i 0), .d (.i 0), .d (.nil), .d (.nil)])]⟩) (by kernel_rfl) conj0 (fun hc1 => ?_) (fun hc1 => ?_)
 ·(try simp only [blS] at hc1)
  refine zR hG [(3, 2, .call (.c (.d (.s (S (txM l k).1)))) [] [[.sl 1 (intsD l), .i ((txM l k).2)]])] [] (.agg [.d (.i kind), .d (.s (S (txM l k).1)), .d (.i 0), .d (.i 0), .d (.i 0), .d (.nil), .d (.nil)]) [(0, .box 68 [.d (.sl 1 (intsD l)), .d (.i ((txM l k).2))])] (by kernel_rfl) (conj1 ((numText_ok l k (by (repeat (first | assumption | apply NumOk.next))) : SpG g _ _ _ _ _))) ?_ ?_
  ·simp [cvM, *]
  ·simp [cvM, *]
 ·(try simp only [blS] at hc1)
  refine zc hG [] [1, 1, 1, 0, 1, 0, 1] (decide ((kind : Int) = 2)) (by kernel_rfl) conj0 (fun hc2 => ?_) (fun hc2 => ?_)
  ·(try simp only [blS] at hc2)
   refine zR hG [(5, 2, .call (.agg [.d (.i ((dcM l k).1)), .d (.i ((dcM l k).2.1))]) [] [[.sl 1 (intsD l), .i ((dcM l k).2.2)]])] [] (.agg [.d (.i kind), .d (.s (S [])), .d (.i ((dcM l k).1)), .d (.i ((dcM l k).2.1)), .d (.i 0), .d (.nil), .d (.nil)]) [(0, .box 68 [.d (.sl 1 (intsD l)), .d (.i ((dcM l k).2.2))])] (by kernel_rfl) (conj1 ((numDec_ok l k (by (repeat (first | assumption | apply NumOk.next))) : SpG g _ _ _ _ _))) ?_ ?_
   ·simp [cvM, *]
   ·simp [cvM, *]
  ·(try simp only [blS] at hc2)
   refine zc hG [] [1, 1, 1, 1, 1, 0, 1, 0, 1] (decide ((kind : Int) = 3)) (by kernel_rfl) conj0 (fun hc3 => ?_) (fun hc3 => ?_)
   ·(try simp only [blS] at hc3)
    refine zC hG [(7, 1, .call (.c (.d (.i (nxV l k 1000)))) [] [[.sl 1 (intsD l), .i (nxK l k 1000)]]), (8, 1, .call (.c (.d (.i (nxV l (nxK l k 1000) 8)))) [] [[.sl 1 (intsD l), .i (nxK l (nxK l k 1000) 8)]])] [1, 0, 1, 0, 1, 1, 1, 1, 1, 0, 1, 0, 1] (decide ((nxV l (nxK l k 1000) 8 : Int) = 7)) (⟨[(0, [], .c (.bx 0 0)), (1, [], .c (.d (.i kind))), (4, [], .c (.bx 100 0)), (5, [], .c (.d (.i (738000 + (nxV l k 1000)))))], [(0, .box 68 [.d (.sl 1 (intsD l)), .d (.i (nxK l (nxK l k 1000) 8))]), (100, .box 30 [.d (.i 0), .d (.s (S [])), .d (.i 0), .d (.i 0), .d (.i 0), .d (.nil), .d (.nil)])]⟩) (by kernel_rfl) (conjC ((next_ok l k 1000 (by (repeat (first | assumption | apply NumOk.next))) (by decide) : SpG g _ _ _ _ _)) (conjC (show inR (738000 + (nxV l k 1000)) from (by intros; (try simp only [zq11] at *); (try simp only [zq12] at *); omega)) (conj1 ((next_ok l (nxK l k 1000) 8 (by (repeat (first | assumption | apply NumOk.next))) (by decide) : SpG g _ _ _ _ _))))) (fun hc4 => ?_) (fun hc4 => ?_)
    ·(try simp only [blS] at hc4)
     refine zR hG [(9, 1, .call (.c (.d (.i (nxV l (nxK l (nxK l k 1000) 8) 3652059)))) [] [[.sl 1 (intsD l), .i (nxK l (nxK l (nxK l k 1000) 8) 3652059)]])] [] (.agg [.d (.i kind), .d (.s (S [])), .d (.i 0), .d (.i 0), .d (.i (nxV l (nxK l (nxK l k 1000) 8) 3652059)), .d (.nil), .d (.nil)]) [(0, .box 68 [.d (.sl 1 (intsD l)), .d (.i (nxK l (nxK l (nxK l k 1000) 8) 3652059))])] (by kernel_rfl) (conj1 ((next_ok l (nxK l (nxK l k 1000) 8) 3652059 (by (repeat (first | assumption | apply NumOk.next))) (by decide) : SpG g _ _ _ _ _))) ?_ ?_
     ·simp [cvM, *]
     ·simp [cvM, *]
    ·(try simp only [blS] at hc4)
     refine zR hG [] [] (.agg [.d (.i kind), .d (.s (S [])), .d (.i 0), .d (.i 0), .d (.i (738000 + (nxV l k 1000))), .d (.nil), .d (.nil)]) [(0, .box 68 [.d (.sl 1 (intsD l)), .d (.i (nxK l (nxK l k 1000) 8))])] (by kernel_rfl) conj0 ?_ ?_
     ·simp [cvM, *]
     ·simp [cvM, *]
   ·(try simp only [blS] at hc3)
    refine zc hG [] [1, 1, 1, 1, 1, 1, 1, 0, 1, 0, 1] (decide ((kind : Int) = 4)) (by kernel_rfl) conj0 (fun hc5 => ?_) (fun hc5 => ?_)
    ·(try simp only [blS] at hc5)
     refine zR hG [(12, 2, .call (.c (.d (.i (nxV l k 2)))) [] [[.sl 1 (intsD l), .i (nxK l k 2)]])] [] (.agg [.d (.i kind), .d (.s (S [])), .d (.i 0), .d (.i 0), .d (.i (nxV l k 2)), .d (.nil), .d (.nil)]) [(0, .box 68 [.d (.sl 1 (intsD l)), .d (.i (nxK l k 2))])] (by kernel_rfl) (conj1 ((next_ok l k 2 (by (repeat (first | assumption | apply NumOk.next))) (by decide) : SpG g _ _ _ _ _))) ?_ ?_
     ·simp [cvM, *]
     ·simp [cvM, *]
    ·(try simp only [blS] at hc5)
     refine zC hG [] [1, 1, 1, 1, 1, 1, 1, 1, 1, 0, 1, 0, 1] (decide ((kind : Int) = 5)) (⟨[(0, [], .c (.bx 0 0)), (4, [], .c (.bx 100 0))], [(0, .box 68 [.d (.sl 1 (intsD l)), .d (.i k)]), (100, .box 30 [.d (.i 0), .d (.s (S [])), .d (.i 0), .d (.i 0), .d (.i 0), .d (.nil), .d (.nil)])]⟩) (by kernel_rfl) conj0 (fun hc6 => ?_) (fun hc6 => ?_)
     ·(try simp only [blS] at hc6)
      exact absurd hc6 hk
     ·(try simp only [blS] at hc6)
      refine zR hG [(15, 1, .call (.c (.d (.i (nxV l k 100)))) [] [[.sl 1 (intsD l), .i (nxK l k 100)]])] [] (.agg [.d (.i 0), .d (.s (S [])), .d (.i 0), .d (.i 0), .d (.i (nxV l k 100)), .d (.nil), .d (.nil)]) [(0, .box 68 [.d (.sl 1 (intsD l)), .d (.i (nxK l k 100))])] (by kernel_rfl) (conj1 ((next_ok l k 100 (by (repeat (first | assumption | apply NumOk.next))) (by decide) : SpG g _ _ _ _ _))) ?_ ?_
      ·simp [cvM, *]
      ·simp [cvM, *]
theorem numTable_ok (l : List Int) (k : Int) (h : NumOk l k) :
  SpG g 72 [.c (.bx 0 0)] [(0, .box 68 [.d (.sl 1 (intsD l)), .d (.i k)])] (.agg [.d (.i 5), .d (.s (S [])), .d (.i 0), .d (.i 0), .d (.i 0), .d (.sl 1 (strs ((tbM l k).1.cols))), .d (.sl 1 (rowsD ((tbM l k).1.rows)))]) [(0, .box 68 [.d (.sl 1 (intsD l)), .d (.i ((tbM l k).2))])] := by
 have a1 := nxV_bd l k (n := 4) (by decide)
 refine enterB 69 Tryz.func72 (by kernel_rfl) fun fr hG => ?_
 refine zA hG [(2, 1, .call (.c (.d (.i (nxV l k 4)))) [] [[.sl 1 (intsD l), .i (nxK l k 4)]])] [0, 1, 0, 1, 1, 1, 1] (⟨[(0, [], .c (.bx 0 0)), (2, [], .c (.bx 100 0)), (3, [], .c (.bx 201 0)), (4, [], .c (.d (.i (nxV l k 4)))), (5, [], .c (.d (.nil))), (6, [], .c (.d (.i 0)))], [(0, .box 68 [.d (.sl 1 (intsD l)), .d (.i (nxK l k 4))]), (100, .box 30 [.d (.i 0), .d (.s (S [])), .d (.i 0), .d (.i 0), .d (.i 0), .d (.nil), .d (.nil)]), (201, .box 30 [.d (.i 5), .d (.s (S [])), .d (.i 0), .d (.i 0), .d (.i 0), .d (.nil), .d (.nil)])]⟩) [(5, 9001, 3, 1)] [(201, 5, 9002, 9, 1)] (fun (zz : Nat × List (List D) × List (List D) × List Int × Int) => match zz with | (j, ek, ec, acck, kk) => ((nxV l k 4).toNat - j, ⟨[(0, [], .c (.bx 0 0)), (2, [], .c (.bx 100 0)), (3, [], .c (.bx 201 0)), (4, [], .c (.d (.i (nxV l k 4)))), (5, [], .c (.ar 9001 0)), (6, [], .c (.d (.i (j : Int))))], [(0, .box 68 [.d (.sl 1 (intsD l)), .d (.i kk)]), (100, .box 30 [.d (.i 0), .d (.s (S [])), .d (.i 0), .d (.i 0), .d (.i 0), .d (.nil), .d (.nil)]), (201, .box 30 [.d (.i 5), .d (.s (S [])), .d (.i 0), .d (.i 0), .d (.i 0), .ar 9002 0, .d (.nil)]), (9001, .arr 0 3 1 (ek)), (9002, .arr 0 9 1 (ec))]⟩, j ≤ (nxV l k 4).toNat ∧ NumOk l kk ∧ ek = intsD acck ∧ ec = strs (abcL.take j) ∧ acck.length = j ∧ (∀ x ∈ acck, 1 ≤ x ∧ x ≤ 4) ∧ acck ++ (kdM l ((nxV l k 4).toNat - j) kk).1 = (tbK l k).1 ∧ (kdM l ((nxV l k 4).toNat - j) kk).2 = (tbK l k).2)) (0, [], [], [], (nxK l k 4)) (by kernel_rfl) (conj1 ((next_ok l k 4 (by (repeat (first | assumption | apply NumOk.next))) (by decide) : SpG g _ _ _ _ _))) (by kernel_rfl) (by kernel_rfl) ?_ ?_
 ·exact ⟨Nat.zero_le _, (by (repeat (first | assumption | apply NumOk.next))), rfl, rfl, rfl, by simp, by simp [tbK], by simp [tbK]⟩
 rintro ⟨j, ek, ec, acck, kk⟩ ⟨hj, hN, hek, hec, ha, hkd, h3, h4⟩
 have hlen : ek.length = j := by rw [hek, intsD, List.length_map, ha]
 have hlen2 : ec.length = j := by rw [hec, strs, List.length_map, List.length_take, show abcL.length = 3 from rfl]; omega
 have hx := nxV_bd l kk (n := 4) (by decide)
 refine zc hG [] [1, 0] (decide (((j : Int) : Int) < (nxV l k 4))) (by kernel_rfl) conj0 (fun hc2 => ?_) (fun hc2 => ?_)
 ·(try simp only [blS] at hc2)
  refine zD hG [(7, 5, .elem (strD (abcL.getD j []))), (8, 2, .call (.c (.d (.i (nxV l kk 4)))) [] [[.sl 1 (intsD l), .i (nxK l kk 4)]])] (j + 1, ek ++ [[D.i (1 + nxV l kk 4)]], ec ++ [[D.s (S (abcL.getD j []))]], acck ++ [1 + nxV l kk 4], nxK l kk 4) (by kernel_rfl) (conjC (show (0 : Int) ≤ (j : Int) ∧ (j : Int) < ((([[.s (S [97])], [.s (S [98])], [.s (S [99])]] : List (List D))).length : Int) from (by intros; (try simp only [zq11] at *); (try simp only [zq12] at *); omega)) (conjC (show (([[.s (S [97])], [.s (S [98])], [.s (S [99])]] : List (List D)))[j]? = some (strD (abcL.getD j [])) from (abc_at (by omega))) (conjC (show ((ec).length + (([[.s (S (abcL.getD j []))]] : List (List D))).length) * (16 + 1) ≤ 140737488355328 from (by intros; (try simp only [zq11] at *); (try simp only [zq12] at *); omega)) (conjC ((next_ok l kk 4 (by (repeat (first | assumption | apply NumOk.next))) (by decide) : SpG g _ _ _ _ _)) (conjC (show inR (1 + (nxV l kk 4)) from (by intros; (try simp only [zq11] at *); (try simp only [zq12] at *); omega)) (conjC (show ((ek).length + (([[.i (1 + (nxV l kk 4))]] : List (List D))).length) * (8 + 1) ≤ 140737488355328 from (by intros; (try simp only [zq11] at *); (try simp only [zq12] at *); omega)) (conj1 (show inR ((j : Int) + 1) from (by intros; (try simp only [zq11] at *); (try simp only [zq12] at *); omega))))))))) ?_ ?_
  ·(try dsimp only); omega
  ·have hjs := kd_step (l := l) (kk := kk) (N := (nxV l k 4).toNat) (j := j) (by omega)
   refine ⟨by omega, hN.next _, by rw [hek]; simp [intsD, intD], ?_, by simp [ha], ?_, ?_, ?_⟩
   ·rw [hec, take_succ_strs (show j < abcL.length by rw [show abcL.length = 3 from rfl]; omega)]; rfl
   ·intro x hx2
    rcases List.mem_append.1 hx2 with hx2 | hx2
    ·exact hkd x hx2
    ·simp at hx2; omega
   ·rw [← h3, hjs]; simp
   ·rw [← h4, hjs]
 ·(try simp only [blS] at hc2)
  have hjm : j = (nxV l k 4).toNat := by omega
  have hz0 : (nxV l k 4).toNat - j = 0 := by omega
  rw [hz0] at h3 h4
  simp only [kdM, List.append_nil] at h3 h4
  have e1 : (tbK l k).1 = acck := h3.symm
  have e2 : (tbK l k).2 = kk := h4.symm
  have hml : (tbK l k).1.length = (nxV l k 4).toNat := by rw [e1, ha, hjm]
  have a5 := nxV_bd l kk (n := 5) (by decide)
  have e3 : (nxV l (tbK l k).2 5).toNat = (nxV l kk 5).toNat := by rw [e2]
  refine zE hG [] (.exit 0) (⟨[(0, [], .c (.bx 0 0)), (2, [], .c (.bx 100 0)), (3, [], .c (.bx 201 0)), (4, [], .c (.d (.i (nxV l k 4)))), (5, [], .c (.ar 9001 0))], [(0, .box 68 [.d (.sl 1 (intsD l)), .d (.i kk)]), (100, .box 30 [.d (.i 0), .d (.s (S [])), .d (.i 0), .d (.i 0), .d (.i 0), .d (.nil), .d (.nil)]), (201, .box 30 [.d (.i 5), .d (.s (S [])), .d (.i 0), .d (.i 0), .d (.i 0), .ar 9002 0, .d (.nil)]), (9001, .arr 0 3 1 (ek)), (9002, .arr 0 9 1 (ec))]⟩) (by kernel_rfl) conj0 rfl ?_
  refine zA hG [(9, 1, .call (.c (.d (.i (nxV l kk 5)))) [] [[.sl 1 (intsD l), .i (nxK l kk 5)]])] [0, 1, 0, 1, 1, 1, 1, 1, 1] (⟨[(0, [], .c (.bx 0 0)), (2, [], .c (.bx 100 0)), (3, [], .c (.bx 201 0)), (4, [], .c (.d (.i (nxV l k 4)))), (5, [], .c (.ar 9001 0)), (7, [], .c (.d (.i (nxV l kk 5)))), (8, [], .c (.d (.i 0)))], [(0, .box 68 [.d (.sl 1 (intsD l)), .d (.i (nxK l kk 5))]), (100, .box 30 [.d (.i 0), .d (.s (S [])), .d (.i 0), .d (.i 0), .d (.i 0), .d (.nil), .d (.nil)]), (201, .box 30 [.d (.i 5), .d (.s (S [])), .d (.i 0), .d (.i 0), .d (.i 0), .ar 9002 0, .d (.nil)]), (9001, .arr 0 3 1 (ek)), (9002, .arr 0 9 1 (ec))]⟩) [] [(201, 6, 9003, 33, 1)] (fun (zz : Nat × List (List D) × List (List Cl) × Int) => match zz with | (i, er, accr, kr) => ((nxV l (tbK l k).2 5).toNat - i, ⟨[(0, [], .c (.bx 0 0)), (2, [], .c (.bx 100 0)), (3, [], .c (.bx 201 0)), (4, [], .c (.d (.i (nxV l k 4)))), (5, [], .c (.ar 9001 0)), (7, [], .c (.d (.i (nxV l kk 5)))), (8, [], .c (.d (.i (i : Int))))], [(0, .box 68 [.d (.sl 1 (intsD l)), .d (.i kr)]), (100, .box 30 [.d (.i 0), .d (.s (S [])), .d (.i 0), .d (.i 0), .d (.i 0), .d (.nil), .d (.nil)]), (201, .box 30 [.d (.i 5), .d (.s (S [])), .d (.i 0), .d (.i 0), .d (.i 0), .ar 9002 0, .ar 9003 0]), (9001, .arr 0 3 1 (ek)), (9002, .arr 0 9 1 (ec)), (9003, .arr 0 33 1 (er))]⟩, i ≤ (nxV l (tbK l k).2 5).toNat ∧ NumOk l kr ∧ er = rowsD accr ∧ accr.length = i ∧ accr ++ (rsM l (tbK l k).1 ((nxV l (tbK l k).2 5).toNat - i) kr).1 = (tbR l k).1 ∧ (rsM l (tbK l k).1 ((nxV l (tbK l k).2 5).toNat - i) kr).2 = (tbR l k).2)) (0, [], [], nxK l kk 5) (by kernel_rfl) (conj1 ((next_ok l kk 5 (by (repeat (first | assumption | apply NumOk.next))) (by decide) : SpG g _ _ _ _ _))) (by kernel_rfl) (by kernel_rfl) ?_ ?_
  ·exact ⟨Nat.zero_le _, (by (repeat (first | assumption | apply NumOk.next))), rfl, rfl, by simp [tbR, e2], by simp [tbR, e2]⟩
  rintro ⟨i, er, accr, kr⟩ ⟨hi, hNr, her, har, hr3, hr4⟩
  have hlen3 : er.length = i := by rw [her, rowsD, List.length_map, har]
  refine zc hG [] [1, 0] (decide (((i : Int) : Int) < (nxV l kk 5))) (by kernel_rfl) conj0 (fun hc4 => ?_) (fun hc4 => ?_)
  ·(try simp only [blS] at hc4)
   refine zA hG [] [0, 1, 0, 1, 0, 0, 1] (⟨[(0, [], .c (.bx 0 0)), (2, [], .c (.bx 100 0)), (3, [], .c (.bx 201 0)), (4, [], .c (.d (.i (nxV l k 4)))), (5, [], .c (.ar 9001 0)), (7, [], .c (.d (.i (nxV l kk 5)))), (8, [], .c (.d (.i (i : Int)))), (9, [], .c (.d (.nil))), (10, [], .c (.d (.i 0)))], [(0, .box 68 [.d (.sl 1 (intsD l)), .d (.i kr)]), (100, .box 30 [.d (.i 0), .d (.s (S [])), .d (.i 0), .d (.i 0), .d (.i 0), .d (.nil), .d (.nil)]), (201, .box 30 [.d (.i 5), .d (.s (S [])), .d (.i 0), .d (.i 0), .d (.i 0), .ar 9002 0, .ar 9003 0]), (9001, .arr 0 3 1 (ek)), (9002, .arr 0 9 1 (ec)), (9003, .arr 0 33 1 (er))]⟩) [(9, 9004, 30, 7)] [] (fun (zz : Nat × List (List D) × List Cl × Int) => match zz with | (c, et, acct, kt) => ((tbK l k).1.length - c, ⟨[(0, [], .c (.bx 0 0)), (2, [], .c (.bx 100 0)), (3, [], .c (.bx 201 0)), (4, [], .c (.d (.i (nxV l k 4)))), (5, [], .c (.ar 9001 0)), (7, [], .c (.d (.i (nxV l kk 5)))), (8, [], .c (.d (.i (i : Int)))), (9, [], .c (.ar 9004 0)), (10, [], .c (.d (.i (c : Int))))], [(0, .box 68 [.d (.sl 1 (intsD l)), .d (.i kt)]), (100, .box 30 [.d (.i 0), .d (.s (S [])), .d (.i 0), .d (.i 0), .d (.i 0), .d (.nil), .d (.nil)]), (201, .box 30 [.d (.i 5), .d (.s (S [])), .d (.i 0), .d (.i 0), .d (.i 0), .ar 9002 0, .ar 9003 0]), (9001, .arr 0 3 1 (ek)), (9002, .arr 0 9 1 (ec)), (9003, .arr 0 33 1 (er)), (9004, .arr 0 30 7 (et))]⟩, c ≤ (tbK l k).1.length ∧ NumOk l kt ∧ et = rowD acct ∧ acct.length = c ∧ acct ++ (rwM l ((tbK l k).1.drop c) kt).1 = (rwM l (tbK l k).1 kr).1 ∧ (rwM l ((tbK l k).1.drop c) kt).2 = (rwM l (tbK l k).1 kr).2)) (0, [], [], kr) (by kernel_rfl) conj0 (by kernel_rfl) (by kernel_rfl) ?_ ?_
   ·exact ⟨Nat.zero_le _, hNr, rfl, rfl, by simp, by simp⟩
   rintro ⟨c, et, acct, kt⟩ ⟨hc, hNt, het, hat, ht3, ht4⟩
   have hlen4 : et.length = c := by rw [het, rowD, List.length_map, hat]
   refine zc hG [] [1, 0] (decide (((c : Int) : Int) < (nxV l k 4))) (by kernel_rfl) conj0 (fun hc6 => ?_) (fun hc6 => ?_)
   ·(try simp only [blS] at hc6)
    refine zC hG [(17, 1, .call (.c (.d (.i (nxV l kt 9)))) [] [[.sl 1 (intsD l), .i (nxK l kt 9)]])] [1, 0, 0, 1] (decide ((nxV l kt 9 : Int) = 8)) (⟨[(0, [], .c (.bx 0 0)), (2, [], .c (.bx 100 0)), (3, [], .c (.bx 201 0)), (4, [], .c (.d (.i (nxV l k 4)))), (5, [], .c (.ar 9001 0)), (7, [], .c (.d (.i (nxV l kk 5)))), (8, [], .c (.d (.i (i : Int)))), (9, [], .c (.ar 9004 0)), (10, [], .c (.d (.i (c : Int))))], [(0, .box 68 [.d (.sl 1 (intsD l)), .d (.i (nxK l kt 9))]), (100, .box 30 [.d (.i 0), .d (.s (S [])), .d (.i 0), .d (.i 0), .d (.i 0), .d (.nil), .d (.nil)]), (201, .box 30 [.d (.i 5), .d (.s (S [])), .d (.i 0), .d (.i 0), .d (.i 0), .ar 9002 0, .ar 9003 0]), (9001, .arr 0 3 1 (ek)), (9002, .arr 0 9 1 (ec)), (9003, .arr 0 33 1 (er)), (9004, .arr 0 30 7 (et))]⟩) (by kernel_rfl) (conj1 ((next_ok l kt 9 (by (repeat (first | assumption | apply NumOk.next))) (by decide) : SpG g _ _ _ _ _))) (fun hc7 => ?_) (fun hc7 => ?_)
    ·(try simp only [blS] at hc7)
     refine zD hG [(18, 2, .mask [none, none, none, none, none, some 1, some 1])] (c + 1, et ++ [ClD Cl.z], acct ++ [Cl.z], nxK l kt 9) (by kernel_rfl) (conjC (show ((et).length + (([[.i 0, .s (S []), .i 0, .i 0, .i 0, .sl 1 ([]), .sl 1 ([])]] : List (List D))).length) * (96 + 1) ≤ 140737488355328 from (by intros; (try simp only [zq11] at *); (try simp only [zq12] at *); omega)) (conj1 (show inR ((c : Int) + 1) from (by intros; (try simp only [zq11] at *); (try simp only [zq12] at *); omega)))) ?_ ?_
     ·(try dsimp only); omega
     ·have hjs := rw_step (l := l) (kds := (tbK l k).1) (kk := kt) (j := c) (by omega)
      have hce : ceM l ((tbK l k).1.getD c 0) kt = (Cl.z, nxK l kt 9) := by rw [ceM, if_pos hc7]
      rw [hce] at hjs
      refine ⟨by omega, hNt.next _, by rw [het]; simp [rowD], by simp [hat], ?_, ?_⟩
      ·rw [← ht3, hjs]; simp
      ·rw [← ht4, hjs]
    ·(try simp only [blS] at hc7)
     refine zD hG [(19, 5, .elem (intD (acck.getD c 0))), (19, 6, .call (.agg [.d (.i (((cvM l (nxK l kt 9) (acck.getD c 0)).1).kind)), .d (.s (S ((cvM l (nxK l kt 9) (acck.getD c 0)).1).s)), .d (.i (((cvM l (nxK l kt 9) (acck.getD c 0)).1).dn)), .d (.i (((cvM l (nxK l kt 9) (acck.getD c 0)).1).ds)), .d (.i (((cvM l (nxK l kt 9) (acck.getD c 0)).1).n)), .d (.nil), .d (.nil)]) [] [[.sl 1 (intsD l), .i ((cvM l (nxK l kt 9) (acck.getD c 0)).2)]]), (19, 7, .mask [none, none, none, none, none, some 1, some 1])] (c + 1, et ++ [ClD (cvM l (nxK l kt 9) (acck.getD c 0)).1], acct ++ [(cvM l (nxK l kt 9) (acck.getD c 0)).1], (cvM l (nxK l kt 9) (acck.getD c 0)).2) (by kernel_rfl) (conjC (show (0 : Int) ≤ (c : Int) ∧ (c : Int) < ((ek).length : Int) from (by intros; (try simp only [zq11] at *); (try simp only [zq12] at *); omega)) (conjC (show (ek)[c]? = some (intD (acck.getD c 0)) from (by intros; rw [hek]; exact map_nat _ (by omega))) (conjC ((numCell_ok l (nxK l kt 9) (acck.getD c 0) (by (repeat (first | assumption | apply NumOk.next))) (by have := hkd (acck.getD c 0) (getD_mem (by omega)); omega) : SpG g _ _ _ _ _)) (conjC (show ((et).length + (([[.i (((cvM l (nxK l kt 9) (acck.getD c 0)).1).kind), .s (S ((cvM l (nxK l kt 9) (acck.getD c 0)).1).s), .i (((cvM l (nxK l kt 9) (acck.getD c 0)).1).dn), .i (((cvM l (nxK l kt 9) (acck.getD c 0)).1).ds), .i (((cvM l (nxK l kt 9) (acck.getD c 0)).1).n), .sl 1 ([]), .sl 1 ([])]] : List (List D))).length) * (96 + 1) ≤ 140737488355328 from (by intros; (try simp only [zq11] at *); (try simp only [zq12] at *); omega)) (conj1 (show inR ((c : Int) + 1) from (by intros; (try simp only [zq11] at *); (try simp only [zq12] at *); omega))))))) ?_ ?_
     ·(try dsimp only); omega
     ·have hjs := rw_step (l := l) (kds := (tbK l k).1) (kk := kt) (j := c) (by omega)
      have hce : ceM l ((tbK l k).1.getD c 0) kt = cvM l (nxK l kt 9) (acck.getD c 0) := by rw [ceM, if_neg hc7, e1]
      rw [hce] at hjs
      refine ⟨by omega, cv_num (hNt.next _), by rw [het]; simp [rowD], by simp [hat], ?_, ?_⟩
      ·rw [← ht3, hjs]; simp
      ·rw [← ht4, hjs]
   ·(try simp only [blS] at hc6)
    refine zE hG [] (.exit 4) (⟨[(0, [], .c (.bx 0 0)), (2, [], .c (.bx 100 0)), (3, [], .c (.bx 201 0)), (4, [], .c (.d (.i (nxV l k 4)))), (5, [], .c (.ar 9001 0)), (7, [], .c (.d (.i (nxV l kk 5)))), (8, [], .c (.d (.i (i : Int)))), (9, [], .c (.ar 9004 0))], [(0, .box 68 [.d (.sl 1 (intsD l)), .d (.i kt)]), (100, .box 30 [.d (.i 0), .d (.s (S [])), .d (.i 0), .d (.i 0), .d (.i 0), .d (.nil), .d (.nil)]), (201, .box 30 [.d (.i 5), .d (.s (S [])), .d (.i 0), .d (.i 0), .d (.i 0), .ar 9002 0, .ar 9003 0]), (9001, .arr 0 3 1 (ek)), (9002, .arr 0 9 1 (ec)), (9003, .arr 0 33 1 (er)), (9004, .arr 0 30 7 (et))]⟩) (by kernel_rfl) conj0 rfl ?_
    refine stepK hG (⟨[(0, [], .c (.bx 0 0)), (2, [], .c (.bx 100 0)), (3, [], .c (.bx 201 0)), (4, [], .c (.d (.i (nxV l k 4)))), (5, [], .c (.ar 9001 0)), (7, [], .c (.d (.i (nxV l kk 5)))), (8, [], .c (.d (.i (i : Int)))), (9, [], .c (.d (.sl 7 (et))))], [(0, .box 68 [.d (.sl 1 (intsD l)), .d (.i kt)]), (100, .box 30 [.d (.i 0), .d (.s (S [])), .d (.i 0), .d (.i 0), .d (.i 0), .d (.nil), .d (.nil)]), (201, .box 30 [.d (.i 5), .d (.s (S [])), .d (.i 0), .d (.i 0), .d (.i 0), .ar 9002 0, .ar 9003 0]), (9001, .arr 0 3 1 (ek)), (9002, .arr 0 9 1 (ec)), (9003, .arr 0 33 1 (er))]⟩) (by kernel_rfl) ?_
    refine zD hG [] (i + 1, er ++ [[D.sl 7 et]], accr ++ [acct], kt) (by kernel_rfl) (conjC (show ((er).length + (([[.sl 7 (et)]] : List (List D))).length) * (24 + 1) ≤ 140737488355328 from (by intros; (try simp only [zq11] at *); (try simp only [zq12] at *); omega)) (conj1 (show inR ((i : Int) + 1) from (by intros; (try simp only [zq11] at *); (try simp only [zq12] at *); omega)))) ?_ ?_
    ·(try dsimp only); omega
    ·have hjs := rs_step (l := l) (kds := (tbK l k).1) (kk := kr) (N := (nxV l (tbK l k).2 5).toNat) (j := i) (by omega)
     have hz : (tbK l k).1.drop c = [] := List.drop_eq_nil_of_le (by omega)
     rw [hz] at ht3 ht4
     simp only [rwM, List.append_nil] at ht3 ht4
     refine ⟨by omega, hNt, ?_, by simp [har], ?_, ?_⟩
     ·rw [her, het]; simp [rowsD, rows1]
     ·rw [← hr3, hjs, ← ht3, ← ht4]; simp
     ·rw [← hr4, hjs, ← ht4]
  ·(try simp only [blS] at hc4)
   refine zE hG [] (.exit 2) (⟨[(2, [], .c (.bx 100 0)), (3, [], .c (.bx 201 0))], [(0, .box 68 [.d (.sl 1 (intsD l)), .d (.i kr)]), (100, .box 30 [.d (.i 0), .d (.s (S [])), .d (.i 0), .d (.i 0), .d (.i 0), .d (.nil), .d (.nil)]), (201, .box 30 [.d (.i 5), .d (.s (S [])), .d (.i 0), .d (.i 0), .d (.i 0), .ar 9002 0, .ar 9003 0]), (9002, .arr 0 9 1 (ec)), (9003, .arr 0 33 1 (er))]⟩) (by kernel_rfl) conj0 rfl ?_
   refine zR hG [] [] (.agg [.d (.i 5), .d (.s (S [])), .d (.i 0), .d (.i 0), .d (.i 0), .d (.sl 1 (ec)), .d (.sl 1 (er))]) [(0, .box 68 [.d (.sl 1 (intsD l)), .d (.i kr)])] (by kernel_rfl) conj0 ?_ ?_
   ·have hzr : (nxV l (tbK l k).2 5).toNat - i = 0 := by omega
    rw [hzr] at hr3
    simp only [rsM, List.append_nil] at hr3
    have f1 : (tbM l k).1.rows = accr := hr3.symm
    have f2 : (tbM l k).1.cols = abcL.take j := by rw [hjm]; rfl
    rw [f1, f2, hec, her]
   ·have hzr : (nxV l (tbK l k).2 5).toNat - i = 0 := by omega
    rw [hzr] at hr4
    simp only [rsM] at hr4
    have f1 : (tbM l k).2 = kr := hr4.symm
    rw [f1]
theorem numValue5_ok (l : List Int) (k kind : Int) (h : NumOk l k) (hk : kind = 5) :
  SpG g 34 [.c (.bx 0 0), .c (.d (.i kind))] [(0, .box 68 [.d (.sl 1 (intsD l)), .d (.i k)])] (.agg [.d (.i (((tbM l k).1).kind)), .d (.s (S ((tbM l k).1).s)), .d (.i (((tbM l k).1).dn)), .d (.i (((tbM l k).1).ds)), .d (.i (((tbM l k).1).n)), .d (.sl 1 (strs (((tbM l k).1).cols))), .d (.sl 1 (rowsD (((tbM l k).1).rows)))]) [(0, .box 68 [.d (.sl 1 (intsD l)), .d (.i ((tbM l k).2))])] := by
 refine enterB 45 Tryz.func34 (by kernel_rfl) fun fr hG => ?_
 refine zC hG [] [1, 0, 1, 0, 1] (decide ((kind : Int) = 1)) (⟨[(0, [], .c (.bx 0 0)), (1, [], .c (.d (.i kind))), (4, [], .c (.bx 100 0)), (6, [], .c (.d (.i kind)))], [(0, .box 68 [.d (.sl 1 (intsD l)), .d (.i k)]), (100, .box 30 [.d (.i 0), .d (.s (S [])), .d (.i 0), .d (.i 0), .d (.i 0), .d (.nil), .d (.nil)])]⟩) (by kernel_rfl) conj0 (fun hc1 => ?_) (fun hc1 => ?_)
 ·(try simp only [blS] at hc1)
  exfalso; omega
 ·(try simp only [blS] at hc1)
  refine zc hG [] [1, 1, 1, 0, 1, 0, 1] (decide ((kind : Int) = 2)) (by kernel_rfl) conj0 (fun hc2 => ?_) (fun hc2 => ?_)
  ·(try simp only [blS] at hc2)
   exfalso; omega
  ·(try simp only [blS] at hc2)
   refine zc hG [] [1, 1, 1, 1, 1, 0, 1, 0, 1] (decide ((kind : Int) = 3)) (by kernel_rfl) conj0 (fun hc3 => ?_) (fun hc3 => ?_)
   ·(try simp only [blS] at hc3)
    exfalso; omega
   ·(try simp only [blS] at hc3)
    refine zc hG [] [1, 1, 1, 1, 1, 1, 1, 0, 1, 0, 1] (decide ((kind : Int) = 4)) (by kernel_rfl) conj0 (fun hc4 => ?_) (fun hc4 => ?_)
    ·(try simp only [blS] at hc4)
     exfalso; omega
    ·(try simp only [blS] at hc4)
     refine zC hG [] [1, 1, 1, 1, 1, 1, 1, 1, 1, 0, 1, 0, 1] (decide ((kind : Int) = 5)) (⟨[(0, [], .c (.bx 0 0)), (4, [], .c (.bx 100 0))], [(0, .box 68 [.d (.sl 1 (intsD l)), .d (.i k)]), (100, .box 30 [.d (.i 0), .d (.s (S [])), .d (.i 0), .d (.i 0), .d (.i 0), .d (.nil), .d (.nil)])]⟩) (by kernel_rfl) conj0 (fun hc5 => ?_) (fun hc5 => ?_)
     ·(try simp only [blS] at hc5)
      exact zr hG [(14, 1, .call (.agg [.d (.i 5), .d (.s (S [])), .d (.i 0), .d (.i 0), .d (.i 0), .d (.sl 1 (strs ((tbM l k).1.cols))), .d (.sl 1 (rowsD ((tbM l k).1.rows)))]) [] [[.sl 1 (intsD l), .i ((tbM l k).2)]])] [] (by kernel_rfl) (conj1 ((numTable_ok l k (by (repeat (first | assumption | apply NumOk.next))) : SpG g _ _ _ _ _)))
     ·(try simp only [blS] at hc5)
      exfalso; omega
theorem numValue_ok (l : List Int) (k kind : Int) (h : NumOk l k) : SpG g 34 [.c (.bx 0 0), .c (.d (.i kind))] [(0, .box 68 [.d (.sl 1 (intsD l)), .d (.i k)])] (.agg [.d (.i (((vlM l k kind).1).kind)), .d (.s (S ((vlM l k kind).1).s)), .d (.i (((vlM l k kind).1).dn)), .d (.i (((vlM l k kind).1).ds)), .d (.i (((vlM l k kind).1).n)), .d (.sl 1 (strs (((vlM l k kind).1).cols))), .d (.sl 1 (rowsD (((vlM l k kind).1).rows)))]) [(0, .box 68 [.d (.sl 1 (intsD l)), .d (.i (vlM l k kind).2)])] := by
 by_cases hk : kind = 5
 ·have := numValue5_ok (g := g) l k kind h hk
  unfold vlM
  rw [if_pos hk]
  exact this
 ·have := spec_out [none, none, none, none, none, some 1, some 1] (numCell_ok (g := g) l k kind h hk)
  unfold vlM
  rw [if_neg hk]
  exact this
theorem made_ok (l : List Int) :
  SpG g 11 [.c (.d (.sl 1 (intsD l)))] [] (.agg [.d (.i ((madeV l).kind)), .d (.s (S (madeV l).s)), .d (.i ((madeV l).dn)), .d (.i ((madeV l).ds)), .d (.i ((madeV l).n)), .d (.sl 1 (strs ((madeV l).cols))), .d (.sl 1 (rowsD ((madeV l).rows)))]) [] := by
 refine enterB 11 Tryz.func11 (by kernel_rfl) fun fr hG => ?_
 refine stepLen 0 rfl fun hl => ?_
 exact zr hG [(2, 2, .call (.c (.d (.i (nxV l 0 6)))) [] [[.sl 1 (intsD l), .i (nxK l 0 6)]]), (2, 3, .call (.agg [.d (.i (((vlM l (nxK l 0 6) (nxV l 0 6)).1).kind)), .d (.s (S ((vlM l (nxK l 0 6) (nxV l 0 6)).1).s)), .d (.i (((vlM l (nxK l 0 6) (nxV l 0 6)).1).dn)), .d (.i (((vlM l (nxK l 0 6) (nxV l 0 6)).1).ds)), .d (.i (((vlM l (nxK l 0 6) (nxV l 0 6)).1).n)), .d (.sl 1 (strs (((vlM l (nxK l 0 6) (nxV l 0 6)).1).cols))), .d (.sl 1 (rowsD (((vlM l (nxK l 0 6) (nxV l 0 6)).1).rows)))]) [] [[.sl 1 (intsD l), .i ((vlM l (nxK l 0 6) (nxV l 0 6)).2)]])] [] (by kernel_rfl) (conjC ((next_ok l 0 6 (by have hN : NumOk l 0 := ⟨by omega, by omega, by simp only [intsD, List.length_map, maxLen] at hl; omega⟩; (repeat (first | assumption | apply NumOk.next))) (by decide) : SpG g _ _ _ _ _)) (conj1 ((numValue_ok l (nxK l 0 6) (nxV l 0 6) (by have hN : NumOk l 0 := ⟨by omega, by omega, by simp only [intsD, List.length_map, maxLen] at hl; omega⟩; (repeat (first | assumption | apply NumOk.next))) : SpG g _ _ _ _ _))))
end Go.Proofs.YtmpgfchkkemngaaGreatDoor
namespace Go.Proofs.YtmpgfchkkemngaaGreatDoor
open Go.ChangeShapes Go.WideShapes Go.ChangeAt Go.RowKit Go.V
theorem own : ownKnob Tryz.prog.godebug = none := by kernel_rfl
theorem laidOut : laidOutB Tryz.prog = true := by kernel_rfl
theorem var_block {W : World} {name : String} {b : Nat} {cs : Array Value} (hg : Tryz.prog.globalNamed name = some b) (h : W.var? Tryz.prog name = some cs) : ∃ ty fz, W.heap[b]? = some (.cells cs ty fz) := by
 unfold World.var? at h
 rw [hg, Option.bind_some] at h
 split at h
 ·rename_i c t f e
  cases h
  exact ⟨_, _, e⟩
 ·cases h
theorem int_of_ok {P : Program} {w : World} {r : Reach} {b : Nat} {t : TypeId} {v : Value} {k : IntKind} (h : P.underlying t = some (.int k)) (hc : Cell.ok P w r b t v) : ∃ n, v = .int k n := by
 unfold Cell.ok at hc
 rw [h] at hc
 cases v <;> simp at hc
 exact ⟨_, by rw [hc.1]⟩
theorem zero0 : ((begin Tryz.prog (fun _ _ => 0) default).world.heap[0]?).bind Obj.row? = some (#[.int .i64 0], 3) := by kernel_rfl
theorem globs : Tryz.prog.globals.size = 10 := by kernel_rfl
theorem int_var {P : Program} {W : World} {b : Nat} {t : TypeId} {zero : Array Value} (h : W.ShapedOpen P) (hb : b < P.globals.size) (hz : ((begin P (fun _ _ => 0) default).world.heap[b]?).bind Obj.row? = some (zero, t)) (h1 : zero.size = 1)
  (hB : P.buildable t = true) (hts : P.cellTypes P.depth t = some [t]) (hu : P.underlying t = some (.int .i64)) : ∃ n : Int, ∃ ty fz, W.heap[b]? = some (.cells #[.int .i64 n] ty fz) := by
 obtain ⟨cs, hb, hs, hr⟩ := h.1 b _ _ hb hz
 obtain ⟨ts, hts', _, hall⟩ := hr hB
 obtain rfl := Option.some.inj (hts.symm.trans hts')
 obtain ⟨l⟩ := cs
 rw [h1] at hs
 match l, hs, hb, hall with
 | [v], _, hb, hall =>
  obtain ⟨u, hu', hc⟩ := hall 0 v rfl
  obtain rfl : t = u := by simpa using hu'
  obtain ⟨n, rfl⟩ := int_of_ok hu hc
  exact ⟨n, _, _, hb⟩
theorem maxLen_of {W : World} (h : W.ShapedOpen Tryz.prog) : ∃ n : Int, ∃ ty fz, W.heap[0]? = some (.cells #[.int .i64 n] ty fz) :=
 int_var h (by rw [globs]; decide) zero0 rfl (by kernel_rfl) (by kernel_rfl) (by kernel_rfl)
theorem pow_of {W : World} {r : List (String × DataW Unit)} (h : laidMet Tryz.prog (("internal/strconv.uint64pow10", Rows.laid_internal_strconv_uint64pow10) :: r) W) : ∃ ty fz, W.heap[2]? = some (.cells (powL.map (Value.int .u64)).toArray ty fz) :=
 var_block (by kernel_rfl) (Lib.tabIs_of_head (k := .u64) (zs := powL) (t := 199) (e := 115) (n := 20) (g := 2) (by kernel_rfl) (by kernel_rfl) (by kernel_rfl) (by kernel_rfl) (by kernel_rfl) (by kernel_rfl) h)
theorem lens_of {W : World} {r : List (String × DataW Unit)} (h : laidMet Tryz.prog (("concord/date.lengths", Rows.laid_concord_date_lengths) :: r) W) : ∃ ty fz, W.heap[5]? = some (.cells (mlen.map (Value.int .i64)).toArray ty fz) :=
 var_block (by kernel_rfl) (Lib.tabIs_of_head (k := .i64) (zs := mlen) (t := 207) (e := 3) (n := 12) (g := 5) (by kernel_rfl) (by kernel_rfl) (by kernel_rfl) (by kernel_rfl) (by kernel_rfl) (by kernel_rfl) h)
theorem tens_of {W : World} {r : List (String × DataW Unit)} (h : laidMet Tryz.prog (("concord/decimal.tens", Rows.laid_concord_decimal_tens) :: r) W) : ∃ ty fz, W.heap[1]? = some (.cells (tensL.map (Value.int .i64)).toArray ty fz) :=
 var_block (by kernel_rfl) (Lib.tabIs_of_head (k := .i64) (zs := tensL) (t := 193) (e := 3) (n := 7) (g := 1) (by kernel_rfl) (by kernel_rfl) (by kernel_rfl) (by kernel_rfl) (by kernel_rfl) (by kernel_rfl) h)
def Starts (W : World) (g : Gv) : Prop := ∀ b cs, (b, cs) ∈ Gl g → ∃ ty fz, W.heap[b]? = some (.cells cs.toArray ty fz)
theorem starts9 {W : World} (hS : W.ShapedOpen Tryz.prog) (hL : laidMetH Tryz.prog Rows.valueLessRow.laid W) : ∃ g : Gv, g.more = [(1, tensL.map (Value.int .i64))] ∧ Starts W g := by
 rw [MakeChecks.laidMetH_plain _ _ _ (by kernel_rfl)] at hL
 obtain ⟨n, h0⟩ := maxLen_of hS
 have h2 := pow_of (laidMet.tail (laidMet.tail hL))
 have h5 := lens_of (laidMet.tail (laidMet.tail (laidMet.tail (laidMet.tail (laidMet.tail (laidMet.tail hL))))))
 have h1 := tens_of (laidMet.tail (laidMet.tail (laidMet.tail (laidMet.tail (laidMet.tail (laidMet.tail (laidMet.tail hL)))))))
 refine ⟨⟨n, [(1, tensL.map (Value.int .i64))]⟩, rfl, fun b cs h => ?_⟩
 simp only [Gl, List.mem_cons, Prod.mk.injEq, List.not_mem_nil, or_false] at h
 rcases h with ⟨rfl, rfl⟩ | ⟨rfl, rfl⟩ | ⟨rfl, rfl⟩ | ⟨rfl, rfl⟩
 ·exact h0
 ·exact h2
 ·exact h5
 ·exact h1
def pl0 : Pl := ⟨fun _ => True, fun _ => 0, fun _ => (none, 0)⟩
theorem sh0 (b : Nat) : Sh pl0 (lookO []) b := ⟨trivial, fun i h => by simp [blkOf, lookO] at h⟩
theorem call_of {g : Gv} {f : FuncId} {ins : List SV} {W : World} {args : List Value} (hS : SpG g f ins [] (.c (.d (.b true))) []) (hG : Starts W g)
  (ha : All2 (SvOk W pl0 (lookO [])) ins args) : Calls Tryz.prog f args.toArray W fun e W' => e = .returned (.bool true) ∧ Below W.heap.size W W' := by
 have fk : FrOk ⟨W, [], Gl g, fun _ => True, [], []⟩ := ⟨fun b cs h => ⟨hG b cs h, fun i h => by cases h⟩, fun i b h => (by cases h), fun i b h => (by cases h)⟩
 have m : Mem ⟨W, [], Gl g, fun _ => True, [], []⟩ (lookO []) W pl0 := by
  refine ⟨fk, fun b => ⟨fun _ => .inl trivial, fun _ => trivial⟩, fun i o h => (by cases h), fun i j b h => (by simp [blkOf, lookO] at h), fun i b h => (by simp [blkOf, lookO] at h), fun i b h => (by cases h), rfl, rfl, rfl, Nat.le_refl _, fun _ _ _ => rfl, fun i ty cs b h => (by cases h)⟩
 refine (hS ⟨W, [], Gl g, fun _ => True, [], []⟩ W pl0 args rfl ⟨rfl, rfl, fun _ => rfl⟩ m ha).mono ?_
 rintro e W' ⟨v, pl', rfl, m', hv⟩
 have hv : Rd W' _ (.b true) v := hv
 obtain rfl := Rd.exact hv
 exact ⟨rfl, m'.os, m'.tape, m'.output, m'.grow, fun k hk => m'.keep k hk fun i h => by cases h⟩
section
variable {H : Type} {enc : TypeId × Value → H} {P : Program} {W : World}
theorem slice_ok {r : Reach} {b : Nat} {t e : TypeId} {v : Value} (ht : P.underlying t = some (.slice e)) (h : Cell.ok P W r b t v) :
  v = .slice none 0 0 ∨ ∃ bl off len cap c ty fz, v = .slice (some ⟨bl, off, none⟩) len cap ∧ W.heap[bl]? = some (.cells c ty fz) := by
 unfold Cell.ok at h
 rw [ht] at h
 cases v <;> simp at h
 rename_i a len cap
 cases a with
 | none =>
  left
  cases len <;> cases cap <;> simp at h
  rfl
 | some a =>
  obtain ⟨hl, hc, _, hs, row, cells, hsh, _⟩ := (show len ≤ cap ∧ (cap : Int) ≤ IntKind.i64.max ∧ W.has P r b a e cap from h)
  obtain ⟨bl, off, sp⟩ := a
  obtain rfl : sp = none := hs
  unfold World.shape? at hsh
  split at hsh
  ·rename_i c ty fz e; exact .inr ⟨bl, off, len, cap, c, ty, fz, rfl, e⟩
  ·cases hsh
theorem rd_ints' {fuel : Nat} {b : Nat} {t e : TypeId} {v : Value} {x : DataW H × List MemPlace} (ht : P.underlying t = some (.slice e)) (he : P.underlying e = some (.int .i64)) (hc : P.cellsOf e = 1)
  (hval : Cell.ok P W .any b t v) (hf : DataW.trod enc P W 0 (fun _ => true) true fuel t [v] = some x) : ∃ l : List Int, Rd W (Sh pl0 (lookO [])) (.sl 1 (intsD l)) v := by
 rcases open_ints ht he hc hf with ⟨h1, _⟩ | ⟨a, len, cap, zs, h1, _, hl, hm, hlen, _, hcell, _⟩
 ·simp only [List.cons.injEq, and_true] at h1
  subst h1
  exact ⟨[], Rd.nil 1⟩
 ·simp only [List.cons.injEq, and_true] at h1
  subst h1
  rcases slice_ok ht hval with h | ⟨bl, off, len', cap', c, ty, fz, h, hb⟩
  ·simp at h
  ·simp only [Value.slice.injEq, Option.some.injEq] at h
   obtain ⟨rfl, rfl, rfl⟩ := h
   simp only [if_true] at hlen
   have hlt : len ≤ zs.length := by omega
   have el : (intsD (zs.take len)).length = len := by simp [intsD]; omega
   refine ⟨zs.take len, ?_⟩
   have key : Rd W (Sh pl0 (lookO [])) (.sl 1 (intsD (zs.take len))) (.slice (some ⟨bl, off, none⟩) (intsD (zs.take len)).length cap) := by
    refine Rd.sl (us := fun i _ => .int .i64 (zs.getD i 0)) (sh0 _) hb (by rw [el]; exact hl) hm ?_ ?_ ?_
    ·intro ds hds
     simp only [intsD, List.mem_map] at hds
     obtain ⟨n, _, rfl⟩ := hds
     rfl
    ·intro i j ds d hi hj
     have hil : i < (zs.take len).length := by
      have := (List.getElem?_eq_some_iff.1 hi).1
      simpa [intsD] using this
     simp only [List.length_take] at hil
     have := hcell i (by omega)
     simp only [intsD, List.getElem?_map, Option.map_eq_some_iff] at hi
     obtain ⟨n, hn, rfl⟩ := hi
     match j, hj with
     | 0, hj =>
      have ea : Addr.add ⟨bl, off, none⟩ i = ⟨bl, off + i, none⟩ := by
       unfold Addr.add
       split <;> simp_all
      rw [ea] at this
      simp only [World.cell?, hb] at this
      simpa using this
    ·intro i j ds d hi hj
     simp only [intsD, List.getElem?_map, Option.map_eq_some_iff] at hi
     obtain ⟨n, hn, rfl⟩ := hi
     match j, hj with
     | 0, hj =>
      simp only [intD, List.getElem?_cons_zero, Option.some.injEq] at hj
      subst hj
      have hz : zs.getD i 0 = n := by
       rw [List.getElem?_take] at hn
       split at hn
       ·simp [hn]
       ·cases hn
      rw [hz]
      exact Rd.v _ rfl
   rw [el] at key
   exact key
theorem int_wide {r : Reach} {b : Nat} {t : TypeId} {v : Value} {k : IntKind} (h : P.underlying t = some (.int k)) (hc : Cell.okWide P W r b t v) : ∃ n, v = .int k n := by
 unfold Cell.okWide at hc
 rw [h] at hc
 exact int_of_ok h hc
theorem agg_three {r : Reach} {b : Nat} {t e : TypeId} {v : Value} (ht : P.underlying t = some (.array 3 e)) (hc : P.cellsOf t = 3) (hts : P.cellTypes P.depth t = some [e, e, e]) (he : P.underlying e = some (.int .i64)) (h : Value.okWide P W r b t v) :
  ∃ x y z : Int, v = .agg #[.int .i64 x, .int .i64 y, .int .i64 z] := by
 unfold Value.okWide at h
 rw [ht] at h
 obtain ⟨cs, rfl, hs, ts, hts', _, hall⟩ := h
 obtain rfl := Option.some.inj (hts.symm.trans hts')
 rw [hc] at hs
 obtain ⟨l⟩ := cs
 match l, hs, hall with
 | [c0, c1, c2], _, hall =>
  obtain ⟨u0, h0, k0⟩ := hall 0 c0 rfl
  obtain ⟨u1, h1, k1⟩ := hall 1 c1 rfl
  obtain ⟨u2, h2, k2⟩ := hall 2 c2 rfl
  obtain rfl : e = u0 := by simpa using h0
  obtain rfl : e = u1 := by simpa using h1
  obtain rfl : e = u2 := by simpa using h2
  obtain ⟨x, rfl⟩ := int_wide he k0
  obtain ⟨y, rfl⟩ := int_wide he k1
  obtain ⟨z, rfl⟩ := int_wide he k2
  exact ⟨x, y, z, rfl⟩
end
set_option maxRecDepth 100000 in
theorem rd_three {W : World} {b : Nat} {v : Value} (h : Value.okWide Tryz.prog W .any b 23 v) : ∃ x y z : Int, SvOk W pl0 (lookO []) (.agg [.d (.i x), .d (.i y), .d (.i z)]) v := by
 obtain ⟨x, y, z, rfl⟩ := agg_three (e := 3) (by kernel_rfl) (by kernel_rfl) (by kernel_rfl) (by kernel_rfl) h
 exact ⟨x, y, z, [.int .i64 x, .int .i64 y, .int .i64 z], rfl, All2.cons (Rd.v _ rfl) (All2.cons (Rd.v _ rfl) (All2.one (Rd.v _ rfl)))⟩
section
variable {P : Program} {W : World}
end
section
variable {H : Type} {enc : TypeId × Value → H} {P : Program} {W : World}
theorem rd_two {b : Nat} {t s e : TypeId} {v : Value} {d : DataW H} {ps : List MemPlace} (ht : P.underlying t = some (.array 2 s)) (hc : P.cellsOf t = 2) (hcs : P.cellsOf s = 1) (hts : P.cellTypes P.depth t = some [s, s]) (hs : P.underlying s = some (.slice e)) (he : P.underlying e = some (.int .i64)) (hce : P.cellsOf e = 1)
  (h : Value.okWide P W .any b t v) (hd : DataW.Trod enc P W 0 (fun _ => true) true t v d ps) : ∃ x y : List Int, SvOk W pl0 (lookO []) (.agg [.d (.sl 1 (intsD x)), .d (.sl 1 (intsD y))]) v := by
 unfold Value.okWide at h
 rw [ht] at h
 obtain ⟨cs, rfl, hsz, ts, hts', _, hall⟩ := h
 obtain rfl := Option.some.inj (hts.symm.trans hts')
 rw [hc] at hsz
 obtain ⟨l⟩ := cs
 match l, hsz, hall, hd with
 | [c0, c1], _, hall, hd =>
  obtain ⟨u0, h0, k0⟩ := hall 0 c0 rfl
  obtain ⟨u1, h1, k1⟩ := hall 1 c1 rfl
  obtain rfl : s = u0 := by simpa using h0
  obtain rfl : s = u1 := by simpa using h1
  have w0 : Cell.ok P W .any b s c0 := by unfold Cell.okWide at k0; rw [hs] at k0; exact k0
  have w1 : Cell.ok P W .any b s c1 := by unfold Cell.okWide at k1; rw [hs] at k1; exact k1
  obtain ⟨fuel, hf⟩ := hd
  obtain ⟨xs, m, _, _, _, hl, hi⟩ := DataW.trod_array ht hf
  have e0 := hi 0 (by decide)
  have e1 := hi 1 (by decide)
  rw [hcs] at e0 e1
  obtain ⟨x0, hx0⟩ : ∃ x, xs[0]? = some x := ⟨xs[0]'(by omega), List.getElem?_eq_getElem (by omega)⟩
  obtain ⟨x1, hx1⟩ : ∃ x, xs[1]? = some x := ⟨xs[1]'(by omega), List.getElem?_eq_getElem (by omega)⟩
  rw [hx0] at e0; rw [hx1] at e1
  obtain ⟨a, ra⟩ := rd_ints' hs he hce w0 e0
  obtain ⟨b', rb⟩ := rd_ints' hs he hce w1 e1
  exact ⟨a, b', [c0, c1], rfl, All2.cons ra (All2.one rb)⟩
end
end Go.Proofs.YtmpgfchkkemngaaGreatDoor
namespace Go.Proofs.YtmpgfchkkemngaaGreatDoor
open Go.RowKit Go.V
open Go.Eng (inR byteAt u8 bytesV)
variable {g : Gv}
def escC (c : UInt8) : List UInt8 := if c = 39 then [39, 39] else [c]
def escL (l : List UInt8) : List UInt8 := l.flatMap escC
def quoL (l : List UInt8) : List UInt8 := [39] ++ escL l ++ [39]
theorem escL_len : ∀ (l : List UInt8), (escL l).length ≤ 2 * l.length
 | [] => by simp [escL]
 | c :: l => by
  have := escL_len l
  have h1 : (escC c).length ≤ 2 := by unfold escC; split <;> simp
  simp only [escL, List.flatMap_cons, List.length_append, List.length_cons] at this ⊢
  omega
def joinL (sep : List UInt8) : List (List UInt8) → List UInt8
 | [] => []
 | [x] => x
 | x :: y :: r => x ++ sep ++ joinL sep (y :: r)
def sumL (sep : Nat) (l : List (List UInt8)) : Nat := (l.map fun x => x.length + sep).sum
theorem joinL_len (sep : List UInt8) : ∀ (l : List (List UInt8)), (joinL sep l).length ≤ sumL sep.length l
 | [] => by simp [joinL, sumL]
 | [x] => by simp [joinL, sumL]
 | x :: y :: r => by
  have := joinL_len sep (y :: r)
  simp only [joinL, sumL, List.map_cons, List.sum_cons, List.length_append] at this ⊢
  omega
end Go.Proofs.YtmpgfchkkemngaaGreatDoor
namespace Go.Proofs.YtmpgfchkkemngaaGreatDoor
open Go.RowKit Go.V
open Go.Eng (inR byteAt u8 bytesV)
variable {g : Gv}
theorem refCell_right (c : Cl) (hs : c.s.length ≤ maxLen) (hk : ¬ c.kind = 5) : SpG g 14 [clArg c] [] (.c (.d (.b (rightK false c.toV)))) [] := by
 have h := refRight_of (g := g) c.toV _ hs (refRows_of [] [] (fun t ht => by cases ht) (fun c ⟨r, hr, _⟩ => by cases hr))
 have e : rightK (tableB [] []) c.toV = rightK false c.toV := by
  have : c.toV.kind = c.kind := rfl
  simp [rightK, this, hk]
 rw [e] at h
 exact h
theorem refRight_ok (v : Vl) (h : v.fit) : SpG g 14 [vArg v] [] (.c (.d (.b (rightB v)))) [] :=
 refRight_of v _ h.s (refRows_of v.cols v.rows h.cols fun c ⟨r, hr, hc⟩ hk => refCell_right c (h.cells r hr c hc) hk)
noncomputable def baseT (kind : Int) (s : List UInt8) (dn ds n : Int) : List UInt8 :=
 if kind = 0 then 33 :: dec2 n
 else if kind = 1 then quoL s
 else if kind = 2 then 35 :: decT dn ds
 else if kind = 3 then 64 :: dateText n
 else 63 :: dec2 n
noncomputable def cellT (c : Cl) : List UInt8 := baseT c.kind c.s c.dn c.ds c.n
noncomputable def rowT (r : List Cl) : List UInt8 := 59 :: joinL [44] (r.map cellT)
noncomputable def textK (v : Vl) : List UInt8 := if v.kind = 5 then [91] ++ joinL [44] v.cols ++ v.rows.flatMap rowT ++ [93] else baseT v.kind v.s v.dn v.ds v.n
noncomputable def textB (v : Vl) : List UInt8 := if rightB v then textK v else []
theorem isTextL_len {l : List UInt8} (h : isTextL l = true) : l.length ≤ 200 := by
 simp only [isTextL, isTextB, Bool.and_eq_true, decide_eq_true_eq, S_size] at h; omega
theorem isNameL_len {l : List UInt8} (h : isNameL l = true) : l.length ≤ 20 := by
 simp only [isNameL, isNameB, Bool.and_eq_true, decide_eq_true_eq, S_size] at h; omega
theorem dec2_len (n : Int) : (dec2 n).length ≤ 2 := by unfold dec2; split <;> simp
theorem dateText_len (n : Int) : (dateText n).length ≤ 17 := by
 have l1 := digs_len 5 (civ n).1 4 []
 have l2 := digs_len 5 (civ n).2.1 2 []
 have l3 := digs_len 5 (civ n).2.2 2 []
 simp only [zq12, dateText] at *; omega
theorem decT_len {n s : Int} (h : decB n s = true) : (decT n s).length ≤ 30 := by
 obtain ⟨h0, h1, h2, h3, _⟩ := decB_bd h
 have hp := pow10_le (k := s.toNat) (by omega)
 have hq : n.natAbs / 10 ^ s.toNat ≤ n.natAbs := Nat.div_le_self _ _
 have a1 := natT_len (n := n.natAbs / 10 ^ s.toNat) (k := 16) (by omega) (by decide)
 have hm : n.natAbs % 10 ^ s.toNat < 10 ^ s.toNat := Nat.mod_lt _ (by omega)
 have a2 := natT_len (n := 10 ^ s.toNat + n.natAbs % 10 ^ s.toNat) (k := 8) (by omega) (by decide)
 unfold decT
 simp only [List.length_append]
 split <;> split <;> simp only [List.length_append, List.length_cons, List.length_nil, List.length_drop] <;> omega
theorem quoL_len (l : List UInt8) : (quoL l).length ≤ 2 * l.length + 2 := by
 have := escL_len l
 simp only [zq12, quoL]; omega
theorem baseT_len {T : Bool} {v : Vl} (h : rightK T v = true) (hk : ¬ v.kind = 5) : (baseT v.kind v.s v.dn v.ds v.n).length ≤ 402 := by
 have a1 := dec2_len v.n
 have a2 := dateText_len v.n
 unfold baseT
 unfold rightK at h
 split
 ·simp only [List.length_cons]; omega
 split
 ·rename_i h0 h1
  rw [if_neg h0, if_pos h1, Bool.and_eq_true] at h
  have := isTextL_len h.1
  have := quoL_len v.s
  omega
 split
 ·rename_i h0 h1 h2
  rw [if_neg h0, if_neg h1, if_pos h2, Bool.and_eq_true] at h
  have := decT_len h.1
  simp only [List.length_cons]; omega
 split
 ·simp only [List.length_cons]; omega
 ·simp only [List.length_cons]; omega
theorem sumL_le {n m : Nat} : ∀ {l : List (List UInt8)}, (∀ t ∈ l, t.length ≤ m) → sumL n l ≤ l.length * (m + n)
 | [], _ => by simp [sumL]
 | x :: l, h => by
  have := sumL_le (n := n) (m := m) (l := l) fun t ht => h t (List.mem_cons_of_mem _ ht)
  have := h x List.mem_cons_self
  simp only [sumL, List.map_cons, List.sum_cons, List.length_cons, Nat.add_mul] at *
  omega
theorem rows_cells {cols : List (List UInt8)} {rows : List (List Cl)} (h : tableB cols rows = true) : cols.length ≤ 8 ∧ rows.length ≤ 100 ∧ (∀ t ∈ cols, isNameL t = true) ∧ (∀ r ∈ rows, r.length = cols.length ∧ ∀ c ∈ r, ¬ c.kind = 5 ∧ rightK false c.toV = true) := by
 simp only [tableB, Bool.and_eq_true, decide_eq_true_eq] at h
 obtain ⟨⟨⟨h1, h2⟩, h3⟩, h4⟩ := h
 refine ⟨h1, h2, fun t ht => ?_, fun r hr => ?_⟩
 ·obtain ⟨i, hi, rfl⟩ := List.mem_iff_getElem.1 ht
  have := allR_get h3 hi
  simp only [nameAt, Bool.and_eq_true] at this
  simpa [hi] using this.1
 ·obtain ⟨i, hi, rfl⟩ := List.mem_iff_getElem.1 hr
  have := allR_get h4 hi
  simp only [rowAt, Bool.and_eq_true, decide_eq_true_eq] at this
  have e : rows.getD i [] = rows[i] := by simp [hi]
  rw [e] at this
  refine ⟨this.1, fun c hc => ?_⟩
  obtain ⟨j, hj, rfl⟩ := List.mem_iff_getElem.1 hc
  have h5 := allR_get this.2 hj
  simp only [cellAt, Bool.and_eq_true, Bool.not_eq_true', decide_eq_false_iff_not] at h5
  have e : rows[i].getD j Cl.z = rows[i][j] := by simp [hj]
  rw [e] at h5
  exact h5
theorem rightB_table {v : Vl} (h : rightB v = true) (hk : v.kind = 5) : tableB v.cols v.rows = true := by
 simp only [rightB, rightK, hk] at h
 simp at h
 exact h.1
theorem rightB_kind {v : Vl} (h : rightB v = true) : v.kind = 0 ∨ v.kind = 1 ∨ v.kind = 2 ∨ v.kind = 3 ∨ v.kind = 4 ∨ v.kind = 5 := by
 simp only [rightB, rightK] at h
 repeat (split at h; (· simp [*]))
 cases h
theorem rightB_n {v : Vl} (h : rightB v = true) : (v.kind = 0 → 0 ≤ v.n ∧ v.n ≤ 99) ∧ (v.kind = 1 → v.s.length ≤ 200) ∧ (v.kind = 2 → decB v.dn v.ds = true) ∧ (v.kind = 3 → 0 ≤ v.n ∧ v.n ≤ 3652058) ∧ (v.kind = 4 → 0 ≤ v.n ∧ v.n ≤ 1) := by
 simp only [rightB] at h
 refine ⟨fun k => ?_, fun k => ?_, fun k => ?_, fun k => ?_, fun k => ?_⟩ <;> simp [rightK, k] at h
 ·exact ⟨h.1.1, h.1.2⟩
 ·exact isTextL_len h.1
 ·exact h.1
 ·exact ⟨h.1.1, h.1.2⟩
 ·omega
theorem take_snoc {α : Type} (z : α) {l : List α} {k : Nat} (h : k < l.length) : l.take (k + 1) = l.take k ++ [l.getD k z] := by
 rw [List.take_add_one, List.getD_eq_getElem?_getD, List.getElem?_eq_getElem h]; rfl
theorem textsStep {α : Type} (z : α) {f : α → List UInt8} {l : List α} {k : Nat} (h : k < l.length) : strs ((l.take (k + 1)).map f) = strs ((l.take k).map f) ++ [[D.s (S (f (l.getD k z)))]] := by
 rw [take_snoc z h]; simp [strs, strD]
theorem rowT_len {cols : List (List UInt8)} {rows : List (List Cl)} (h : tableB cols rows = true) {r : List Cl} (hr : r ∈ rows) : sumL 1 (r.map cellT) ≤ 3224 ∧ (rowT r).length ≤ 3300 := by
 obtain ⟨h1, h2, h3, h4⟩ := rows_cells h
 have a := sumL_le (n := 1) (m := 402) (l := r.map cellT) (fun t ht => by
  obtain ⟨c, hc, rfl⟩ := List.mem_map.1 ht
  exact baseT_len (v := c.toV) ((h4 r hr).2 c hc).2 ((h4 r hr).2 c hc).1)
 have b := joinL_len [44] (r.map cellT)
 have := (h4 r hr).1
 rw [List.length_map] at a
 have e : sumL ([44] : List UInt8).length (r.map cellT) = sumL 1 (r.map cellT) := rfl
 have : r.length * (402 + 1) ≤ 8 * 403 := Nat.mul_le_mul (by omega) (by omega)
 simp only [rowT, List.length_cons]
 omega
theorem flat_len {rows : List (List Cl)} {m : Nat} : (∀ r ∈ rows, (rowT r).length ≤ m) → (rows.flatMap rowT).length ≤ rows.length * m := by
 induction rows with
 | nil => intro; simp
 | cons r rows ih =>
  intro h
  have := ih fun r hr => h r (List.mem_cons_of_mem _ hr)
  have := h r List.mem_cons_self
  simp only [List.flatMap_cons, List.length_append, List.length_cons, Nat.add_mul]
  omega
theorem flat_take {cols : List (List UInt8)} {rows : List (List Cl)} (h : tableB cols rows = true) (k : Nat) : ((rows.take k).flatMap rowT).length ≤ 330000 := by
 have a := flat_len (rows := rows.take k) (m := 3300) fun r hr => (rowT_len h (List.mem_of_mem_take hr)).2
 have : (rows.take k).length ≤ 100 := by have := (rows_cells h).2.1; rw [List.length_take]; omega
 have : (rows.take k).length * 3300 ≤ 100 * 3300 := Nat.mul_le_mul_right _ this
 omega
theorem cols_len {cols : List (List UInt8)} {rows : List (List Cl)} (h : tableB cols rows = true) : sumL 1 cols ≤ 168 ∧ (joinL [44] cols).length ≤ 168 := by
 obtain ⟨h1, h2, h3, h4⟩ := rows_cells h
 have a := sumL_le (n := 1) (m := 20) (l := cols) (fun t ht => isNameL_len (h3 t ht))
 have b := joinL_len [44] cols
 have e : sumL ([44] : List UInt8).length cols = sumL 1 cols := rfl
 have : cols.length * (20 + 1) ≤ 8 * 21 := Nat.mul_le_mul (by omega) (by omega)
 omega
theorem flat_step {rows : List (List Cl)} {k : Nat} (h : k < rows.length) : (rows.take (k + 1)).flatMap rowT = (rows.take k).flatMap rowT ++ (59 :: joinL [44] ((rows.getD k []).map cellT)) := by
 rw [take_snoc [] h, List.flatMap_append]; simp [rowT]
theorem rightB_rows {v : Vl} (h : rightB v = true) (hk : ¬ v.kind = 5) : v.rows = [] := by
 simp only [rightB, rightK, if_neg hk] at h
 repeat (split at h; (· simp [bareB] at h; simp [h]))
 cases h
theorem textB_len (v : Vl) : (textB v).length ≤ 400000 := by
 unfold textB
 split
 ·rename_i h
  unfold textK
  split
  ·rename_i hk
   have hT := rightB_table h hk
   have a := (cols_len hT).2
   have b := flat_take hT v.rows.length
   rw [List.take_length] at b
   simp only [zq12]; omega
  ·rename_i hk
   have := baseT_len h hk
   omega
 ·simp
noncomputable def rowTextB (l : List Vl) : List UInt8 := if l.length ≤ 8 ∧ allR l.length (fun j => rightB (l.getD j Vl.z)) = true then joinL [124] (l.map textB) else []
theorem rowTextB_long {l : List Vl} (h : ¬ l.length ≤ 8) : rowTextB l = [] := by simp [rowTextB, h]
theorem rowTextB_bad {l : List Vl} {k : Nat} (hk : k < l.length) (h : rightB (l.getD k Vl.z) = false) : rowTextB l = [] := by
 rw [rowTextB, allR_false (p := fun j => rightB (l.getD j Vl.z)) hk h]; simp
theorem rowTextB_ok {l : List Vl} (h : l.length ≤ 8) (hn : ∀ j, j < l.length → rightB (l.getD j Vl.z) = true) : rowTextB l = joinL [124] (l.map textB) := by
 rw [rowTextB, if_pos ⟨h, allR_true hn⟩]
theorem texts_len {l : List Vl} (h : l.length ≤ 8) : sumL ([124] : List UInt8).length (l.map textB) ≤ 1000000000 := by
 have a := sumL_le (n := ([124] : List UInt8).length) (m := 400000) (l := l.map textB) (fun t ht => by obtain ⟨v, _, rfl⟩ := List.mem_map.1 ht; exact textB_len v)
 rw [List.length_map] at a
 have : l.length * (400000 + ([124] : List UInt8).length) ≤ 8 * 400001 := Nat.mul_le_mul h (by simp)
 omega
theorem Cl.fit {c : Cl} (h : c.s.length ≤ maxLen) : c.toV.fit := ⟨h, fun t ht => (by cases ht), fun r hr => (by cases hr)⟩
theorem cl_rightB {c : Cl} (hk : ¬ c.kind = 5) (h : rightK false c.toV = true) : rightB c.toV = true := by
 have : c.toV.kind = c.kind := rfl
 have e : rightB c.toV = rightK false c.toV := by simp [rightB, rightK, this, hk]
 rw [e]; exact h
end Go.Proofs.YtmpgfchkkemngaaGreatDoor
namespace Go.Proofs.YtmpgfchkkemngaaGreatDoor
open Go.RowKit Go.V
open Go.Eng (inR byteAt u8 bytesV)
variable {g : Gv}
def sub (s : List UInt8) (a b : Nat) : List UInt8 := (s.take b).drop a
end Go.Proofs.YtmpgfchkkemngaaGreatDoor
namespace Go.Proofs.YtmpgfchkkemngaaGreatDoor
open Go.RowKit Go.V
open Go.Eng (inR byteAt u8 bytesV)
variable {g : Gv}
theorem noEsc_126 : NoEsc Tryz.prog 126 := ⟨_, Tryz.func126, by kernel_rfl, by kernel_rfl, by kernel_rfl, by kernel_rfl⟩
theorem spec_look {f : FuncId} {ins : List SV} {refs : OwnL} {out : SV} {post post' : OwnL} (h : SpG g f ins refs out post) (e : lookO post = lookO post') : SpG g f ins refs out post' := by
 unfold SpG V.Spec at *
 rw [← e]
 exact h
theorem copyCheck1 (es : List (List D)) :
  SpG g 83 [.c (.bx 0 0)] [(0, .box 80 [.bx 0 0, .ar 1 0]), (1, .arr 0 5 1 (es))] (.tup []) [(0, .box 80 [.bx 0 0, .ar 1 0]), (1, .arr 0 5 1 (es))] := by
 refine enterB 20 Tryz.func83 (by kernel_rfl) fun fr hG => ?_
 refine zc hG [] [1] (false) (by kernel_rfl) conj0 (fun hc1 => absurd hc1 (by decide)) (fun _ => ?_)
 refine zC hG [] [1, 1, 1] (false) (⟨[], [(0, .box 80 [.bx 0 0, .ar 1 0]), (1, .arr 0 5 1 (es))]⟩) (by kernel_rfl) conj0 (fun hc2 => absurd hc2 (by decide)) (fun _ => ?_)
 exact zr hG [] [] (by kernel_rfl) conj0
theorem copyCheckN  :
  SpG g 83 [.c (.bx 0 0)] [(0, .box 80 [.d (.v (.pointer none)), .d (.nil)])] (.tup []) [(0, .box 80 [.bx 0 0, .d (.nil)])] := by
 refine enterB 20 Tryz.func83 (by kernel_rfl) fun fr hG => ?_
 refine zc hG [] [1] (true) (by kernel_rfl) conj0 (fun _ => ?_) (fun hc1 => absurd hc1 (by decide))
 exact zr hG [] [] (by kernel_rfl) (conj1 (show NoEsc Tryz.prog 126 from noEsc_126))
theorem writeStringN (s : ByteArray) (h : s.size ≤ 1000000000000) :
  SpG g 48 [.c (.bx 0 0), .c (.d (.s s))] [(0, .box 80 [.d (.v (.pointer none)), .d (.nil)])] (.tup [(false, [.d (.i (s.size : Int))]), (false, [.d (.v (.nilIface))])]) [(0, .box 80 [.bx 0 0, .ar 100 0]), (100, .arr 0 5 1 (bytesD s.data.toList))] := by
 refine enterB 19 Tryz.func48 (by kernel_rfl) fun fr hG => ?_
 exact zr hG [(1, 1, .callG (.tup []) [0] [(0, .box 80 [.bx 0 0, .d (.nil)])])] [306] (by kernel_rfl) (conjC ((copyCheckN : SpG g _ _ _ _ _)) (conj1 (show (s).size ≤ 1000000000000 from (by intros; first | assumption | omega))))
theorem writeString1 (es : List (List D)) (s : ByteArray) (h : es.length + s.size ≤ 1000000000000) :
  SpG g 48 [.c (.bx 0 0), .c (.d (.s s))] [(0, .box 80 [.bx 0 0, .ar 1 0]), (1, .arr 0 5 1 (es))] (.tup [(false, [.d (.i (s.size : Int))]), (false, [.d (.v (.nilIface))])]) [(0, .box 80 [.bx 0 0, .ar 1 0]), (1, .arr 0 5 1 (es ++ bytesD s.data.toList))] := by
 refine enterB 19 Tryz.func48 (by kernel_rfl) fun fr hG => ?_
 exact zr hG [(1, 1, .callG (.tup []) [0, 1] [(0, .box 80 [.bx 0 0, .ar 1 0]), (1, .arr 0 5 1 (es))])] [] (by kernel_rfl) (conjC ((copyCheck1 (es) : SpG g _ _ _ _ _)) (conj1 (show (es).length + (s).size ≤ 1000000000000 from (by intros; first | assumption | omega))))
theorem builderString_ (es : List (List D)) (r : ByteArray) (h : es = bytesD r.data.toList) :
  SpG g 51 [.c (.bx 0 0)] [(0, .box 80 [.bx 0 0, .ar 1 0]), (1, .arr 0 5 1 (es))] (.c (.d (.s r))) [(1, .arr 0 5 1 []), (0, .box 80 [.bx 0 0, .any])] := by
 refine enterB 14 Tryz.func51 (by kernel_rfl) fun fr hG => ?_
 exact zr hG [(1, 10, .call (.c (.d (.s (r)))) [] [])] [] (by kernel_rfl) (conjC (show es = bytesD (r).data.toList from h) (conj1 (show (((es).length : Int) : Int) = ((r).size : Int) from (by intros; first | assumption | (rw [h, bytesD_len]; rfl)))))
theorem builderString (es : List (List D)) (r : ByteArray) (h : es = bytesD r.data.toList) :
  SpG g 51 [.c (.bx 0 0)] [(0, .box 80 [.bx 0 0, .ar 1 0]), (1, .arr 0 5 1 es)] (.c (.d (.s r))) [(0, .box 80 [.bx 0 0, .any]), (1, .arr 0 5 1 [])] :=
 spec_look (builderString_ es r h) (by funext i; match i with | 0 => rfl | 1 => rfl | i + 2 => rfl)
end Go.Proofs.YtmpgfchkkemngaaGreatDoor
namespace Go.Proofs
open Go.Shelf
def Tryz.lays156_ren : Go.Shelf.Ren := ⟨fun | 156 => 49 | 165 => 84 | 166 => 48 | 169 => 51 | 240 => 83 | 241 => 127 | 276 => 126 | 277 => 174 | n => n, fun | 31 => 27 | 9 => 9 | 3 => 3 | 4 => 4 | 0 => 0 | 20 => 20 | 72 => 80 | 76 => 83 | 70 => 78 | 37 => 41 | 75 => 82 | 127 => 120 | 164 => 160 | 5 => 5 | 80 => 87 | n => n, fun | n => n⟩
theorem Tryz.lays156 : Go.Proofs.Lays.n156 Tryz.prog Tryz.lays156_ren := {
 mixed := by kernel_rfl
 f156 := Tryz.func49.trans (congrArg some (by kernel_rfl))
 f165 := Tryz.func84.trans (congrArg some (by kernel_rfl))
 f166 := Tryz.func48.trans (congrArg some (by kernel_rfl))
 f169 := Tryz.func51.trans (congrArg some (by kernel_rfl))
 f240 := Tryz.func83.trans (congrArg some (by kernel_rfl))
 f241 := Tryz.func127.trans (congrArg some (by kernel_rfl))
 f276 := Tryz.func126.trans (congrArg some (by kernel_rfl))
 f277 := Tryz.func174.trans (congrArg some (by kernel_rfl))
 t0 := Tryz.underlying0
 a0 := Tryz.isAgg0
 z0 := Tryz.sizeOf0
 v0 := Tryz.zeroValue0
 t3 := Tryz.underlying3
 a3 := Tryz.isAgg3
 z3 := Tryz.sizeOf3
 v3 := Tryz.zeroValue3
 t4 := Tryz.underlying4
 a4 := Tryz.isAgg4
 z4 := Tryz.sizeOf4
 v4 := Tryz.zeroValue4
 t9 := Tryz.underlying9
 a9 := Tryz.isAgg9
 z9 := Tryz.sizeOf9
 v9 := Tryz.zeroValue9
 t20 := Tryz.underlying20
 a20 := Tryz.isAgg20
 z20 := Tryz.sizeOf20
 v20 := Tryz.zeroValue20
 t31 := Tryz.underlying27
 a31 := Tryz.isAgg27
 z31 := Tryz.sizeOf27
 v31 := Tryz.zeroValue27
 t37 := Tryz.underlying41
 a37 := Tryz.isAgg41
 z37 := Tryz.sizeOf41
 v37 := Tryz.zeroValue41
 t70 := Tryz.underlying78
 a70 := Tryz.isAgg78
 z70 := Tryz.sizeOf78
 v70 := Tryz.zeroValue78
 t72 := Tryz.underlying80
 a72 := Tryz.isAgg80
 z72 := Tryz.sizeOf80
 v72 := Tryz.zeroValue80
 t75 := Tryz.underlying82
 a75 := Tryz.isAgg82
 z75 := Tryz.sizeOf82
 v75 := Tryz.zeroValue82
 t76 := Tryz.underlying83
 a76 := Tryz.isAgg83
 z76 := Tryz.sizeOf83
 v76 := Tryz.zeroValue83
 t127 := Tryz.underlying120
 a127 := Tryz.isAgg120
 z127 := Tryz.sizeOf120
 v127 := Tryz.zeroValue120
 t164 := Tryz.underlying160
 a164 := Tryz.isAgg160
 z164 := Tryz.sizeOf160
 v164 := Tryz.zeroValue160 }
theorem Tryz.Builder_Extra_156 : Builder.Extra Tryz.prog Tryz.lays156_ren := {
 sizeBuilder := by kernel_rfl
 liesBuilder := by kernel_rfl
 t5 := Tryz.underlying5
 a5 := Tryz.isAgg5
 z5 := Tryz.sizeOf5
 v5 := Tryz.zeroValue5
 infoByte := by kernel_rfl
 cellsByte := by kernel_rfl
 sizeByte := by kernel_rfl
 neB5 := by decide }
open Go.RowKit in
theorem Tryz.strings_Join_none (a : Option Addr) (c : Nat) (sep : ByteArray) (w : World) :
  Calls Tryz.prog 49 #[.slice a 0 c, .string sep] w fun e w' => e = .returned (.string ⟨#[]⟩) ∧ w' = w := Any.strings_Join_none Tryz.lays156 Tryz.Builder_Extra_156 a c sep w
open Go.RowKit in
theorem Tryz.strings_Join (bk o c : Nat) (xs : List ByteArray) (sep : ByteArray) (w : World) (hcells : ∀ (j : Nat) x, xs[j]? = some x → w.cell? ⟨bk, o + j, none⟩ = some (.string x)) (hbk : bk < w.heap.size) (hN : xs.length ≤ 140737488355328) (hcap : xs.length ≤ c) (hlen : (Lib.join (xs.map (·.data.toList)) sep.data.toList).length ≤ 140737488355328) :
  Calls Tryz.prog 49 #[.slice (some ⟨bk, o, none⟩) xs.length c, .string sep] w fun e w' => e = .returned (.string ⟨(Lib.join (xs.map (·.data.toList)) sep.data.toList).toArray⟩) ∧ Below w.heap.size w w' := Any.strings_Join Tryz.lays156 Tryz.Builder_Extra_156 bk o c xs sep w hcells hbk hN hcap hlen
def Tryz.lays106_ren : Go.Shelf.Ren := ⟨fun | 106 => 99 | 213 => 155 | 265 => 183 | n => n, fun | 9 => 9 | 3 => 3 | n => n, fun | n => n⟩
theorem Tryz.lays106 : Go.Proofs.Lays.n106 Tryz.prog Tryz.lays106_ren := {
 mixed := by kernel_rfl
 f106 := Tryz.func99.trans (congrArg some (by kernel_rfl))
 f213 := Tryz.func155.trans (congrArg some (by kernel_rfl))
 f265 := Tryz.func183.trans (congrArg some (by kernel_rfl))
 t3 := Tryz.underlying3
 a3 := Tryz.isAgg3
 z3 := Tryz.sizeOf3
 v3 := Tryz.zeroValue3
 t9 := Tryz.underlying9
 a9 := Tryz.isAgg9
 z9 := Tryz.sizeOf9
 v9 := Tryz.zeroValue9 }
open Go.RowKit in
theorem Tryz.strings_Compare (a b : ByteArray) (w : World) :
  Calls Tryz.prog 99 #[.string a, .string b] w fun e w' => e = .returned (.int .i64 (Lib.compareBytes a.data.toList b.data.toList)) ∧ w' = w := Any.strings_Compare Tryz.lays106 a b w
def Tryz.lays137_ren : Go.Shelf.Ren := ⟨fun | 137 => 177 | 217 => 192 | 266 => 211 | n => n, fun | 9 => 9 | 5 => 5 | 3 => 3 | n => n, fun | n => n⟩
theorem Tryz.lays137 : Go.Proofs.Lays.n137 Tryz.prog Tryz.lays137_ren := {
 mixed := by kernel_rfl
 f137 := Tryz.func177.trans (congrArg some (by kernel_rfl))
 f217 := Tryz.func192.trans (congrArg some (by kernel_rfl))
 f266 := Tryz.func211.trans (congrArg some (by kernel_rfl))
 t3 := Tryz.underlying3
 a3 := Tryz.isAgg3
 z3 := Tryz.sizeOf3
 v3 := Tryz.zeroValue3
 t5 := Tryz.underlying5
 a5 := Tryz.isAgg5
 z5 := Tryz.sizeOf5
 v5 := Tryz.zeroValue5
 t9 := Tryz.underlying9
 a9 := Tryz.isAgg9
 z9 := Tryz.sizeOf9
 v9 := Tryz.zeroValue9 }
open Go.RowKit in
theorem Tryz.strings_IndexByte (s : ByteArray) (c : Int) (w : World) :
  Calls Tryz.prog 177 #[.string s, .int .u8 c] w fun e w' => e = .returned (.int .i64 (Lib.indexByte s.data.toList c.toNat.toUInt8)) ∧ w' = w := Any.strings_IndexByte Tryz.lays137 s c w
def Tryz.lays103_ren : Go.Shelf.Ren := ⟨fun | 103 => 205 | 210 => 222 | 206 => 215 | n => n, fun | 9 => 9 | 4 => 4 | 24 => 117 | 3 => 3 | n => n, fun | n => n⟩
theorem Tryz.lays103 : Go.Proofs.Lays.n103 Tryz.prog Tryz.lays103_ren := {
 mixed := by kernel_rfl
 f103 := Tryz.func205.trans (congrArg some (by kernel_rfl))
 f206 := Tryz.func215.trans (congrArg some (by kernel_rfl))
 f210 := Tryz.func222.trans (congrArg some (by kernel_rfl))
 t3 := Tryz.underlying3
 a3 := Tryz.isAgg3
 z3 := Tryz.sizeOf3
 v3 := Tryz.zeroValue3
 t4 := Tryz.underlying4
 a4 := Tryz.isAgg4
 z4 := Tryz.sizeOf4
 v4 := Tryz.zeroValue4
 t9 := Tryz.underlying9
 a9 := Tryz.isAgg9
 z9 := Tryz.sizeOf9
 v9 := Tryz.zeroValue9
 t24 := Tryz.underlying117
 a24 := Tryz.isAgg117
 z24 := Tryz.sizeOf117
 v24 := Tryz.zeroValue117 }
open Go.RowKit in
theorem Tryz.strings_CutPrefix (s p : ByteArray) (w : World) :
  Calls Tryz.prog 205 #[.string s, .string p] w fun e w' => e = .returned (.tuple #[.string ⟨(Lib.trimPrefix s.data.toList p.data.toList).toArray⟩, .bool (Lib.hasPrefix s.data.toList p.data.toList)]) ∧ w' = w := Any.strings_CutPrefix Tryz.lays103 s p w
def Tryz.lays122_ren : Go.Shelf.Ren := ⟨fun | 122 => 97 | 215 => 154 | n => n, fun | 3 => 3 | 4 => 4 | n => n, fun | n => n⟩
theorem Tryz.lays122 : Go.Proofs.Lays.n122 Tryz.prog Tryz.lays122_ren := {
 mixed := by kernel_rfl
 f122 := Tryz.func97.trans (congrArg some (by kernel_rfl))
 f215 := Tryz.func154.trans (congrArg some (by kernel_rfl))
 t3 := Tryz.underlying3
 a3 := Tryz.isAgg3
 z3 := Tryz.sizeOf3
 v3 := Tryz.zeroValue3
 t4 := Tryz.underlying4
 a4 := Tryz.isAgg4
 z4 := Tryz.sizeOf4
 v4 := Tryz.zeroValue4 }
open Go.RowKit in
theorem Tryz.cmp_Compare_int (x y : Int) (w : World) :
  Calls Tryz.prog 97 #[.int .i64 x, .int .i64 y] w fun e w' => e = .returned (.int .i64 (Lib.compareInt x y)) ∧ w' = w := Any.cmp_Compare_int Tryz.lays122 x y w
def Tryz.lays283_ren : Go.Shelf.Ren := ⟨fun | 283 => 159 | n => n, fun | 3 => 3 | 9 => 9 | 4 => 4 | n => n, fun | n => n⟩
theorem Tryz.lays283 : Go.Proofs.Lays.n283 Tryz.prog Tryz.lays283_ren := {
 mixed := by kernel_rfl
 f283 := Tryz.func159.trans (congrArg some (by kernel_rfl))
 t3 := Tryz.underlying3
 a3 := Tryz.isAgg3
 z3 := Tryz.sizeOf3
 v3 := Tryz.zeroValue3
 t4 := Tryz.underlying4
 a4 := Tryz.isAgg4
 z4 := Tryz.sizeOf4
 v4 := Tryz.zeroValue4
 t9 := Tryz.underlying9
 a9 := Tryz.isAgg9
 z9 := Tryz.sizeOf9
 v9 := Tryz.zeroValue9 }
open Go.Lib in
theorem Tryz.internal_strconv_small (i : Nat) (h : i < 100) (w : World) :
  Calls Tryz.prog 159 #[.int .i64 i] w fun e w' => e = .returned (.string ⟨(Lib.decDigits i).toArray⟩) ∧ w' = w := Any.internal_strconv_small Tryz.lays283 i h w
def Tryz.laysM284_ren : Go.Shelf.Ren := ⟨fun | 284 => 160 | 129 => 188 | 317 => 187 | 318 => 189 | n => n, fun | 53 => 115 | 3 => 3 | 212 => 199 | 0 => 0 | 4 => 4 | 46 => 191 | 5 => 5 | 9 => 9 | n => n, fun | 17 => 2 | n => n⟩
theorem Tryz.laysM284 : Go.Proofs.LaysM.n284 Tryz.prog Tryz.laysM284_ren := {
 mixed := by kernel_rfl
 f129 := Tryz.func188.trans (congrArg some (by kernel_rfl))
 f284 := Tryz.func160.trans (congrArg some (by kernel_rfl))
 f317 := Tryz.func187.trans (congrArg some (by kernel_rfl))
 f318 := Tryz.func189.trans (congrArg some (by kernel_rfl))
 t0 := Tryz.underlying0
 a0 := Tryz.isAgg0
 z0 := Tryz.sizeOf0
 v0 := Tryz.zeroValue0
 t3 := Tryz.underlying3
 a3 := Tryz.isAgg3
 z3 := Tryz.sizeOf3
 v3 := Tryz.zeroValue3
 t4 := Tryz.underlying4
 a4 := Tryz.isAgg4
 z4 := Tryz.sizeOf4
 v4 := Tryz.zeroValue4
 t5 := Tryz.underlying5
 a5 := Tryz.isAgg5
 z5 := Tryz.sizeOf5
 v5 := Tryz.zeroValue5
 t9 := Tryz.underlying9
 a9 := Tryz.isAgg9
 z9 := Tryz.sizeOf9
 v9 := Tryz.zeroValue9
 t46 := Tryz.underlying191
 a46 := Tryz.isAgg191
 z46 := Tryz.sizeOf191
 v46 := Tryz.zeroValue191
 t53 := Tryz.underlying115
 a53 := Tryz.isAgg115
 z53 := Tryz.sizeOf115
 v53 := Tryz.zeroValue115
 t212 := Tryz.underlying199
 a212 := Tryz.isAgg199
 z212 := Tryz.sizeOf199
 v212 := Tryz.zeroValue199
 g17 := by kernel_rfl
 i0 := by kernel_rfl
 i3 := by kernel_rfl
 i4 := by kernel_rfl
 i5 := by kernel_rfl
 i9 := by kernel_rfl
 i46 := by kernel_rfl
 i53 := by kernel_rfl
 i212 := by kernel_rfl
 m17 := by kernel_rfl }
open Go.Lib in
theorem Tryz.internal_strconv_numDigits (u : Nat) (h1 : 1 ≤ u) (h2 : u < 18446744073709551616) (w : World) (htab : Lib.TabIs Tryz.prog w "internal/strconv.uint64pow10" .u64 Lib.pow10Tab) :
  Calls Tryz.prog 160 #[.int .u64 u] w fun e w' => e = .returned (.int .i64 (Lib.nDigits u)) ∧ w' = w := Any.internal_strconv_numDigits Tryz.laysM284 u h1 h2 w htab
def Tryz.lays285_ren : Go.Shelf.Ren := ⟨fun | 285 => 161 | n => n, fun | 37 => 41 | 53 => 115 | 3 => 3 | 4 => 4 | 51 => 200 | 9 => 9 | 5 => 5 | 0 => 0 | n => n, fun | n => n⟩
theorem Tryz.lays285 : Go.Proofs.Lays.n285 Tryz.prog Tryz.lays285_ren := {
 mixed := by kernel_rfl
 f285 := Tryz.func161.trans (congrArg some (by kernel_rfl))
 t0 := Tryz.underlying0
 a0 := Tryz.isAgg0
 z0 := Tryz.sizeOf0
 v0 := Tryz.zeroValue0
 t3 := Tryz.underlying3
 a3 := Tryz.isAgg3
 z3 := Tryz.sizeOf3
 v3 := Tryz.zeroValue3
 t4 := Tryz.underlying4
 a4 := Tryz.isAgg4
 z4 := Tryz.sizeOf4
 v4 := Tryz.zeroValue4
 t5 := Tryz.underlying5
 a5 := Tryz.isAgg5
 z5 := Tryz.sizeOf5
 v5 := Tryz.zeroValue5
 t9 := Tryz.underlying9
 a9 := Tryz.isAgg9
 z9 := Tryz.sizeOf9
 v9 := Tryz.zeroValue9
 t37 := Tryz.underlying41
 a37 := Tryz.isAgg41
 z37 := Tryz.sizeOf41
 v37 := Tryz.zeroValue41
 t51 := Tryz.underlying200
 a51 := Tryz.isAgg200
 z51 := Tryz.sizeOf200
 v51 := Tryz.zeroValue200
 t53 := Tryz.underlying115
 a53 := Tryz.isAgg115
 z53 := Tryz.sizeOf115
 v53 := Tryz.zeroValue115 }
open Go.RowKit Go.Sort Go.Lib in
theorem Tryz.internal_strconv_formatBase10 (blk off cap : Nat) (u : Nat) (d : Array UInt8) (w : World) (hH : Holds (fun (b : UInt8) => Value.int .u8 (b.toNat : Int)) w blk off d) (hu : u < 10 ^ d.size) (hu64 : u < 18446744073709551616) (hsz : d.size < 4611686018427387904) :
  Calls Tryz.prog 161 #[.slice (some ⟨blk, off, none⟩) d.size cap, .int .u64 u] w fun e w' =>
   e = .returned (.tuple #[]) ∧ ∃ (n v' : Nat) (dk : Array UInt8), w' = (putRow (fun (b : UInt8) => Value.int .u8 (b.toNat : Int)) w blk off dk).drewN n ∧ FmtInv d.size u 0 v' dk := Any.internal_strconv_formatBase10 Tryz.lays285 blk off cap u d w hH hu hu64 hsz
def Tryz.laysM171_ren : Go.Shelf.Ren := ⟨fun | 171 => 44 | 243 => 77 | 246 => 117 | 283 => 159 | 284 => 160 | 285 => 161 | 286 => 162 | 129 => 188 | 317 => 187 | 318 => 189 | 319 => 190 | 320 => 191 | 337 => 209 | 338 => 210 | n => n, fun | 3 => 3 | 9 => 9 | 2 => 2 | 4 => 4 | 171 => 180 | 0 => 0 | 53 => 115 | 37 => 41 | 5 => 5 | 173 => 183 | 212 => 199 | 51 => 200 | 20 => 20 | 213 => 201 | 46 => 191 | 232 => 236 | 233 => 237 | n => n, fun | 17 => 2 | 18 => 6 | 19 => 7 | n => n⟩
theorem Tryz.laysM171 : Go.Proofs.LaysM.n171 Tryz.prog Tryz.laysM171_ren := {
 mixed := by kernel_rfl
 f129 := Tryz.func188.trans (congrArg some (by kernel_rfl))
 f171 := Tryz.func44.trans (congrArg some (by kernel_rfl))
 f243 := Tryz.func77.trans (congrArg some (by kernel_rfl))
 f246 := Tryz.func117.trans (congrArg some (by kernel_rfl))
 f283 := Tryz.func159.trans (congrArg some (by kernel_rfl))
 f284 := Tryz.func160.trans (congrArg some (by kernel_rfl))
 f285 := Tryz.func161.trans (congrArg some (by kernel_rfl))
 f286 := Tryz.func162.trans (congrArg some (by kernel_rfl))
 f317 := Tryz.func187.trans (congrArg some (by kernel_rfl))
 f318 := Tryz.func189.trans (congrArg some (by kernel_rfl))
 f319 := Tryz.func190.trans (congrArg some (by kernel_rfl))
 f320 := Tryz.func191.trans (congrArg some (by kernel_rfl))
 f337 := Tryz.func209.trans (congrArg some (by kernel_rfl))
 f338 := Tryz.func210.trans (congrArg some (by kernel_rfl))
 t0 := Tryz.underlying0
 a0 := Tryz.isAgg0
 z0 := Tryz.sizeOf0
 v0 := Tryz.zeroValue0
 t2 := Tryz.underlying2
 a2 := Tryz.isAgg2
 z2 := Tryz.sizeOf2
 v2 := Tryz.zeroValue2
 t3 := Tryz.underlying3
 a3 := Tryz.isAgg3
 z3 := Tryz.sizeOf3
 v3 := Tryz.zeroValue3
 t4 := Tryz.underlying4
 a4 := Tryz.isAgg4
 z4 := Tryz.sizeOf4
 v4 := Tryz.zeroValue4
 t5 := Tryz.underlying5
 a5 := Tryz.isAgg5
 z5 := Tryz.sizeOf5
 v5 := Tryz.zeroValue5
 t9 := Tryz.underlying9
 a9 := Tryz.isAgg9
 z9 := Tryz.sizeOf9
 v9 := Tryz.zeroValue9
 t20 := Tryz.underlying20
 a20 := Tryz.isAgg20
 z20 := Tryz.sizeOf20
 v20 := Tryz.zeroValue20
 t37 := Tryz.underlying41
 a37 := Tryz.isAgg41
 z37 := Tryz.sizeOf41
 v37 := Tryz.zeroValue41
 t46 := Tryz.underlying191
 a46 := Tryz.isAgg191
 z46 := Tryz.sizeOf191
 v46 := Tryz.zeroValue191
 t51 := Tryz.underlying200
 a51 := Tryz.isAgg200
 z51 := Tryz.sizeOf200
 v51 := Tryz.zeroValue200
 t53 := Tryz.underlying115
 a53 := Tryz.isAgg115
 z53 := Tryz.sizeOf115
 v53 := Tryz.zeroValue115
 t171 := Tryz.underlying180
 a171 := Tryz.isAgg180
 z171 := Tryz.sizeOf180
 v171 := Tryz.zeroValue180
 t173 := Tryz.underlying183
 a173 := Tryz.isAgg183
 z173 := Tryz.sizeOf183
 v173 := Tryz.zeroValue183
 t212 := Tryz.underlying199
 a212 := Tryz.isAgg199
 z212 := Tryz.sizeOf199
 v212 := Tryz.zeroValue199
 t213 := Tryz.underlying201
 a213 := Tryz.isAgg201
 z213 := Tryz.sizeOf201
 t232 := Tryz.underlying236
 a232 := Tryz.isAgg236
 z232 := Tryz.sizeOf236
 v232 := Tryz.zeroValue236
 t233 := Tryz.underlying237
 a233 := Tryz.isAgg237
 z233 := Tryz.sizeOf237
 v233 := Tryz.zeroValue237
 g17 := by kernel_rfl
 g18 := by kernel_rfl
 g19 := by kernel_rfl
 i0 := by kernel_rfl
 i2 := by kernel_rfl
 i3 := by kernel_rfl
 i4 := by kernel_rfl
 i5 := by kernel_rfl
 i9 := by kernel_rfl
 i20 := by kernel_rfl
 i37 := by kernel_rfl
 i46 := by kernel_rfl
 i51 := by kernel_rfl
 i53 := by kernel_rfl
 i171 := by kernel_rfl
 i173 := by kernel_rfl
 i212 := by kernel_rfl
 i232 := by kernel_rfl
 i233 := by kernel_rfl
 m17 := by kernel_rfl
 m18 := by kernel_rfl
 m19 := by kernel_rfl }
open Go.RowKit Go.Sort Go.Lib in
theorem Tryz.strconv_Itoa (n : Int) (h0 : -9223372036854775808 ≤ n) (h1 : n ≤ 9223372036854775807) (w : World) (htab : Lib.TabIs Tryz.prog w "internal/strconv.uint64pow10" .u64 Lib.pow10Tab) :
  Calls Tryz.prog 44 #[.int .i64 n] w fun e w' => e = .returned (.string ⟨(Lib.itoa n).toArray⟩) ∧ ∃ k os, w' = grow (w.drewN k) os := Any.strconv_Itoa Tryz.laysM171 n h0 h1 w htab
def Tryz.lays171_ren : Go.Shelf.Ren := ⟨fun | 171 => 44 | 243 => 77 | 246 => 117 | 283 => 159 | 284 => 160 | 285 => 161 | 286 => 162 | 129 => 188 | 317 => 187 | 318 => 189 | 319 => 190 | 320 => 191 | 337 => 209 | 338 => 210 | n => n, fun | 3 => 3 | 9 => 9 | 2 => 2 | 4 => 4 | 171 => 180 | 0 => 0 | 53 => 115 | 37 => 41 | 5 => 5 | 173 => 183 | 212 => 199 | 51 => 200 | 20 => 20 | 213 => 201 | 46 => 191 | 232 => 236 | 233 => 237 | n => n, fun | 17 => 2 | 18 => 6 | 19 => 7 | n => n⟩
theorem Tryz.lays171 : Go.Proofs.Lays.n171 Tryz.prog Tryz.lays171_ren := {
 mixed := by kernel_rfl
 f129 := Tryz.func188.trans (congrArg some (by kernel_rfl))
 f171 := Tryz.func44.trans (congrArg some (by kernel_rfl))
 f243 := Tryz.func77.trans (congrArg some (by kernel_rfl))
 f246 := Tryz.func117.trans (congrArg some (by kernel_rfl))
 f283 := Tryz.func159.trans (congrArg some (by kernel_rfl))
 f284 := Tryz.func160.trans (congrArg some (by kernel_rfl))
 f285 := Tryz.func161.trans (congrArg some (by kernel_rfl))
 f286 := Tryz.func162.trans (congrArg some (by kernel_rfl))
 f317 := Tryz.func187.trans (congrArg some (by kernel_rfl))
 f318 := Tryz.func189.trans (congrArg some (by kernel_rfl))
 f319 := Tryz.func190.trans (congrArg some (by kernel_rfl))
 f320 := Tryz.func191.trans (congrArg some (by kernel_rfl))
 f337 := Tryz.func209.trans (congrArg some (by kernel_rfl))
 f338 := Tryz.func210.trans (congrArg some (by kernel_rfl))
 t0 := Tryz.underlying0
 a0 := Tryz.isAgg0
 z0 := Tryz.sizeOf0
 v0 := Tryz.zeroValue0
 t2 := Tryz.underlying2
 a2 := Tryz.isAgg2
 z2 := Tryz.sizeOf2
 v2 := Tryz.zeroValue2
 t3 := Tryz.underlying3
 a3 := Tryz.isAgg3
 z3 := Tryz.sizeOf3
 v3 := Tryz.zeroValue3
 t4 := Tryz.underlying4
 a4 := Tryz.isAgg4
 z4 := Tryz.sizeOf4
 v4 := Tryz.zeroValue4
 t5 := Tryz.underlying5
 a5 := Tryz.isAgg5
 z5 := Tryz.sizeOf5
 v5 := Tryz.zeroValue5
 t9 := Tryz.underlying9
 a9 := Tryz.isAgg9
 z9 := Tryz.sizeOf9
 v9 := Tryz.zeroValue9
 t20 := Tryz.underlying20
 a20 := Tryz.isAgg20
 z20 := Tryz.sizeOf20
 v20 := Tryz.zeroValue20
 t37 := Tryz.underlying41
 a37 := Tryz.isAgg41
 z37 := Tryz.sizeOf41
 v37 := Tryz.zeroValue41
 t46 := Tryz.underlying191
 a46 := Tryz.isAgg191
 z46 := Tryz.sizeOf191
 v46 := Tryz.zeroValue191
 t51 := Tryz.underlying200
 a51 := Tryz.isAgg200
 z51 := Tryz.sizeOf200
 v51 := Tryz.zeroValue200
 t53 := Tryz.underlying115
 a53 := Tryz.isAgg115
 z53 := Tryz.sizeOf115
 v53 := Tryz.zeroValue115
 t171 := Tryz.underlying180
 a171 := Tryz.isAgg180
 z171 := Tryz.sizeOf180
 v171 := Tryz.zeroValue180
 t173 := Tryz.underlying183
 a173 := Tryz.isAgg183
 z173 := Tryz.sizeOf183
 v173 := Tryz.zeroValue183
 t212 := Tryz.underlying199
 a212 := Tryz.isAgg199
 z212 := Tryz.sizeOf199
 v212 := Tryz.zeroValue199
 t213 := Tryz.underlying201
 a213 := Tryz.isAgg201
 z213 := Tryz.sizeOf201
 t232 := Tryz.underlying236
 a232 := Tryz.isAgg236
 z232 := Tryz.sizeOf236
 v232 := Tryz.zeroValue236
 t233 := Tryz.underlying237
 a233 := Tryz.isAgg237
 z233 := Tryz.sizeOf237
 v233 := Tryz.zeroValue237
 g17 := by kernel_rfl
 g18 := by kernel_rfl
 g19 := by kernel_rfl }
open Go.RowKit Go.Sort Go.Lib in
theorem Tryz.strconv_Itoa_small (i : Nat) (hi : i < 100) (w : World) :
  Calls Tryz.prog 44 #[.int .i64 i] w fun e w' => e = .returned (.string ⟨(Lib.decDigits i).toArray⟩) ∧ w' = w := Any.strconv_Itoa_small Tryz.lays171 i hi w
def Tryz.lays143_ren : Go.Shelf.Ren := ⟨fun | 143 => 119 | 219 => 165 | 217 => 192 | 225 => 193 | 224 => 194 | 267 => 195 | 266 => 211 | 314 => 212 | n => n, fun | 9 => 9 | 3 => 3 | 4 => 4 | 5 => 5 | 46 => 191 | 146 => 222 | 51 => 200 | n => n, fun | 1 => 0 | n => n⟩
theorem Tryz.lays143 : Go.Proofs.Lays.n143 Tryz.prog Tryz.lays143_ren := {
 mixed := by kernel_rfl
 f143 := Tryz.func119.trans (congrArg some (by kernel_rfl))
 f217 := Tryz.func192.trans (congrArg some (by kernel_rfl))
 f219 := Tryz.func165.trans (congrArg some (by kernel_rfl))
 f224 := Tryz.func194.trans (congrArg some (by kernel_rfl))
 f225 := Tryz.func193.trans (congrArg some (by kernel_rfl))
 f266 := Tryz.func211.trans (congrArg some (by kernel_rfl))
 f267 := Tryz.func195.trans (congrArg some (by kernel_rfl))
 f314 := Tryz.func212.trans (congrArg some (by kernel_rfl))
 t3 := Tryz.underlying3
 a3 := Tryz.isAgg3
 z3 := Tryz.sizeOf3
 v3 := Tryz.zeroValue3
 t4 := Tryz.underlying4
 a4 := Tryz.isAgg4
 z4 := Tryz.sizeOf4
 v4 := Tryz.zeroValue4
 t5 := Tryz.underlying5
 a5 := Tryz.isAgg5
 z5 := Tryz.sizeOf5
 v5 := Tryz.zeroValue5
 t9 := Tryz.underlying9
 a9 := Tryz.isAgg9
 z9 := Tryz.sizeOf9
 v9 := Tryz.zeroValue9
 t46 := Tryz.underlying191
 a46 := Tryz.isAgg191
 z46 := Tryz.sizeOf191
 v46 := Tryz.zeroValue191
 t51 := Tryz.underlying200
 a51 := Tryz.isAgg200
 z51 := Tryz.sizeOf200
 v51 := Tryz.zeroValue200
 t146 := Tryz.underlying222
 a146 := Tryz.isAgg222
 z146 := Tryz.sizeOf222
 v146 := Tryz.zeroValue222
 g1 := by kernel_rfl }
open Go.RowKit Go.Lib in
theorem Tryz.strings_Index_one (s : ByteArray) (c : UInt8) (w : World) :
  Calls Tryz.prog 119 #[.string s, .string ⟨#[c]⟩] w fun e w' => e = .returned (.int .i64 (Lib.indexByte s.data.toList c)) ∧ w' = w := Any.strings_Index_one Tryz.lays143 s c w
def Tryz.lays145_ren : Go.Shelf.Ren := ⟨fun | 145 => 206 | 220 => 223 | 219 => 165 | 217 => 192 | 225 => 193 | 224 => 194 | 267 => 195 | 266 => 211 | 314 => 212 | n => n, fun | 9 => 9 | 4 => 4 | 59 => 218 | 3 => 3 | 5 => 5 | 46 => 191 | 146 => 222 | 51 => 200 | n => n, fun | 1 => 0 | n => n⟩
theorem Tryz.lays145 : Go.Proofs.Lays.n145 Tryz.prog Tryz.lays145_ren := {
 mixed := by kernel_rfl
 f145 := Tryz.func206.trans (congrArg some (by kernel_rfl))
 f217 := Tryz.func192.trans (congrArg some (by kernel_rfl))
 f219 := Tryz.func165.trans (congrArg some (by kernel_rfl))
 f220 := Tryz.func223.trans (congrArg some (by kernel_rfl))
 f224 := Tryz.func194.trans (congrArg some (by kernel_rfl))
 f225 := Tryz.func193.trans (congrArg some (by kernel_rfl))
 f266 := Tryz.func211.trans (congrArg some (by kernel_rfl))
 f267 := Tryz.func195.trans (congrArg some (by kernel_rfl))
 f314 := Tryz.func212.trans (congrArg some (by kernel_rfl))
 t3 := Tryz.underlying3
 a3 := Tryz.isAgg3
 z3 := Tryz.sizeOf3
 v3 := Tryz.zeroValue3
 t4 := Tryz.underlying4
 a4 := Tryz.isAgg4
 z4 := Tryz.sizeOf4
 v4 := Tryz.zeroValue4
 t5 := Tryz.underlying5
 a5 := Tryz.isAgg5
 z5 := Tryz.sizeOf5
 v5 := Tryz.zeroValue5
 t9 := Tryz.underlying9
 a9 := Tryz.isAgg9
 z9 := Tryz.sizeOf9
 v9 := Tryz.zeroValue9
 t46 := Tryz.underlying191
 a46 := Tryz.isAgg191
 z46 := Tryz.sizeOf191
 v46 := Tryz.zeroValue191
 t51 := Tryz.underlying200
 a51 := Tryz.isAgg200
 z51 := Tryz.sizeOf200
 v51 := Tryz.zeroValue200
 t59 := Tryz.underlying218
 a59 := Tryz.isAgg218
 z59 := Tryz.sizeOf218
 v59 := Tryz.zeroValue218
 t146 := Tryz.underlying222
 a146 := Tryz.isAgg222
 z146 := Tryz.sizeOf222
 v146 := Tryz.zeroValue222
 g1 := by kernel_rfl }
open Go.RowKit Go.Lib in
theorem Tryz.strings_Cut (s sep : ByteArray) (m : Int) (w : World) (hs : s.size < 4294967281) (hm : w.cell? ⟨0, 0, none⟩ = some (.int .i64 m)) :
  Calls Tryz.prog 206 #[.string s, .string sep] w fun e w' => e = .returned (.tuple #[.string ⟨(Lib.cut s.data.toList sep.data.toList).1.toArray⟩, .string ⟨(Lib.cut s.data.toList sep.data.toList).2.1.toArray⟩, .bool (Lib.cut s.data.toList sep.data.toList).2.2]) ∧ ∃ n, w' = w.drewN n := Any.strings_Cut Tryz.lays145 s sep m w hs hm
def Tryz.lays99_ren : Go.Shelf.Ren := ⟨fun | 99 => 198 | 206 => 215 | n => n, fun | 9 => 9 | 4 => 4 | 3 => 3 | n => n, fun | n => n⟩
theorem Tryz.lays99 : Go.Proofs.Lays.n99 Tryz.prog Tryz.lays99_ren := {
 mixed := by kernel_rfl
 f99 := Tryz.func198.trans (congrArg some (by kernel_rfl))
 f206 := Tryz.func215.trans (congrArg some (by kernel_rfl))
 t3 := Tryz.underlying3
 a3 := Tryz.isAgg3
 z3 := Tryz.sizeOf3
 v3 := Tryz.zeroValue3
 t4 := Tryz.underlying4
 a4 := Tryz.isAgg4
 z4 := Tryz.sizeOf4
 v4 := Tryz.zeroValue4
 t9 := Tryz.underlying9
 a9 := Tryz.isAgg9
 z9 := Tryz.sizeOf9
 v9 := Tryz.zeroValue9 }
open Go.RowKit Go.Lib in
theorem Tryz.strings_HasPrefix (s p : ByteArray) (w : World) :
  Calls Tryz.prog 198 #[.string s, .string p] w fun e w' => e = .returned (.bool (Lib.hasPrefix s.data.toList p.data.toList)) ∧ w' = w := Any.strings_HasPrefix Tryz.lays99 s p w
def Tryz.lays155_ren : Go.Shelf.Ren := ⟨fun | 155 => 45 | 154 => 78 | 138 => 118 | 165 => 84 | 143 => 119 | 166 => 48 | 197 => 120 | 169 => 51 | 195 => 163 | 218 => 164 | 240 => 83 | 241 => 127 | 219 => 165 | 260 => 166 | 276 => 126 | 277 => 174 | 217 => 192 | 225 => 193 | 224 => 194 | 267 => 195 | 266 => 211 | 314 => 212 | n => n, fun | 9 => 9 | 3 => 3 | 4 => 4 | 72 => 80 | 0 => 0 | 76 => 83 | 105 => 149 | 21 => 21 | 5 => 5 | 70 => 78 | 20 => 20 | 37 => 41 | 75 => 82 | 127 => 120 | 164 => 160 | 46 => 191 | 119 => 203 | 139 => 206 | 138 => 205 | 146 => 222 | 51 => 200 | 80 => 87 | n => n, fun | 1 => 0 | 3 => 3 | 4 => 4 | n => n⟩
theorem Tryz.lays155 : Go.Proofs.Lays.n155 Tryz.prog Tryz.lays155_ren := {
 mixed := by kernel_rfl
 f138 := Tryz.func118.trans (congrArg some (by kernel_rfl))
 f143 := Tryz.func119.trans (congrArg some (by kernel_rfl))
 f154 := Tryz.func78.trans (congrArg some (by kernel_rfl))
 f155 := Tryz.func45.trans (congrArg some (by kernel_rfl))
 f165 := Tryz.func84.trans (congrArg some (by kernel_rfl))
 f166 := Tryz.func48.trans (congrArg some (by kernel_rfl))
 f169 := Tryz.func51.trans (congrArg some (by kernel_rfl))
 f195 := Tryz.func163.trans (congrArg some (by kernel_rfl))
 f197 := Tryz.func120.trans (congrArg some (by kernel_rfl))
 f217 := Tryz.func192.trans (congrArg some (by kernel_rfl))
 f218 := Tryz.func164.trans (congrArg some (by kernel_rfl))
 f219 := Tryz.func165.trans (congrArg some (by kernel_rfl))
 f224 := Tryz.func194.trans (congrArg some (by kernel_rfl))
 f225 := Tryz.func193.trans (congrArg some (by kernel_rfl))
 f240 := Tryz.func83.trans (congrArg some (by kernel_rfl))
 f241 := Tryz.func127.trans (congrArg some (by kernel_rfl))
 f260 := Tryz.func166.trans (congrArg some (by kernel_rfl))
 f266 := Tryz.func211.trans (congrArg some (by kernel_rfl))
 f267 := Tryz.func195.trans (congrArg some (by kernel_rfl))
 f276 := Tryz.func126.trans (congrArg some (by kernel_rfl))
 f277 := Tryz.func174.trans (congrArg some (by kernel_rfl))
 f314 := Tryz.func212.trans (congrArg some (by kernel_rfl))
 t0 := Tryz.underlying0
 a0 := Tryz.isAgg0
 z0 := Tryz.sizeOf0
 v0 := Tryz.zeroValue0
 t3 := Tryz.underlying3
 a3 := Tryz.isAgg3
 z3 := Tryz.sizeOf3
 v3 := Tryz.zeroValue3
 t4 := Tryz.underlying4
 a4 := Tryz.isAgg4
 z4 := Tryz.sizeOf4
 v4 := Tryz.zeroValue4
 t5 := Tryz.underlying5
 a5 := Tryz.isAgg5
 z5 := Tryz.sizeOf5
 v5 := Tryz.zeroValue5
 t9 := Tryz.underlying9
 a9 := Tryz.isAgg9
 z9 := Tryz.sizeOf9
 v9 := Tryz.zeroValue9
 t20 := Tryz.underlying20
 a20 := Tryz.isAgg20
 z20 := Tryz.sizeOf20
 v20 := Tryz.zeroValue20
 t21 := Tryz.underlying21
 a21 := Tryz.isAgg21
 z21 := Tryz.sizeOf21
 v21 := Tryz.zeroValue21
 t37 := Tryz.underlying41
 a37 := Tryz.isAgg41
 z37 := Tryz.sizeOf41
 v37 := Tryz.zeroValue41
 t46 := Tryz.underlying191
 a46 := Tryz.isAgg191
 z46 := Tryz.sizeOf191
 v46 := Tryz.zeroValue191
 t51 := Tryz.underlying200
 a51 := Tryz.isAgg200
 z51 := Tryz.sizeOf200
 v51 := Tryz.zeroValue200
 t70 := Tryz.underlying78
 a70 := Tryz.isAgg78
 z70 := Tryz.sizeOf78
 v70 := Tryz.zeroValue78
 t72 := Tryz.underlying80
 a72 := Tryz.isAgg80
 z72 := Tryz.sizeOf80
 v72 := Tryz.zeroValue80
 t75 := Tryz.underlying82
 a75 := Tryz.isAgg82
 z75 := Tryz.sizeOf82
 v75 := Tryz.zeroValue82
 t76 := Tryz.underlying83
 a76 := Tryz.isAgg83
 z76 := Tryz.sizeOf83
 v76 := Tryz.zeroValue83
 t105 := Tryz.underlying149
 a105 := Tryz.isAgg149
 z105 := Tryz.sizeOf149
 v105 := Tryz.zeroValue149
 t119 := Tryz.underlying203
 a119 := Tryz.isAgg203
 z119 := Tryz.sizeOf203
 t127 := Tryz.underlying120
 a127 := Tryz.isAgg120
 z127 := Tryz.sizeOf120
 v127 := Tryz.zeroValue120
 t138 := Tryz.underlying205
 a138 := Tryz.isAgg205
 z138 := Tryz.sizeOf205
 v138 := Tryz.zeroValue205
 t139 := Tryz.underlying206
 a139 := Tryz.isAgg206
 z139 := Tryz.sizeOf206
 v139 := Tryz.zeroValue206
 t146 := Tryz.underlying222
 a146 := Tryz.isAgg222
 z146 := Tryz.sizeOf222
 v146 := Tryz.zeroValue222
 t164 := Tryz.underlying160
 a164 := Tryz.isAgg160
 z164 := Tryz.sizeOf160
 v164 := Tryz.zeroValue160
 g1 := by kernel_rfl
 g3 := by kernel_rfl
 g4 := by kernel_rfl }
theorem Tryz.Builder_Extra_155 : Builder.Extra Tryz.prog Tryz.lays155_ren := {
 sizeBuilder := by kernel_rfl
 liesBuilder := by kernel_rfl
 t5 := Tryz.underlying5
 a5 := Tryz.isAgg5
 z5 := Tryz.sizeOf5
 v5 := Tryz.zeroValue5
 infoByte := by kernel_rfl
 cellsByte := by kernel_rfl
 sizeByte := by kernel_rfl
 neB5 := by decide }
open Go.RowKit Go.Lib in
theorem Tryz.strings_ReplaceAll (s old new : ByteArray) (m : Int) (w : World) (hs : s.size < 4294967281) (hm : w.cell? ⟨0, 0, none⟩ = some (.int .i64 m)) (h1 : 1 ≤ old.size) (hlen : s.size + Lib.countB s old * new.size ≤ 140737488355328) :
  Calls Tryz.prog 45 #[.string s, .string old, .string new] w fun e w' =>
   e = .returned (.string ⟨(Lib.replaceAll s.data.toList old.data.toList new.data.toList).toArray⟩) ∧ Below w.heap.size w w' := Any.strings_ReplaceAll Tryz.lays155 Tryz.Builder_Extra_155 s old new m w hs hm h1 hlen
def Tryz.lays153_ren : Go.Shelf.Ren := ⟨fun | 153 => 175 | 152 => 199 | 226 => 200 | 227 => 201 | 228 => 202 | 137 => 177 | 119 => 216 | 224 => 194 | 225 => 193 | 217 => 192 | 266 => 211 | n => n, fun | 9 => 9 | 3 => 3 | 4 => 4 | 5 => 5 | 21 => 21 | 117 => 214 | 116 => 213 | 0 => 0 | 46 => 191 | 124 => 228 | n => n, fun | n => n⟩
theorem Tryz.lays153 : Go.Proofs.Lays.n153 Tryz.prog Tryz.lays153_ren := {
 mixed := by kernel_rfl
 f119 := Tryz.func216.trans (congrArg some (by kernel_rfl))
 f137 := Tryz.func177.trans (congrArg some (by kernel_rfl))
 f152 := Tryz.func199.trans (congrArg some (by kernel_rfl))
 f153 := Tryz.func175.trans (congrArg some (by kernel_rfl))
 f217 := Tryz.func192.trans (congrArg some (by kernel_rfl))
 f224 := Tryz.func194.trans (congrArg some (by kernel_rfl))
 f225 := Tryz.func193.trans (congrArg some (by kernel_rfl))
 f226 := Tryz.func200.trans (congrArg some (by kernel_rfl))
 f227 := Tryz.func201.trans (congrArg some (by kernel_rfl))
 f228 := Tryz.func202.trans (congrArg some (by kernel_rfl))
 f266 := Tryz.func211.trans (congrArg some (by kernel_rfl))
 t0 := Tryz.underlying0
 a0 := Tryz.isAgg0
 z0 := Tryz.sizeOf0
 v0 := Tryz.zeroValue0
 t3 := Tryz.underlying3
 a3 := Tryz.isAgg3
 z3 := Tryz.sizeOf3
 v3 := Tryz.zeroValue3
 t4 := Tryz.underlying4
 a4 := Tryz.isAgg4
 z4 := Tryz.sizeOf4
 v4 := Tryz.zeroValue4
 t5 := Tryz.underlying5
 a5 := Tryz.isAgg5
 z5 := Tryz.sizeOf5
 v5 := Tryz.zeroValue5
 t9 := Tryz.underlying9
 a9 := Tryz.isAgg9
 z9 := Tryz.sizeOf9
 v9 := Tryz.zeroValue9
 t21 := Tryz.underlying21
 a21 := Tryz.isAgg21
 z21 := Tryz.sizeOf21
 v21 := Tryz.zeroValue21
 t46 := Tryz.underlying191
 a46 := Tryz.isAgg191
 z46 := Tryz.sizeOf191
 v46 := Tryz.zeroValue191
 t116 := Tryz.underlying213
 a116 := Tryz.isAgg213
 z116 := Tryz.sizeOf213
 t117 := Tryz.underlying214
 a117 := Tryz.isAgg214
 z117 := Tryz.sizeOf214
 v117 := Tryz.zeroValue214
 t124 := Tryz.underlying228
 a124 := Tryz.isAgg228
 z124 := Tryz.sizeOf228
 v124 := Tryz.zeroValue228 }
open Go.RowKit Go.Lib in
theorem Tryz.strings_IndexAny_laid (s chars : ByteArray) (w : World) (hs : s.size < 4294967281) (hcs : chars.size < 4294967281) (has : ∀ (j : Nat) b, s.data.toList[j]? = some b → b.toNat < 128) (hac : ∀ (j : Nat) b, chars.data.toList[j]? = some b → b.toNat < 128) :
  Calls Tryz.prog 175 #[.string s, .string chars] w fun e w' => e = .returned (.int .i64 (Lib.indexAny s.data.toList chars.data.toList)) ∧ Below w.heap.size w w' := Any.strings_IndexAny_laid Tryz.lays153 (by kernel_rfl) s chars w hs hcs has hac
def Tryz.lays105_ren : Go.Shelf.Ren := ⟨fun | 105 => 197 | 212 => 213 | 99 => 198 | 165 => 84 | 166 => 48 | 170 => 214 | 169 => 51 | 263 => 226 | 264 => 227 | 206 => 215 | 240 => 83 | 241 => 127 | 276 => 126 | 277 => 174 | n => n, fun | 9 => 9 | 3 => 3 | 4 => 4 | 20 => 20 | 0 => 0 | 46 => 191 | 109 => 224 | 5 => 5 | 72 => 80 | 76 => 83 | 51 => 200 | 146 => 222 | 53 => 115 | 148 => 239 | 70 => 78 | 37 => 41 | 75 => 82 | 127 => 120 | 164 => 160 | 80 => 87 | n => n, fun | n => n⟩
theorem Tryz.lays105 : Go.Proofs.Lays.n105 Tryz.prog Tryz.lays105_ren := {
 mixed := by kernel_rfl
 f99 := Tryz.func198.trans (congrArg some (by kernel_rfl))
 f105 := Tryz.func197.trans (congrArg some (by kernel_rfl))
 f165 := Tryz.func84.trans (congrArg some (by kernel_rfl))
 f166 := Tryz.func48.trans (congrArg some (by kernel_rfl))
 f169 := Tryz.func51.trans (congrArg some (by kernel_rfl))
 f170 := Tryz.func214.trans (congrArg some (by kernel_rfl))
 f206 := Tryz.func215.trans (congrArg some (by kernel_rfl))
 f212 := Tryz.func213.trans (congrArg some (by kernel_rfl))
 f240 := Tryz.func83.trans (congrArg some (by kernel_rfl))
 f241 := Tryz.func127.trans (congrArg some (by kernel_rfl))
 f263 := Tryz.func226.trans (congrArg some (by kernel_rfl))
 f264 := Tryz.func227.trans (congrArg some (by kernel_rfl))
 f276 := Tryz.func126.trans (congrArg some (by kernel_rfl))
 f277 := Tryz.func174.trans (congrArg some (by kernel_rfl))
 t0 := Tryz.underlying0
 a0 := Tryz.isAgg0
 z0 := Tryz.sizeOf0
 v0 := Tryz.zeroValue0
 t3 := Tryz.underlying3
 a3 := Tryz.isAgg3
 z3 := Tryz.sizeOf3
 v3 := Tryz.zeroValue3
 t4 := Tryz.underlying4
 a4 := Tryz.isAgg4
 z4 := Tryz.sizeOf4
 v4 := Tryz.zeroValue4
 t5 := Tryz.underlying5
 a5 := Tryz.isAgg5
 z5 := Tryz.sizeOf5
 v5 := Tryz.zeroValue5
 t9 := Tryz.underlying9
 a9 := Tryz.isAgg9
 z9 := Tryz.sizeOf9
 v9 := Tryz.zeroValue9
 t20 := Tryz.underlying20
 a20 := Tryz.isAgg20
 z20 := Tryz.sizeOf20
 v20 := Tryz.zeroValue20
 t37 := Tryz.underlying41
 a37 := Tryz.isAgg41
 z37 := Tryz.sizeOf41
 v37 := Tryz.zeroValue41
 t46 := Tryz.underlying191
 a46 := Tryz.isAgg191
 z46 := Tryz.sizeOf191
 v46 := Tryz.zeroValue191
 t51 := Tryz.underlying200
 a51 := Tryz.isAgg200
 z51 := Tryz.sizeOf200
 v51 := Tryz.zeroValue200
 t53 := Tryz.underlying115
 a53 := Tryz.isAgg115
 z53 := Tryz.sizeOf115
 v53 := Tryz.zeroValue115
 t70 := Tryz.underlying78
 a70 := Tryz.isAgg78
 z70 := Tryz.sizeOf78
 v70 := Tryz.zeroValue78
 t72 := Tryz.underlying80
 a72 := Tryz.isAgg80
 z72 := Tryz.sizeOf80
 v72 := Tryz.zeroValue80
 t75 := Tryz.underlying82
 a75 := Tryz.isAgg82
 z75 := Tryz.sizeOf82
 v75 := Tryz.zeroValue82
 t76 := Tryz.underlying83
 a76 := Tryz.isAgg83
 z76 := Tryz.sizeOf83
 v76 := Tryz.zeroValue83
 t109 := Tryz.underlying224
 a109 := Tryz.isAgg224
 z109 := Tryz.sizeOf224
 v109 := Tryz.zeroValue224
 t127 := Tryz.underlying120
 a127 := Tryz.isAgg120
 z127 := Tryz.sizeOf120
 v127 := Tryz.zeroValue120
 t146 := Tryz.underlying222
 a146 := Tryz.isAgg222
 z146 := Tryz.sizeOf222
 v146 := Tryz.zeroValue222
 t148 := Tryz.underlying239
 a148 := Tryz.isAgg239
 z148 := Tryz.sizeOf239
 v148 := Tryz.zeroValue239
 t164 := Tryz.underlying160
 a164 := Tryz.isAgg160
 z164 := Tryz.sizeOf160
 v164 := Tryz.zeroValue160 }
theorem Tryz.Builder_Extra_105 : Builder.Extra Tryz.prog Tryz.lays105_ren := {
 sizeBuilder := by kernel_rfl
 liesBuilder := by kernel_rfl
 t5 := Tryz.underlying5
 a5 := Tryz.isAgg5
 z5 := Tryz.sizeOf5
 v5 := Tryz.zeroValue5
 infoByte := by kernel_rfl
 cellsByte := by kernel_rfl
 sizeByte := by kernel_rfl
 neB5 := by decide }
open Go.RowKit Go.Lib in
theorem Tryz.strings_Repeat (s : ByteArray) (c : Nat) (w : World) (hc : c ≤ 9223372036854775807) (hlen : s.size * c ≤ 140737488355328) :
  Calls Tryz.prog 197 #[.string s, .int .i64 c] w fun e w' => e = .returned (.string ⟨(Lib.repeatL s.data.toList c).toArray⟩) ∧ Below w.heap.size w w' := Any.strings_Repeat Tryz.lays105 Tryz.Builder_Extra_105 s c w hc hlen
end Go.Proofs
namespace Go.Proofs.YtmpgfchkkemngaaGreatDoor
open Go.RowKit Go.V
open Go.Eng (inR byteAt u8 bytesV)
variable {g : Gv}
theorem u8_nat (k : Nat) : u8 (k : Int) = UInt8.ofNat k := by
 have e : ((k : Int) % 256).toNat = k % 256 := by omega
 rw [u8, e]
 apply UInt8.toNat_inj.1
 simp
theorem dig_eq {i : Nat} (h : i < 100) : Lib.decDigits i = dec2 (i : Int) := by
 by_cases h1 : i < 10
 ·rw [Lib.decDigits_one h1, dec2, if_pos (by omega), ← u8_nat]; rfl
 ·rw [Lib.decDigits_two h1 h, dec2, if_neg (by omega), ← u8_nat, ← u8_nat]; rfl
theorem itoaSmall_ok (n : Int) (h0 : 0 ≤ n) (h1 : n ≤ 99) : SpG g 44 [.c (.d (.i n))] [] (.c (.d (.s (S (dec2 n))))) [] := by
 refine of_exact (args := [.int .i64 n]) rfl rfl rfl fun w => ?_
 have h := Tryz.strconv_Itoa_small n.toNat (by omega) w
 have e : ((n.toNat : Nat) : Int) = n := by omega
 have d := dig_eq (i := n.toNat) (by omega)
 simp only [e] at d
 rw [e, d] at h
 exact h.mono fun _ _ ⟨a, b⟩ => ⟨a, b.symm⟩
theorem join_eq (sep : List UInt8) : ∀ l : List (List UInt8), Lib.join l sep = joinL sep l
 | [] => rfl
 | [x] => by simp [Lib.join, joinL, List.intercalate]
 | x :: y :: r => by
  have := join_eq sep (y :: r)
  simp only [Lib.join, joinL, List.intercalate, List.intersperse, List.flatten_cons] at this ⊢
  rw [this]
  simp
theorem join_ok (l : List (List UInt8)) (sep : List UInt8) (h : sumL sep.length l ≤ 1000000000) (hl : l.length ≤ 1000000) : SpG g 49 [.c (.d (.sl 1 (strs l))), .c (.d (.s (S sep)))] [] (.c (.d (.s (S (joinL sep l))))) [] := by
 intro fr w pl args hw hG m ha
 obtain ⟨v, r, rfl, h1, h2⟩ := ha.uncons
 obtain ⟨u, r', rfl, h3, h4⟩ := h2.uncons
 rw [h4.unnil]
 have hu : u = .string (S sep) := Rd.exact h3
 subst hu
 have fin : (Calls Tryz.prog 49 #[v, .string (S sep)] w fun e w' => e = .returned (.string (S (joinL sep l))) ∧ Below w.heap.size w w') → Calls Tryz.prog 49 [v, .string (S sep)].toArray w fun e w' => ∃ v pl', e = .returned v ∧ Mem fr (lookO []) w' pl' ∧ SvOk w' pl' (lookO []) (.c (.d (.s (S (joinL sep l))))) v := by
  intro hc
  refine Calls.mono hc ?_
  rintro e w' ⟨rfl, hb⟩
  obtain ⟨m', L⟩ := m.ext (w' := w') ⟨hb.os, hb.tape, hb.output, hb.size, fun k hk _ => hb.block k hk⟩
  exact ⟨_, pl, rfl, m', Rd.v _ rfl⟩
 refine fin ?_
 have h1 : Rd w (Sh pl (lookO [])) (.sl 1 (strs l)) v := h1
 generalize hes : strs l = es at h1
 cases h1 with
 | nil =>
  have : l = [] := by simpa [strs] using hes
  subst this
  exact (Tryz.strings_Join_none none 0 (S sep) w).mono fun _ _ ⟨a, b⟩ => ⟨a, by rw [b]; exact Below.refl _ _⟩
 | sl us hF hb hc hm hs hu hr =>
  rename_i b off c cs e fz
  subst hes
  have hlen : (strs l).length = l.length := by simp [strs]
  have hj := joinL_len sep l
  have e1 : (l.map S).map (fun x : ByteArray => x.data.toList) = l := by
   rw [List.map_map]
   exact (List.map_congr_left fun x _ => by simp [S]).trans (List.map_id l)
  have e2 : (S sep).data.toList = sep := by simp [S]
  have := Tryz.strings_Join b off c (l.map S) (S sep) w (fun j x hx => by
    simp only [List.getElem?_map, Option.map_eq_some_iff] at hx
    obtain ⟨t, ht, rfl⟩ := hx
    have a1 : (strs l)[j]? = some [.s (S t)] := by simp [strs, strD, ht]
    have a2 := hu j 0 _ _ a1 rfl
    have a3 := Rd.exact (hr j 0 _ _ a1 rfl)
    rw [a3] at a2
    rw [Lib.cell_of_heap hb]
    simpa using a2) (Array.getElem?_eq_some_iff.1 hb).1 (by rw [List.length_map]; omega) (by rw [List.length_map, ← hlen]; exact hc) (by rw [e1, e2, join_eq]; omega)
  rw [e1, e2, join_eq, List.length_map] at this
  rw [hlen]
  exact this
theorem repl_eq : ∀ s : List UInt8, Lib.replaceK [39] [39, 39] (Lib.count s [39]) s = escL s
 | [] => by rw [Lib.count_one]; rfl
 | b :: l => by
  have ih := repl_eq l
  by_cases hb : b = 39
  ·subst hb
   rw [Lib.count_cons_eq, Nat.add_comm, Lib.replaceK_hit _ _ _ _ 0 (by simp [Lib.index, List.isPrefixOf])]
   simp [ih, escL, escC]
  ·rw [Lib.count_cons_ne _ _ _ hb]
   have e : escL (b :: l) = b :: escL l := by simp [escL, escC, hb]
   rw [e, ← ih]
   cases hn : Lib.count l [39] with
   | zero => rfl
   | succ k =>
    obtain ⟨i, hi⟩ := Lib.index_of_count (s := l) (old := [39]) (by omega)
    have hne : ¬ (39 : UInt8) = b := fun h => hb h.symm
    have hi2 : Lib.index (b :: l) [39] = ((i + 1 : Nat) : Int) := by
     simp only [Lib.index, List.isPrefixOf, hi]
     rw [if_neg (by simp [hne]), if_neg (by simp)]
     omega
    rw [Lib.replaceK_hit _ _ _ _ _ hi2, Lib.replaceK_hit _ _ _ _ _ hi]
    simp
theorem replaceAll_ok (s : List UInt8) (h : s.length ≤ 1000000) : SpG g 45 [.c (.d (.s (S s))), .c (.d (.s (S [39]))), .c (.d (.s (S [39, 39])))] [] (.c (.d (.s (S (escL s))))) [] := by
 refine spec_of (args := [.string (S s), .string (S [39]), .string (S [39, 39])]) rfl rfl rfl fun w hG => ?_
 obtain ⟨ty, fz, h0⟩ := hG 0 [.int .i64 g.maxLen] (by simp [Gl])
 have hc := Lib.countB_le (S [39]) (by decide) s.length (S s) (by rw [S_size]; omega)
 rw [S_size] at hc
 have := Tryz.strings_ReplaceAll (S s) (S [39]) (S [39, 39]) g.maxLen w (by rw [S_size]; omega) (by rw [Lib.cell_of_heap h0]; rfl) (by decide) (by
  have e : (S [39, 39]).size = 2 := rfl
  rw [S_size, e]; omega)
 have e1 : (S s).data.toList = s := by simp [S]
 have e2 : (S [39]).data.toList = [39] := by simp [S]
 have e3 : (S [39, 39]).data.toList = [39, 39] := by simp [S]
 rw [e1, e2, e3, Lib.replaceAll, Lib.replace, if_neg (by decide), Lib.replaceNum, if_pos (by omega), repl_eq] at this
 exact this
end Go.Proofs.YtmpgfchkkemngaaGreatDoor
namespace Go.Proofs.YtmpgfchkkemngaaGreatDoor
open Go.RowKit Go.V
open Go.Eng (inR byteAt u8 bytesV)
variable {g : Gv}
theorem S_data (l : List UInt8) : (S l).data.toList = l := by simp [S]
theorem bytesD_app (a b : List UInt8) : bytesD (a ++ b) = bytesD a ++ bytesD b := by simp [bytesD]
theorem join_es {es : List (List D)} {l : List (List UInt8)} (e : es = strs l) (sep : List UInt8) (h : sumL sep.length l ≤ 1000000000) (hl : l.length ≤ 1000000) : SpG g 49 [.c (.d (.sl 1 es)), .c (.d (.s (S sep)))] [] (.c (.d (.s (S (joinL sep l))))) [] := by
 subst e; exact join_ok l sep h hl
def zq13 := And.intro @List.length_append.{0} (And.intro @List.length_cons.{0} (And.intro @List.length_map.{0, 0} (And.intro @List.length_nil.{0} (And.intro @inR.eq_1 (And.intro @maxLen.eq_1 (And.intro @rowD.eq_1 (@strs.eq_1)))))))
theorem valJoinC_of (r : List Cl) (sep : List UInt8) (hl : r.length ≤ 1000) (hs : sumL sep.length (r.map cellT) ≤ 1000000000) (hT : ∀ c, c ∈ r → SpG g 15 [clArg c] [] (.c (.d (.s (S (cellT c))))) []) :
  SpG g 50 [.c (.d (.sl 7 (rowD r))), .c (.d (.s (S sep)))] [] (.c (.d (.s (S (joinL sep (r.map cellT)))))) [] := by
 refine enterB 26 Tryz.func50 (by kernel_rfl) fun fr hG => ?_
 refine stepLen 0 rfl fun hl0 => ?_
 refine zL hG [] [0, 1, 0, 1, 1] (fun (zz : Nat × List (List D)) => match zz with | (k, es) => (r.length - k, ⟨[(1, [], .c (.d (.s (S sep)))), (4, [], .c (.d (.s (S [])))), (5, [], .c (.ar 202 0)), (11, [], .c (.d (.sl 7 (rowD r)))), (12, [], .c (.d (.i ((rowD r).length : Int)))), (13, [], .c (.d (.i (k : Int))))], [(202, .arr 0 9 1 (es))]⟩, k ≤ r.length ∧ es = strs ((r.take k).map cellT))) (0, []) (by kernel_rfl) (conj1 (show (0 : Int) ≤ ((rowD r).length : Int) ∧ ((16 : Nat) : Int) * ((rowD r).length : Int) ≤ 281474976710656 ∧ ((rowD r).length : Int) ≤ 9223372036854775807 from (by intros; (try simp only [zq13] at *); omega))) (by kernel_rfl) ?_ ?_
 ·exact ⟨Nat.zero_le _, rfl⟩
 rintro ⟨k, es⟩ ⟨hk, hes⟩
 have hlen : es.length = k := by rw [hes, strs, List.length_map, List.length_map, List.length_take]; omega
 refine zc hG [] [0, 1] (decide (((k : Int) : Int) < ((rowD r).length : Int))) (by kernel_rfl) conj0 (fun hc2 => ?_) (fun hc2 => ?_)
 ·(try simp only [zq4] at hc2)
  refine zD hG [(4, 0, .elem (ClD ((r).getD k Cl.z))), (5, 2, .call (.c (.d (.s (S (cellT ((r).getD k Cl.z)))))) [] [])] (k + 1, es ++ [[D.s (S (cellT (r.getD k Cl.z)))]]) (by kernel_rfl) (conjC (show (0 : Int) ≤ (k : Int) ∧ (rowD r)[k]? = some (ClD ((r).getD k Cl.z)) from (by intros; exact map_at _ (by omega) (by (try simp only [zq7] at *); omega))) (conjC ((hT ((r).getD k Cl.z) (getD_mem (by omega)) : SpG g _ _ _ _ _)) (conjC (show ((es).length + (([[.s (S (cellT ((r).getD k Cl.z)))]] : List (List D))).length) * (16 + 1) ≤ 140737488355328 from (by intros; (try simp only [zq13] at *); omega)) (conj1 (show inR ((k : Int) + 1) from (by intros; (try simp only [zq13] at *); omega)))))) ?_ ?_
  ·(try dsimp only); omega
  ·refine ⟨by omega, ?_⟩
   rw [hes, textsStep Cl.z (by omega)]
 ·(try simp only [zq4] at hc2)
  refine zE hG [] (.exit 0) (⟨[(1, [], .c (.d (.s (S sep)))), (4, [], .c (.d (.s (S [])))), (5, [], .c (.ar 202 0))], [(202, .arr 0 9 1 (es))]⟩) (by kernel_rfl) conj0 rfl ?_
  exact zr hG [(7, 2, .call (.c (.d (.s (S (joinL sep (r.map cellT)))))) [] [])] [] (by kernel_rfl) (conj1 ((join_es (es := es) (l := r.map cellT) (by rw [hes, List.take_of_length_le (by omega)]) sep hs (by rw [List.length_map]; omega) : SpG g _ _ _ _ _)))
def zq14 := And.intro @List.length_append.{0} (And.intro @List.length_cons.{0} (And.intro @List.length_map.{0, 0} (And.intro @List.length_nil.{0} (And.intro @S_app (And.intro @S_size (And.intro @inR.eq_1 (And.intro @maxLen.eq_1 (And.intro @rowD.eq_1 (And.intro @rowsD.eq_1 (And.intro @strs.eq_1 (@valsD.eq_1)))))))))))
theorem valText_of (v : Vl) (hr : rightB v = true) (hf : v.fit) (hD : ∀ n s : Int, decB n s = true → SpG g 46 [.agg [.d (.i n), .d (.i s)]] [] (.c (.d (.s (S (decT n s))))) []) (hN : ∀ n : Int, 0 ≤ n → n ≤ 3652058 → SpG g 47 [.c (.d (.i n))] [] (.c (.d (.s (S (dateText n))))) []) (hX : ∀ r, r ∈ v.rows → SpG g 50 [.c (.d (.sl 7 (rowD r))), .c (.d (.s (S [44])))] [] (.c (.d (.s (S (joinL [44] (r.map cellT)))))) []) :
  SpG g 15 [.agg [.d (.i v.kind), .d (.s (S v.s)), .d (.i v.dn), .d (.i v.ds), .d (.i v.n), .d (.sl 1 (strs v.cols)), .d (.sl 1 (rowsD v.rows))]] [] (.c (.d (.s (S (textK v))))) [] := by
 obtain ⟨h0, h1, h2, h3, h4⟩ := rightB_n hr
 have hkd := rightB_kind hr
 have hfs := hf.s
 have a1 := dec2_len v.n
 have a2 := dateText_len v.n
 have a3 : v.kind = 2 → (decT v.dn v.ds).length ≤ 30 := fun k => decT_len (h2 k)
 have a4 : v.kind = 5 → (joinL [44] v.cols).length ≤ 168 := fun k => (cols_len (rightB_table hr k)).2
 have a5 := escL_len v.s
 refine enterB 61 Tryz.func15 (by kernel_rfl) fun fr hG => ?_
 refine zC hG [(1, 1, .call (.c (.d (.b (rightB v)))) [] [])] [1, 0, 1] (!(rightB v)) (⟨[(1, [], .c (.bx 100 0)), (2, [], .c (.d (.s (S []))))], [(100, .box 30 [.d (.i v.kind), .d (.s (S v.s)), .d (.i v.dn), .d (.i v.ds), .d (.i v.n), .d (.sl 1 (strs v.cols)), .d (.sl 1 (rowsD v.rows))])]⟩) (by kernel_rfl) (conj1 ((right_ok v hf : SpG g _ _ _ _ _))) (fun hc1 => ?_) (fun hc1 => ?_)
 ·(try simp only [zq4, hr] at hc1)
  exact absurd hc1 (by simp [hr])
 ·(try simp only [zq4, hr] at hc1)
  refine zC hG [] [1, 0, 1, 0, 1, 1] (decide ((v.kind : Int) = 0)) (⟨[(1, [], .c (.bx 100 0)), (2, [], .c (.d (.s (S [])))), (10, [], .c (.d (.i v.kind)))], [(100, .box 30 [.d (.i v.kind), .d (.s (S v.s)), .d (.i v.dn), .d (.i v.ds), .d (.i v.n), .d (.sl 1 (strs v.cols)), .d (.sl 1 (rowsD v.rows))])]⟩) (by kernel_rfl) conj0 (fun hc2 => ?_) (fun hc2 => ?_)
  ·(try simp only [zq4, hr] at hc2)
   refine zR hG [(5, 2, .call (.c (.d (.s (S (dec2 (v.n)))))) [] [])] [] (.c (.d (.s ((S [33]) ++ (S (dec2 (v.n))))))) [] (by kernel_rfl) (conjC ((itoaSmall_ok (v.n) (by omega) (by omega) : SpG g _ _ _ _ _)) (conj1 (show (S [33]).size + (S (dec2 (v.n))).size ≤ maxLen from (by intros; (try simp only [zq14] at *); omega)))) ?_ ?_
   ·rw [S_app]; simp [textK, baseT, hc2]
   ·rfl
  ·(try simp only [zq4, hr] at hc2)
   refine zc hG [] [1, 1, 1, 0, 1, 0, 1, 1] (decide ((v.kind : Int) = 1)) (by kernel_rfl) conj0 (fun hc3 => ?_) (fun hc3 => ?_)
   ·(try simp only [zq4, hr] at hc3)
    refine zR hG [(7, 2, .call (.c (.d (.s (S (escL (v.s)))))) [] [])] [] (.c (.d (.s (((S [39]) ++ (S (escL (v.s)))) ++ (S [39]))))) [] (by kernel_rfl) (conjC ((replaceAll_ok (v.s) (by omega) : SpG g _ _ _ _ _)) (conjC (show (S [39]).size + (S (escL (v.s))).size ≤ maxLen from (by intros; (try simp only [zq14] at *); omega)) (conj1 (show ((S [39]) ++ (S (escL (v.s)))).size + (S [39]).size ≤ maxLen from (by intros; (try simp only [zq14] at *); omega))))) ?_ ?_
    ·rw [S_app, S_app]; simp [textK, baseT, quoL, hc3]
    ·rfl
   ·(try simp only [zq4, hr] at hc3)
    refine zc hG [] [1, 1, 1, 1, 1, 0, 1, 0, 1, 1] (decide ((v.kind : Int) = 2)) (by kernel_rfl) conj0 (fun hc4 => ?_) (fun hc4 => ?_)
    ·(try simp only [zq4, hr] at hc4)
     refine zR hG [(9, 2, .call (.c (.d (.s (S (decT v.dn v.ds))))) [] [])] [] (.c (.d (.s ((S [35]) ++ (S (decT v.dn v.ds)))))) [] (by kernel_rfl) (conjC ((hD v.dn v.ds (h2 (by omega)) : SpG g _ _ _ _ _)) (conj1 (show (S [35]).size + (S (decT v.dn v.ds)).size ≤ maxLen from (by intros; (try simp only [zq14] at *); omega)))) ?_ ?_
     ·rw [S_app]; simp [textK, baseT, hc4]
     ·rfl
    ·(try simp only [zq4, hr] at hc4)
     refine zc hG [] [1, 1, 1, 1, 1, 1, 1, 0, 1, 0, 1, 1] (decide ((v.kind : Int) = 3)) (by kernel_rfl) conj0 (fun hc5 => ?_) (fun hc5 => ?_)
     ·(try simp only [zq4, hr] at hc5)
      refine zR hG [(11, 2, .call (.c (.d (.s (S (dateText (v.n)))))) [] [])] [] (.c (.d (.s ((S [64]) ++ (S (dateText (v.n))))))) [] (by kernel_rfl) (conjC ((hN (v.n) (by omega) (by omega) : SpG g _ _ _ _ _)) (conj1 (show (S [64]).size + (S (dateText (v.n))).size ≤ maxLen from (by intros; (try simp only [zq14] at *); omega)))) ?_ ?_
      ·rw [S_app]; simp [textK, baseT, hc5]
      ·rfl
     ·(try simp only [zq4, hr] at hc5)
      refine zC hG [] [1, 1, 1, 1, 1, 1, 1, 1, 1, 0, 1, 0, 1, 1] (decide ((v.kind : Int) = 4)) (⟨[(1, [], .c (.bx 100 0)), (2, [], .c (.d (.s (S []))))], [(100, .box 30 [.d (.i v.kind), .d (.s (S v.s)), .d (.i v.dn), .d (.i v.ds), .d (.i v.n), .d (.sl 1 (strs v.cols)), .d (.sl 1 (rowsD v.rows))])]⟩) (by kernel_rfl) conj0 (fun hc6 => ?_) (fun hc6 => ?_)
      ·(try simp only [zq4, hr] at hc6)
       refine zR hG [(13, 2, .call (.c (.d (.s (S (dec2 (v.n)))))) [] [])] [] (.c (.d (.s ((S [63]) ++ (S (dec2 (v.n))))))) [] (by kernel_rfl) (conjC ((itoaSmall_ok (v.n) (by omega) (by omega) : SpG g _ _ _ _ _)) (conj1 (show (S [63]).size + (S (dec2 (v.n))).size ≤ maxLen from (by intros; (try simp only [zq14] at *); omega)))) ?_ ?_
       ·rw [S_app]; simp [textK, baseT, hc6]
       ·rfl
      ·(try simp only [zq4, hr] at hc6)
       refine zL hG [(15, 2, .call (.c (.d (.s (S (joinL [44] v.cols))))) [] []), (15, 4, .callG (.tup [(false, [.d (.i (((S [91]) ++ (S (joinL [44] v.cols))).size : Int))]), (false, [.d (.v (.nilIface))])]) [1500] [(0, .box 80 [.bx 0 0, .ar 100 0]), (100, .arr 0 5 1 (bytesD ((S [91]) ++ (S (joinL [44] v.cols))).data.toList))])] [0, 1, 0, 1, 1, 1, 1, 1] (fun (zz : Nat × List (List D)) => match zz with | (k, es) => (v.rows.length - k, ⟨[(2, [], .c (.d (.s (S [])))), (3, [], .c (.bx 1500 0)), (48, [], .c (.d (.sl 1 (rowsD v.rows)))), (49, [], .c (.d (.i ((rowsD v.rows).length : Int)))), (50, [], .c (.d (.i (k : Int))))], [(1500, .box 80 [.bx 1500 0, .ar 1604 0]), (1604, .arr 0 5 1 (es))]⟩, k ≤ v.rows.length ∧ es = bytesD ([91] ++ joinL [44] v.cols ++ (v.rows.take k).flatMap rowT))) (0, bytesD (S [91] ++ S (joinL [44] v.cols)).data.toList) (by kernel_rfl) (conjC ((join_ok v.cols [44] (Nat.le_trans (cols_len (rightB_table hr (by omega))).1 (by decide)) (Nat.le_trans (rows_cells (rightB_table hr (by omega))).1 (by decide)) : SpG g _ _ _ _ _)) (conjC (show (S [91]).size + (S (joinL [44] v.cols)).size ≤ maxLen from (by intros; (try simp only [zq14] at *); omega)) (conj1 ((writeStringN ((S [91]) ++ (S (joinL [44] v.cols))) (by (try rw [hes]); (try simp only [zq14, bytesD_len, S_data] at *); omega) : SpG g _ _ _ _ _))))) (by kernel_rfl) ?_ ?_
       ·exact ⟨Nat.zero_le _, by rw [S_app, S_data]; simp⟩
       rintro ⟨k, es⟩ ⟨hk, hes⟩
       have hT := rightB_table hr (by omega)
       have b1 := (cols_len hT).2
       have b2 := flat_take hT k
       have b3 := (rows_cells hT).2.1
       have b4 : k < v.rows.length → (joinL [44] ((v.rows.getD k []).map cellT)).length ≤ 3300 := fun hk => by have := (rowT_len hT (getD_mem (z := []) hk)).2; simp only [rowT, List.length_cons] at this; omega
       have hlen : es.length = 1 + (joinL [44] v.cols).length + ((v.rows.take k).flatMap rowT).length := by rw [hes, bytesD_len]; simp only [zq12]
       refine zc hG [] [0, 1] (decide (((k : Int) : Int) < ((rowsD v.rows).length : Int))) (by kernel_rfl) conj0 (fun hc8 => ?_) (fun hc8 => ?_)
       ·(try simp only [zq4, hr] at hc8)
        refine zD hG [(18, 0, .elem (rows1 ((v.rows).getD k []))), (19, 1, .call (.c (.d (.s (S (joinL [44] (((v.rows).getD k []).map cellT)))))) [] []), (19, 3, .callG (.tup [(false, [.d (.i (((S [59]) ++ (S (joinL [44] (((v.rows).getD k []).map cellT)))).size : Int))]), (false, [.d (.v (.nilIface))])]) [1500, 1604] [(0, .box 80 [.bx 0 0, .ar 1 0]), (1, .arr 0 5 1 ((es) ++ bytesD ((S [59]) ++ (S (joinL [44] (((v.rows).getD k []).map cellT)))).data.toList))])] (k + 1, (es) ++ bytesD ((S [59]) ++ (S (joinL [44] (((v.rows).getD k []).map cellT)))).data.toList) (by kernel_rfl) (conjC (show (0 : Int) ≤ (k : Int) ∧ (rowsD v.rows)[k]? = some (rows1 ((v.rows).getD k [])) from (by intros; exact map_at _ (by omega) (by (try simp only [zq7] at *); omega))) (conjC ((hX ((v.rows).getD k []) (getD_mem (by omega)) : SpG g _ _ _ _ _)) (conjC (show (S [59]).size + (S (joinL [44] (((v.rows).getD k []).map cellT))).size ≤ maxLen from (by intros; (try simp only [zq14] at *); omega)) (conjC ((writeString1 (es) ((S [59]) ++ (S (joinL [44] (((v.rows).getD k []).map cellT)))) (by (try rw [hes]); (try simp only [zq14, bytesD_len, S_data] at *); omega) : SpG g _ _ _ _ _)) (conj1 (show inR ((k : Int) + 1) from (by intros; (try simp only [zq14] at *); omega))))))) ?_ ?_
        ·(try dsimp only); omega
        ·refine ⟨by omega, ?_⟩
         rw [hes, flat_step (by omega), S_app, S_data]
         simp only [← bytesD_app]
         congr 1
         simp
       ·(try simp only [zq4, hr] at hc8)
        refine zE hG [] (.exit 1) (⟨[(2, [], .c (.d (.s (S [])))), (3, [], .c (.bx 1500 0))], [(1500, .box 80 [.bx 1500 0, .ar 1604 0]), (1604, .arr 0 5 1 (es))]⟩) (by kernel_rfl) conj0 rfl ?_
        exact zr hG [(21, 0, .callG (.tup [(false, [.d (.i ((S [93]).size : Int))]), (false, [.d (.v (.nilIface))])]) [1500, 1604] [(0, .box 80 [.bx 0 0, .ar 1 0]), (1, .arr 0 5 1 ((es) ++ bytesD (S [93]).data.toList))]), (22, 0, .callG (.c (.d (.s (S (textK v))))) [1500, 1604] [(0, .box 80 [.bx 0 0, .any]), (1, .arr 0 5 1 (([] : List (List D))))])] [] (by kernel_rfl) (conjC ((writeString1 (es) (S [93]) (by (try rw [hes]); (try simp only [zq14, bytesD_len, S_data] at *); omega) : SpG g _ _ _ _ _)) (conj1 ((builderString ((es) ++ bytesD (S [93]).data.toList) (S (textK v)) (by rw [hes, S_data, S_data, ← bytesD_app]; congr 1; rw [textK, if_pos (by omega), List.take_of_length_le (by omega)]) : SpG g _ _ _ _ _))))
theorem valText_no (v : Vl) (hr : rightB v = false) (hf : v.fit) :
  SpG g 15 [.agg [.d (.i v.kind), .d (.s (S v.s)), .d (.i v.dn), .d (.i v.ds), .d (.i v.n), .d (.sl 1 (strs v.cols)), .d (.sl 1 (rowsD v.rows))]] [] (.c (.d (.s (S [])))) [] := by
 refine enterB 61 Tryz.func15 (by kernel_rfl) fun fr hG => ?_
 refine zC hG [(1, 1, .call (.c (.d (.b (rightB v)))) [] [])] [1, 0, 1] (!(rightB v)) (⟨[(1, [], .c (.bx 100 0)), (2, [], .c (.d (.s (S []))))], [(100, .box 30 [.d (.i v.kind), .d (.s (S v.s)), .d (.i v.dn), .d (.i v.ds), .d (.i v.n), .d (.sl 1 (strs v.cols)), .d (.sl 1 (rowsD v.rows))])]⟩) (by kernel_rfl) (conj1 ((right_ok v hf : SpG g _ _ _ _ _))) (fun hc1 => ?_) (fun hc1 => ?_)
 ·(try simp only [zq4, hr] at hc1)
  exact zr hG [] [] (by kernel_rfl) conj0
 ·(try simp only [zq4, hr] at hc1)
  exact absurd hc1 (by simp [hr])
theorem valTextC_ok (hD : ∀ n s : Int, decB n s = true → SpG g 46 [.agg [.d (.i n), .d (.i s)]] [] (.c (.d (.s (S (decT n s))))) []) (hN : ∀ n : Int, 0 ≤ n → n ≤ 3652058 → SpG g 47 [.c (.d (.i n))] [] (.c (.d (.s (S (dateText n))))) []) (c : Cl) (hs : c.s.length ≤ maxLen) (hk : ¬ c.kind = 5) (h : rightK false c.toV = true) : SpG g 15 [clArg c] [] (.c (.d (.s (S (cellT c))))) [] := by
 have := valText_of (g := g) c.toV (cl_rightB hk h) (Cl.fit hs) hD hN (fun r hr => by cases hr)
 have e : textK c.toV = cellT c := by
  have : c.toV.kind = c.kind := rfl
  simp only [textK, this, if_neg hk]; rfl
 rw [e] at this
 exact this
theorem valText_yes (hD : ∀ n s : Int, decB n s = true → SpG g 46 [.agg [.d (.i n), .d (.i s)]] [] (.c (.d (.s (S (decT n s))))) []) (hN : ∀ n : Int, 0 ≤ n → n ≤ 3652058 → SpG g 47 [.c (.d (.i n))] [] (.c (.d (.s (S (dateText n))))) []) (v : Vl) (hr : rightB v = true) (hf : v.fit) : SpG g 15 [vArg v] [] (.c (.d (.s (S (textK v))))) [] := by
 by_cases hk : v.kind = 5
 ·have hT := rightB_table hr hk
  obtain ⟨h1, h2, h3, h4⟩ := rows_cells hT
  exact valText_of v hr hf hD hN fun r hr2 => valJoinC_of r [44] (by have := (h4 r hr2).1; omega) (Nat.le_trans (rowT_len hT hr2).1 (by decide)) fun c hc => valTextC_ok hD hN c (hf.cells r hr2 c hc) ((h4 r hr2).2 c hc).1 ((h4 r hr2).2 c hc).2
 ·have hrow : v.rows = [] := rightB_rows hr hk
  exact valText_of v hr hf hD hN fun r hr2 => by rw [hrow] at hr2; cases hr2
theorem valText_ok (hD : ∀ n s : Int, decB n s = true → SpG g 46 [.agg [.d (.i n), .d (.i s)]] [] (.c (.d (.s (S (decT n s))))) []) (hN : ∀ n : Int, 0 ≤ n → n ≤ 3652058 → SpG g 47 [.c (.d (.i n))] [] (.c (.d (.s (S (dateText n))))) []) (v : Vl) (hf : v.fit) : SpG g 15 [vArg v] [] (.c (.d (.s (S (textB v))))) [] := by
 cases hr : rightB v with
 | true => have := valText_yes hD hN v hr hf; rw [textB, hr]; exact this
 | false => have := valText_no (g := g) v hr hf; rw [textB, hr]; exact this
def zq15 := And.intro @List.length_append.{0} (And.intro @List.length_cons.{0} (And.intro @List.length_map.{0, 0} (And.intro @List.length_nil.{0} (And.intro @inR.eq_1 (And.intro @maxLen.eq_1 (And.intro @strs.eq_1 (@valsD.eq_1)))))))
theorem valJoin_of (r : List Vl) (sep : List UInt8) (hl : r.length ≤ 1000) (hs : sumL sep.length (r.map textB) ≤ 1000000000) (hf : ∀ v, v ∈ r → v.fit) (hD : ∀ n s : Int, decB n s = true → SpG g 46 [.agg [.d (.i n), .d (.i s)]] [] (.c (.d (.s (S (decT n s))))) []) (hN : ∀ n : Int, 0 ≤ n → n ≤ 3652058 → SpG g 47 [.c (.d (.i n))] [] (.c (.d (.s (S (dateText n))))) []) :
  SpG g 50 [.c (.d (.sl 7 (valsD r))), .c (.d (.s (S sep)))] [] (.c (.d (.s (S (joinL sep (r.map textB)))))) [] := by
 refine enterB 26 Tryz.func50 (by kernel_rfl) fun fr hG => ?_
 refine stepLen 0 rfl fun hl0 => ?_
 refine zL hG [] [0, 1, 0, 1, 1] (fun (zz : Nat × List (List D)) => match zz with | (k, es) => (r.length - k, ⟨[(1, [], .c (.d (.s (S sep)))), (4, [], .c (.d (.s (S [])))), (5, [], .c (.ar 202 0)), (11, [], .c (.d (.sl 7 (valsD r)))), (12, [], .c (.d (.i ((valsD r).length : Int)))), (13, [], .c (.d (.i (k : Int))))], [(202, .arr 0 9 1 (es))]⟩, k ≤ r.length ∧ es = strs ((r.take k).map textB))) (0, []) (by kernel_rfl) (conj1 (show (0 : Int) ≤ ((valsD r).length : Int) ∧ ((16 : Nat) : Int) * ((valsD r).length : Int) ≤ 281474976710656 ∧ ((valsD r).length : Int) ≤ 9223372036854775807 from (by intros; (try simp only [zq15] at *); omega))) (by kernel_rfl) ?_ ?_
 ·exact ⟨Nat.zero_le _, rfl⟩
 rintro ⟨k, es⟩ ⟨hk, hes⟩
 have hlen : es.length = k := by rw [hes, strs, List.length_map, List.length_map, List.length_take]; omega
 refine zc hG [] [0, 1] (decide (((k : Int) : Int) < ((valsD r).length : Int))) (by kernel_rfl) conj0 (fun hc2 => ?_) (fun hc2 => ?_)
 ·(try simp only [zq4] at hc2)
  refine zD hG [(4, 0, .elem (VlD ((r).getD k Vl.z))), (5, 2, .call (.c (.d (.s (S (textB ((r).getD k Vl.z)))))) [] [])] (k + 1, es ++ [[D.s (S (textB (r.getD k Vl.z)))]]) (by kernel_rfl) (conjC (show (0 : Int) ≤ (k : Int) ∧ (valsD r)[k]? = some (VlD ((r).getD k Vl.z)) from (by intros; exact map_at _ (by omega) (by (try simp only [zq7] at *); omega))) (conjC ((valText_ok hD hN ((r).getD k Vl.z) (hf _ (getD_mem (by omega))) : SpG g _ _ _ _ _)) (conjC (show ((es).length + (([[.s (S (textB ((r).getD k Vl.z)))]] : List (List D))).length) * (16 + 1) ≤ 140737488355328 from (by intros; (try simp only [zq15] at *); omega)) (conj1 (show inR ((k : Int) + 1) from (by intros; (try simp only [zq15] at *); omega)))))) ?_ ?_
  ·(try dsimp only); omega
  ·refine ⟨by omega, ?_⟩
   rw [hes, textsStep Vl.z (by omega)]
 ·(try simp only [zq4] at hc2)
  refine zE hG [] (.exit 0) (⟨[(1, [], .c (.d (.s (S sep)))), (4, [], .c (.d (.s (S [])))), (5, [], .c (.ar 202 0))], [(202, .arr 0 9 1 (es))]⟩) (by kernel_rfl) conj0 rfl ?_
  exact zr hG [(7, 2, .call (.c (.d (.s (S (joinL sep (r.map textB)))))) [] [])] [] (by kernel_rfl) (conj1 ((join_es (es := es) (l := r.map textB) (by rw [hes, List.take_of_length_le (by omega)]) sep hs (by rw [List.length_map]; omega) : SpG g _ _ _ _ _)))
end Go.Proofs.YtmpgfchkkemngaaGreatDoor
namespace Go.Proofs.YtmpgfchkkemngaaGreatDoor
open Go.RowKit Go.V
open Go.Eng (inR byteAt u8 bytesV)
variable {g : Gv}
theorem of_same {f : FuncId} {ins : List SV} {out : SV} {args : List Value} {v : Value} (hi : exAll ins = some args) (ho : exT out = some v) (hk : okS out = true) (h : ∀ w : World, Calls Tryz.prog f args.toArray w fun e w' => e = .returned v ∧ w' = w) : SpG g f ins [] out [] :=
 spec_of hi ho hk fun w _ => (h w).mono fun _ _ ⟨a, b⟩ => ⟨a, by rw [b]; exact Below.refl _ _⟩
theorem hasPrefix_lit (s p : List UInt8) (r : Bool) (h : Lib.hasPrefix s p = r) : SpG g 198 [.c (.d (.s (S s))), .c (.d (.s (S p)))] [] (.c (.d (.b r))) [] := by
 refine of_same (args := [.string (S s), .string (S p)]) rfl rfl rfl fun w => ?_
 have := Tryz.strings_HasPrefix (S s) (S p) w
 rw [S_data, S_data, h] at this
 exact this
def layF : Nat → List UInt8
 | 0 => [89, 89, 89, 89, 45, 77, 77, 45, 68, 68]
 | 1 => [45, 77, 77, 45, 68, 68]
 | 2 => [77, 77, 45, 68, 68]
 | 3 => [45, 68, 68]
 | 4 => [68, 68]
 | _ => []
def rY (k : Nat) : Int := if k = 0 then 0 else 1
def rM (k : Nat) : Int := if k ≤ 2 then 0 else 1
def rD (k : Nat) : Int := if k ≤ 4 then 0 else 1
theorem first0  :
  SpG g 173 [.c (.d (.s (S [89, 89, 89, 89, 45, 77, 77, 45, 68, 68])))] [] (.agg [.d (.s (S [89, 89, 89, 89])), .d (.b true)]) [] := by
 refine enterB 18 Tryz.func173 (by kernel_rfl) fun fr hG => ?_
 refine zL hG [] [0, 1, 0, 1] (fun (zz : Nat) => match zz with | i => (6 - i, ⟨[(0, [], .c (.d (.s (S [89, 89, 89, 89, 45, 77, 77, 45, 68, 68])))), (2, [], .c (.bx 100 0)), (5, [], .agg [.d (.s (S [89, 89, 89, 89])), .d (.s (S [77, 77])), .d (.s (S [77])), .d (.s (S [68, 68])), .d (.s (S [68]))]), (6, [], .c (.d (.i (i : Int))))], [(100, .box 159 [.d (.s (S [])), .d (.b false)])]⟩, i ≤ 0)) 0 (by kernel_rfl) conj0 (by kernel_rfl) ?_ ?_
 ·exact Nat.zero_le _
 rintro i hI
 rcases (by omega : i = 0) with rfl
 ·skip
  refine zc hG [] [0, 1] (true) (by kernel_rfl) conj0 (fun _ => ?_) (fun hc2 => absurd hc2 (by decide))
  refine zC hG [(4, 2, .call (.c (.d (.b true))) [] [])] [1, 1, 0, 0, 1, 1] (true) (⟨[(0, [], .c (.d (.s (S [89, 89, 89, 89, 45, 77, 77, 45, 68, 68])))), (2, [], .c (.bx 100 0)), (4, [], .c (.d (.s (S [89, 89, 89, 89])))), (5, [], .agg [.d (.s (S [89, 89, 89, 89])), .d (.s (S [77, 77])), .d (.s (S [77])), .d (.s (S [68, 68])), .d (.s (S [68]))]), (6, [], .c (.d (.i 0)))], [(100, .box 159 [.d (.s (S [])), .d (.b false)])]⟩) (by kernel_rfl) (conj1 ((hasPrefix_lit [89, 89, 89, 89, 45, 77, 77, 45, 68, 68] [89, 89, 89, 89] true (by decide) : SpG g _ _ _ _ _))) (fun _ => ?_) (fun hc3 => absurd hc3 (by decide))
  refine zE hG [] .ret (⟨[(0, [], .c (.d (.s (S [89, 89, 89, 89, 45, 77, 77, 45, 68, 68])))), (2, [], .c (.bx 100 0))], [(100, .box 159 [.d (.s (S [89, 89, 89, 89])), .d (.b true)])]⟩) (by kernel_rfl) conj0 rfl ?_
  exact zr hG [] [] (by kernel_rfl) conj0
theorem first1  :
  SpG g 173 [.c (.d (.s (S [45, 77, 77, 45, 68, 68])))] [] (.agg [.d (.s (S [45])), .d (.b false)]) [] := by
 refine enterB 18 Tryz.func173 (by kernel_rfl) fun fr hG => ?_
 refine zL hG [] [0, 1, 0, 1] (fun (zz : Nat) => match zz with | i => (6 - i, ⟨[(0, [], .c (.d (.s (S [45, 77, 77, 45, 68, 68])))), (2, [], .c (.bx 100 0)), (5, [], .agg [.d (.s (S [89, 89, 89, 89])), .d (.s (S [77, 77])), .d (.s (S [77])), .d (.s (S [68, 68])), .d (.s (S [68]))]), (6, [], .c (.d (.i (i : Int))))], [(100, .box 159 [.d (.s (S [])), .d (.b false)])]⟩, i ≤ 5)) 0 (by kernel_rfl) conj0 (by kernel_rfl) ?_ ?_
 ·exact Nat.zero_le _
 rintro i hI
 rcases (by omega : i = 0 ∨ i = 1 ∨ i = 2 ∨ i = 3 ∨ i = 4 ∨ i = 5) with rfl | rfl | rfl | rfl | rfl | rfl
 ·skip
  refine zc hG [] [0, 1] (true) (by kernel_rfl) conj0 (fun _ => ?_) (fun hc2 => absurd hc2 (by decide))
  refine zC hG [(4, 2, .call (.c (.d (.b false))) [] [])] [1, 1, 0, 0, 1, 1] (false) (⟨[(0, [], .c (.d (.s (S [45, 77, 77, 45, 68, 68])))), (2, [], .c (.bx 100 0)), (4, [], .c (.d (.s (S [89, 89, 89, 89])))), (5, [], .agg [.d (.s (S [89, 89, 89, 89])), .d (.s (S [77, 77])), .d (.s (S [77])), .d (.s (S [68, 68])), .d (.s (S [68]))]), (6, [], .c (.d (.i 0)))], [(100, .box 159 [.d (.s (S [])), .d (.b false)])]⟩) (by kernel_rfl) (conj1 ((hasPrefix_lit [45, 77, 77, 45, 68, 68] [89, 89, 89, 89] false (by decide) : SpG g _ _ _ _ _))) (fun hc3 => absurd hc3 (by decide)) (fun _ => ?_)
  refine zD hG [] 1 (by kernel_rfl) (conj1 (show inR (0 + 1) from (by unfold inR; decide))) ?_ ?_
  ·(try dsimp only); decide
  ·(try dsimp only); decide
 ·skip
  refine zc hG [] [0, 1] (true) (by kernel_rfl) conj0 (fun _ => ?_) (fun hc4 => absurd hc4 (by decide))
  refine zC hG [(4, 2, .call (.c (.d (.b false))) [] [])] [1, 1, 0, 0, 1, 1] (false) (⟨[(0, [], .c (.d (.s (S [45, 77, 77, 45, 68, 68])))), (2, [], .c (.bx 100 0)), (4, [], .c (.d (.s (S [77, 77])))), (5, [], .agg [.d (.s (S [89, 89, 89, 89])), .d (.s (S [77, 77])), .d (.s (S [77])), .d (.s (S [68, 68])), .d (.s (S [68]))]), (6, [], .c (.d (.i 1)))], [(100, .box 159 [.d (.s (S [])), .d (.b false)])]⟩) (by kernel_rfl) (conj1 ((hasPrefix_lit [45, 77, 77, 45, 68, 68] [77, 77] false (by decide) : SpG g _ _ _ _ _))) (fun hc5 => absurd hc5 (by decide)) (fun _ => ?_)
  refine zD hG [] 2 (by kernel_rfl) (conj1 (show inR (1 + 1) from (by unfold inR; decide))) ?_ ?_
  ·(try dsimp only); decide
  ·(try dsimp only); decide
 ·skip
  refine zc hG [] [0, 1] (true) (by kernel_rfl) conj0 (fun _ => ?_) (fun hc6 => absurd hc6 (by decide))
  refine zC hG [(4, 2, .call (.c (.d (.b false))) [] [])] [1, 1, 0, 0, 1, 1] (false) (⟨[(0, [], .c (.d (.s (S [45, 77, 77, 45, 68, 68])))), (2, [], .c (.bx 100 0)), (4, [], .c (.d (.s (S [77])))), (5, [], .agg [.d (.s (S [89, 89, 89, 89])), .d (.s (S [77, 77])), .d (.s (S [77])), .d (.s (S [68, 68])), .d (.s (S [68]))]), (6, [], .c (.d (.i 2)))], [(100, .box 159 [.d (.s (S [])), .d (.b false)])]⟩) (by kernel_rfl) (conj1 ((hasPrefix_lit [45, 77, 77, 45, 68, 68] [77] false (by decide) : SpG g _ _ _ _ _))) (fun hc7 => absurd hc7 (by decide)) (fun _ => ?_)
  refine zD hG [] 3 (by kernel_rfl) (conj1 (show inR (2 + 1) from (by unfold inR; decide))) ?_ ?_
  ·(try dsimp only); decide
  ·(try dsimp only); decide
 ·skip
  refine zc hG [] [0, 1] (true) (by kernel_rfl) conj0 (fun _ => ?_) (fun hc8 => absurd hc8 (by decide))
  refine zC hG [(4, 2, .call (.c (.d (.b false))) [] [])] [1, 1, 0, 0, 1, 1] (false) (⟨[(0, [], .c (.d (.s (S [45, 77, 77, 45, 68, 68])))), (2, [], .c (.bx 100 0)), (4, [], .c (.d (.s (S [68, 68])))), (5, [], .agg [.d (.s (S [89, 89, 89, 89])), .d (.s (S [77, 77])), .d (.s (S [77])), .d (.s (S [68, 68])), .d (.s (S [68]))]), (6, [], .c (.d (.i 3)))], [(100, .box 159 [.d (.s (S [])), .d (.b false)])]⟩) (by kernel_rfl) (conj1 ((hasPrefix_lit [45, 77, 77, 45, 68, 68] [68, 68] false (by decide) : SpG g _ _ _ _ _))) (fun hc9 => absurd hc9 (by decide)) (fun _ => ?_)
  refine zD hG [] 4 (by kernel_rfl) (conj1 (show inR (3 + 1) from (by unfold inR; decide))) ?_ ?_
  ·(try dsimp only); decide
  ·(try dsimp only); decide
 ·skip
  refine zc hG [] [0, 1] (true) (by kernel_rfl) conj0 (fun _ => ?_) (fun hc10 => absurd hc10 (by decide))
  refine zC hG [(4, 2, .call (.c (.d (.b false))) [] [])] [1, 1, 0, 0, 1, 1] (false) (⟨[(0, [], .c (.d (.s (S [45, 77, 77, 45, 68, 68])))), (2, [], .c (.bx 100 0)), (4, [], .c (.d (.s (S [68])))), (5, [], .agg [.d (.s (S [89, 89, 89, 89])), .d (.s (S [77, 77])), .d (.s (S [77])), .d (.s (S [68, 68])), .d (.s (S [68]))]), (6, [], .c (.d (.i 4)))], [(100, .box 159 [.d (.s (S [])), .d (.b false)])]⟩) (by kernel_rfl) (conj1 ((hasPrefix_lit [45, 77, 77, 45, 68, 68] [68] false (by decide) : SpG g _ _ _ _ _))) (fun hc11 => absurd hc11 (by decide)) (fun _ => ?_)
  refine zD hG [] 5 (by kernel_rfl) (conj1 (show inR (4 + 1) from (by unfold inR; decide))) ?_ ?_
  ·(try dsimp only); decide
  ·(try dsimp only); decide
 ·skip
  refine zc hG [] [0, 1] (false) (by kernel_rfl) conj0 (fun hc12 => absurd hc12 (by decide)) (fun _ => ?_)
  refine zE hG [] (.exit 0) (⟨[(0, [], .c (.d (.s (S [45, 77, 77, 45, 68, 68])))), (2, [], .c (.bx 100 0))], [(100, .box 159 [.d (.s (S [])), .d (.b false)])]⟩) (by kernel_rfl) conj0 rfl ?_
  exact zr hG [] [] (by kernel_rfl) (conj1 (show (0 : Int) ≤ 0 ∧ (0 : Int) ≤ 1 ∧ 1 ≤ ((S [45, 77, 77, 45, 68, 68]).size : Int) from (by decide)))
theorem first2  :
  SpG g 173 [.c (.d (.s (S [77, 77, 45, 68, 68])))] [] (.agg [.d (.s (S [77, 77])), .d (.b true)]) [] := by
 refine enterB 18 Tryz.func173 (by kernel_rfl) fun fr hG => ?_
 refine zL hG [] [0, 1, 0, 1] (fun (zz : Nat) => match zz with | i => (6 - i, ⟨[(0, [], .c (.d (.s (S [77, 77, 45, 68, 68])))), (2, [], .c (.bx 100 0)), (5, [], .agg [.d (.s (S [89, 89, 89, 89])), .d (.s (S [77, 77])), .d (.s (S [77])), .d (.s (S [68, 68])), .d (.s (S [68]))]), (6, [], .c (.d (.i (i : Int))))], [(100, .box 159 [.d (.s (S [])), .d (.b false)])]⟩, i ≤ 1)) 0 (by kernel_rfl) conj0 (by kernel_rfl) ?_ ?_
 ·exact Nat.zero_le _
 rintro i hI
 rcases (by omega : i = 0 ∨ i = 1) with rfl | rfl
 ·skip
  refine zc hG [] [0, 1] (true) (by kernel_rfl) conj0 (fun _ => ?_) (fun hc2 => absurd hc2 (by decide))
  refine zC hG [(4, 2, .call (.c (.d (.b false))) [] [])] [1, 1, 0, 0, 1, 1] (false) (⟨[(0, [], .c (.d (.s (S [77, 77, 45, 68, 68])))), (2, [], .c (.bx 100 0)), (4, [], .c (.d (.s (S [89, 89, 89, 89])))), (5, [], .agg [.d (.s (S [89, 89, 89, 89])), .d (.s (S [77, 77])), .d (.s (S [77])), .d (.s (S [68, 68])), .d (.s (S [68]))]), (6, [], .c (.d (.i 0)))], [(100, .box 159 [.d (.s (S [])), .d (.b false)])]⟩) (by kernel_rfl) (conj1 ((hasPrefix_lit [77, 77, 45, 68, 68] [89, 89, 89, 89] false (by decide) : SpG g _ _ _ _ _))) (fun hc3 => absurd hc3 (by decide)) (fun _ => ?_)
  refine zD hG [] 1 (by kernel_rfl) (conj1 (show inR (0 + 1) from (by unfold inR; decide))) ?_ ?_
  ·(try dsimp only); decide
  ·(try dsimp only); decide
 ·skip
  refine zc hG [] [0, 1] (true) (by kernel_rfl) conj0 (fun _ => ?_) (fun hc4 => absurd hc4 (by decide))
  refine zC hG [(4, 2, .call (.c (.d (.b true))) [] [])] [1, 1, 0, 0, 1, 1] (true) (⟨[(0, [], .c (.d (.s (S [77, 77, 45, 68, 68])))), (2, [], .c (.bx 100 0)), (4, [], .c (.d (.s (S [77, 77])))), (5, [], .agg [.d (.s (S [89, 89, 89, 89])), .d (.s (S [77, 77])), .d (.s (S [77])), .d (.s (S [68, 68])), .d (.s (S [68]))]), (6, [], .c (.d (.i 1)))], [(100, .box 159 [.d (.s (S [])), .d (.b false)])]⟩) (by kernel_rfl) (conj1 ((hasPrefix_lit [77, 77, 45, 68, 68] [77, 77] true (by decide) : SpG g _ _ _ _ _))) (fun _ => ?_) (fun hc5 => absurd hc5 (by decide))
  refine zE hG [] .ret (⟨[(0, [], .c (.d (.s (S [77, 77, 45, 68, 68])))), (2, [], .c (.bx 100 0))], [(100, .box 159 [.d (.s (S [77, 77])), .d (.b true)])]⟩) (by kernel_rfl) conj0 rfl ?_
  exact zr hG [] [] (by kernel_rfl) conj0
theorem first3  :
  SpG g 173 [.c (.d (.s (S [45, 68, 68])))] [] (.agg [.d (.s (S [45])), .d (.b false)]) [] := by
 refine enterB 18 Tryz.func173 (by kernel_rfl) fun fr hG => ?_
 refine zL hG [] [0, 1, 0, 1] (fun (zz : Nat) => match zz with | i => (6 - i, ⟨[(0, [], .c (.d (.s (S [45, 68, 68])))), (2, [], .c (.bx 100 0)), (5, [], .agg [.d (.s (S [89, 89, 89, 89])), .d (.s (S [77, 77])), .d (.s (S [77])), .d (.s (S [68, 68])), .d (.s (S [68]))]), (6, [], .c (.d (.i (i : Int))))], [(100, .box 159 [.d (.s (S [])), .d (.b false)])]⟩, i ≤ 5)) 0 (by kernel_rfl) conj0 (by kernel_rfl) ?_ ?_
 ·exact Nat.zero_le _
 rintro i hI
 rcases (by omega : i = 0 ∨ i = 1 ∨ i = 2 ∨ i = 3 ∨ i = 4 ∨ i = 5) with rfl | rfl | rfl | rfl | rfl | rfl
 ·skip
  refine zc hG [] [0, 1] (true) (by kernel_rfl) conj0 (fun _ => ?_) (fun hc2 => absurd hc2 (by decide))
  refine zC hG [(4, 2, .call (.c (.d (.b false))) [] [])] [1, 1, 0, 0, 1, 1] (false) (⟨[(0, [], .c (.d (.s (S [45, 68, 68])))), (2, [], .c (.bx 100 0)), (4, [], .c (.d (.s (S [89, 89, 89, 89])))), (5, [], .agg [.d (.s (S [89, 89, 89, 89])), .d (.s (S [77, 77])), .d (.s (S [77])), .d (.s (S [68, 68])), .d (.s (S [68]))]), (6, [], .c (.d (.i 0)))], [(100, .box 159 [.d (.s (S [])), .d (.b false)])]⟩) (by kernel_rfl) (conj1 ((hasPrefix_lit [45, 68, 68] [89, 89, 89, 89] false (by decide) : SpG g _ _ _ _ _))) (fun hc3 => absurd hc3 (by decide)) (fun _ => ?_)
  refine zD hG [] 1 (by kernel_rfl) (conj1 (show inR (0 + 1) from (by unfold inR; decide))) ?_ ?_
  ·(try dsimp only); decide
  ·(try dsimp only); decide
 ·skip
  refine zc hG [] [0, 1] (true) (by kernel_rfl) conj0 (fun _ => ?_) (fun hc4 => absurd hc4 (by decide))
  refine zC hG [(4, 2, .call (.c (.d (.b false))) [] [])] [1, 1, 0, 0, 1, 1] (false) (⟨[(0, [], .c (.d (.s (S [45, 68, 68])))), (2, [], .c (.bx 100 0)), (4, [], .c (.d (.s (S [77, 77])))), (5, [], .agg [.d (.s (S [89, 89, 89, 89])), .d (.s (S [77, 77])), .d (.s (S [77])), .d (.s (S [68, 68])), .d (.s (S [68]))]), (6, [], .c (.d (.i 1)))], [(100, .box 159 [.d (.s (S [])), .d (.b false)])]⟩) (by kernel_rfl) (conj1 ((hasPrefix_lit [45, 68, 68] [77, 77] false (by decide) : SpG g _ _ _ _ _))) (fun hc5 => absurd hc5 (by decide)) (fun _ => ?_)
  refine zD hG [] 2 (by kernel_rfl) (conj1 (show inR (1 + 1) from (by unfold inR; decide))) ?_ ?_
  ·(try dsimp only); decide
  ·(try dsimp only); decide
 ·skip
  refine zc hG [] [0, 1] (true) (by kernel_rfl) conj0 (fun _ => ?_) (fun hc6 => absurd hc6 (by decide))
  refine zC hG [(4, 2, .call (.c (.d (.b false))) [] [])] [1, 1, 0, 0, 1, 1] (false) (⟨[(0, [], .c (.d (.s (S [45, 68, 68])))), (2, [], .c (.bx 100 0)), (4, [], .c (.d (.s (S [77])))), (5, [], .agg [.d (.s (S [89, 89, 89, 89])), .d (.s (S [77, 77])), .d (.s (S [77])), .d (.s (S [68, 68])), .d (.s (S [68]))]), (6, [], .c (.d (.i 2)))], [(100, .box 159 [.d (.s (S [])), .d (.b false)])]⟩) (by kernel_rfl) (conj1 ((hasPrefix_lit [45, 68, 68] [77] false (by decide) : SpG g _ _ _ _ _))) (fun hc7 => absurd hc7 (by decide)) (fun _ => ?_)
  refine zD hG [] 3 (by kernel_rfl) (conj1 (show inR (2 + 1) from (by unfold inR; decide))) ?_ ?_
  ·(try dsimp only); decide
  ·(try dsimp only); decide
 ·skip
  refine zc hG [] [0, 1] (true) (by kernel_rfl) conj0 (fun _ => ?_) (fun hc8 => absurd hc8 (by decide))
  refine zC hG [(4, 2, .call (.c (.d (.b false))) [] [])] [1, 1, 0, 0, 1, 1] (false) (⟨[(0, [], .c (.d (.s (S [45, 68, 68])))), (2, [], .c (.bx 100 0)), (4, [], .c (.d (.s (S [68, 68])))), (5, [], .agg [.d (.s (S [89, 89, 89, 89])), .d (.s (S [77, 77])), .d (.s (S [77])), .d (.s (S [68, 68])), .d (.s (S [68]))]), (6, [], .c (.d (.i 3)))], [(100, .box 159 [.d (.s (S [])), .d (.b false)])]⟩) (by kernel_rfl) (conj1 ((hasPrefix_lit [45, 68, 68] [68, 68] false (by decide) : SpG g _ _ _ _ _))) (fun hc9 => absurd hc9 (by decide)) (fun _ => ?_)
  refine zD hG [] 4 (by kernel_rfl) (conj1 (show inR (3 + 1) from (by unfold inR; decide))) ?_ ?_
  ·(try dsimp only); decide
  ·(try dsimp only); decide
 ·skip
  refine zc hG [] [0, 1] (true) (by kernel_rfl) conj0 (fun _ => ?_) (fun hc10 => absurd hc10 (by decide))
  refine zC hG [(4, 2, .call (.c (.d (.b false))) [] [])] [1, 1, 0, 0, 1, 1] (false) (⟨[(0, [], .c (.d (.s (S [45, 68, 68])))), (2, [], .c (.bx 100 0)), (4, [], .c (.d (.s (S [68])))), (5, [], .agg [.d (.s (S [89, 89, 89, 89])), .d (.s (S [77, 77])), .d (.s (S [77])), .d (.s (S [68, 68])), .d (.s (S [68]))]), (6, [], .c (.d (.i 4)))], [(100, .box 159 [.d (.s (S [])), .d (.b false)])]⟩) (by kernel_rfl) (conj1 ((hasPrefix_lit [45, 68, 68] [68] false (by decide) : SpG g _ _ _ _ _))) (fun hc11 => absurd hc11 (by decide)) (fun _ => ?_)
  refine zD hG [] 5 (by kernel_rfl) (conj1 (show inR (4 + 1) from (by unfold inR; decide))) ?_ ?_
  ·(try dsimp only); decide
  ·(try dsimp only); decide
 ·skip
  refine zc hG [] [0, 1] (false) (by kernel_rfl) conj0 (fun hc12 => absurd hc12 (by decide)) (fun _ => ?_)
  refine zE hG [] (.exit 0) (⟨[(0, [], .c (.d (.s (S [45, 68, 68])))), (2, [], .c (.bx 100 0))], [(100, .box 159 [.d (.s (S [])), .d (.b false)])]⟩) (by kernel_rfl) conj0 rfl ?_
  exact zr hG [] [] (by kernel_rfl) (conj1 (show (0 : Int) ≤ 0 ∧ (0 : Int) ≤ 1 ∧ 1 ≤ ((S [45, 68, 68]).size : Int) from (by decide)))
theorem first4  :
  SpG g 173 [.c (.d (.s (S [68, 68])))] [] (.agg [.d (.s (S [68, 68])), .d (.b true)]) [] := by
 refine enterB 18 Tryz.func173 (by kernel_rfl) fun fr hG => ?_
 refine zL hG [] [0, 1, 0, 1] (fun (zz : Nat) => match zz with | i => (6 - i, ⟨[(0, [], .c (.d (.s (S [68, 68])))), (2, [], .c (.bx 100 0)), (5, [], .agg [.d (.s (S [89, 89, 89, 89])), .d (.s (S [77, 77])), .d (.s (S [77])), .d (.s (S [68, 68])), .d (.s (S [68]))]), (6, [], .c (.d (.i (i : Int))))], [(100, .box 159 [.d (.s (S [])), .d (.b false)])]⟩, i ≤ 3)) 0 (by kernel_rfl) conj0 (by kernel_rfl) ?_ ?_
 ·exact Nat.zero_le _
 rintro i hI
 rcases (by omega : i = 0 ∨ i = 1 ∨ i = 2 ∨ i = 3) with rfl | rfl | rfl | rfl
 ·skip
  refine zc hG [] [0, 1] (true) (by kernel_rfl) conj0 (fun _ => ?_) (fun hc2 => absurd hc2 (by decide))
  refine zC hG [(4, 2, .call (.c (.d (.b false))) [] [])] [1, 1, 0, 0, 1, 1] (false) (⟨[(0, [], .c (.d (.s (S [68, 68])))), (2, [], .c (.bx 100 0)), (4, [], .c (.d (.s (S [89, 89, 89, 89])))), (5, [], .agg [.d (.s (S [89, 89, 89, 89])), .d (.s (S [77, 77])), .d (.s (S [77])), .d (.s (S [68, 68])), .d (.s (S [68]))]), (6, [], .c (.d (.i 0)))], [(100, .box 159 [.d (.s (S [])), .d (.b false)])]⟩) (by kernel_rfl) (conj1 ((hasPrefix_lit [68, 68] [89, 89, 89, 89] false (by decide) : SpG g _ _ _ _ _))) (fun hc3 => absurd hc3 (by decide)) (fun _ => ?_)
  refine zD hG [] 1 (by kernel_rfl) (conj1 (show inR (0 + 1) from (by unfold inR; decide))) ?_ ?_
  ·(try dsimp only); decide
  ·(try dsimp only); decide
 ·skip
  refine zc hG [] [0, 1] (true) (by kernel_rfl) conj0 (fun _ => ?_) (fun hc4 => absurd hc4 (by decide))
  refine zC hG [(4, 2, .call (.c (.d (.b false))) [] [])] [1, 1, 0, 0, 1, 1] (false) (⟨[(0, [], .c (.d (.s (S [68, 68])))), (2, [], .c (.bx 100 0)), (4, [], .c (.d (.s (S [77, 77])))), (5, [], .agg [.d (.s (S [89, 89, 89, 89])), .d (.s (S [77, 77])), .d (.s (S [77])), .d (.s (S [68, 68])), .d (.s (S [68]))]), (6, [], .c (.d (.i 1)))], [(100, .box 159 [.d (.s (S [])), .d (.b false)])]⟩) (by kernel_rfl) (conj1 ((hasPrefix_lit [68, 68] [77, 77] false (by decide) : SpG g _ _ _ _ _))) (fun hc5 => absurd hc5 (by decide)) (fun _ => ?_)
  refine zD hG [] 2 (by kernel_rfl) (conj1 (show inR (1 + 1) from (by unfold inR; decide))) ?_ ?_
  ·(try dsimp only); decide
  ·(try dsimp only); decide
 ·skip
  refine zc hG [] [0, 1] (true) (by kernel_rfl) conj0 (fun _ => ?_) (fun hc6 => absurd hc6 (by decide))
  refine zC hG [(4, 2, .call (.c (.d (.b false))) [] [])] [1, 1, 0, 0, 1, 1] (false) (⟨[(0, [], .c (.d (.s (S [68, 68])))), (2, [], .c (.bx 100 0)), (4, [], .c (.d (.s (S [77])))), (5, [], .agg [.d (.s (S [89, 89, 89, 89])), .d (.s (S [77, 77])), .d (.s (S [77])), .d (.s (S [68, 68])), .d (.s (S [68]))]), (6, [], .c (.d (.i 2)))], [(100, .box 159 [.d (.s (S [])), .d (.b false)])]⟩) (by kernel_rfl) (conj1 ((hasPrefix_lit [68, 68] [77] false (by decide) : SpG g _ _ _ _ _))) (fun hc7 => absurd hc7 (by decide)) (fun _ => ?_)
  refine zD hG [] 3 (by kernel_rfl) (conj1 (show inR (2 + 1) from (by unfold inR; decide))) ?_ ?_
  ·(try dsimp only); decide
  ·(try dsimp only); decide
 ·skip
  refine zc hG [] [0, 1] (true) (by kernel_rfl) conj0 (fun _ => ?_) (fun hc8 => absurd hc8 (by decide))
  refine zC hG [(4, 2, .call (.c (.d (.b true))) [] [])] [1, 1, 0, 0, 1, 1] (true) (⟨[(0, [], .c (.d (.s (S [68, 68])))), (2, [], .c (.bx 100 0)), (4, [], .c (.d (.s (S [68, 68])))), (5, [], .agg [.d (.s (S [89, 89, 89, 89])), .d (.s (S [77, 77])), .d (.s (S [77])), .d (.s (S [68, 68])), .d (.s (S [68]))]), (6, [], .c (.d (.i 3)))], [(100, .box 159 [.d (.s (S [])), .d (.b false)])]⟩) (by kernel_rfl) (conj1 ((hasPrefix_lit [68, 68] [68, 68] true (by decide) : SpG g _ _ _ _ _))) (fun _ => ?_) (fun hc9 => absurd hc9 (by decide))
  refine zE hG [] .ret (⟨[(0, [], .c (.d (.s (S [68, 68])))), (2, [], .c (.bx 100 0))], [(100, .box 159 [.d (.s (S [68, 68])), .d (.b true)])]⟩) (by kernel_rfl) conj0 rfl ?_
  exact zr hG [] [] (by kernel_rfl) conj0
theorem plain45  :
  SpG g 170 [.c (.d (.y 45))] [] (.c (.d (.b true))) [] := by
 refine enterB 27 Tryz.func170 (by kernel_rfl) fun fr hG => ?_
 refine zC hG [] [1, 0, 1] (false) (⟨[(0, [], .c (.d (.y 45))), (2, [], .c (.d (.b false)))], []⟩) (by kernel_rfl) conj0 (fun hc1 => absurd hc1 (by decide)) (fun _ => ?_)
 exact zr hG [] [] (by kernel_rfl) conj0
theorem tokens_ok (s : ByteArray) :
  SpG g 125 [.c (.d (.s s))] [] (.c (.fn 172 [] [(100, 0)])) [(100, .box 9 [.d (.s s)])] := by
 refine enterB 4 Tryz.func125 (by kernel_rfl) fun fr hG => ?_
 exact zr hG [] [100] (by kernel_rfl) conj0
theorem rightY0 (b3 b4 b5 b6 D l : Nat) (fn : FuncId) (tm : Array Value) (h3 : tm.getD 3 undef = .pointer (some ⟨b3, 0, none⟩)) (h4 : tm.getD 4 undef = .pointer (some ⟨b4, 0, none⟩)) (h5 : tm.getD 5 undef = .pointer (some ⟨b5, 0, none⟩)) (h6 : tm.getD 6 undef = .pointer (some ⟨b6, 0, none⟩)) (hn : tm.size = 69) :
  YSpec Tryz.prog (Gl g) l [.agg [.d (.s (S [89, 89, 89, 89])), .d (.b true)]] [(0, .box ⟨.raw (.loop (recOf (bodyOf Tryz.f123) [0, 1, 0, 1, 1, 1, 1] fn tm D)), some l⟩ []), (1, .box ⟨.c 3, some b3⟩ [.d (.i 0)]), (2, .box ⟨.c 3, some b4⟩ [.d (.i 0)]), (3, .box ⟨.c 3, some b5⟩ [.d (.i 0)]), (4, .box ⟨.c 4, some b6⟩ [.d (.b false)])] (.c (.d (.b true))) [(0, .box ⟨.raw (.loop (recOf (bodyOf Tryz.f123) [0, 1, 0, 1, 1, 1, 1] fn tm D)), some l⟩ []), (1, .box ⟨.c 3, some b3⟩ [.d (.i 1)]), (2, .box ⟨.c 3, some b4⟩ [.d (.i 0)]), (3, .box ⟨.c 3, some b5⟩ [.d (.i 0)]), (4, .box ⟨.c 4, some b6⟩ [.d (.b false)])] := by
 refine enterY (iL := 0) (p := 13) (env0 := [(3, [], .c (.bx 1 0)), (4, [], .c (.bx 2 0)), (5, [], .c (.bx 3 0)), (6, [], .c (.bx 4 0))]) (n := 69) (r := (recOf (bodyOf Tryz.f123) [0, 1, 0, 1, 1, 1, 1] fn tm D)) rfl (by kernel_rfl) hn (by decide) ⟨rfl, ⟨_, _, _, rfl, rfl, h3⟩, ⟨rfl, ⟨_, _, _, rfl, rfl, h4⟩, ⟨rfl, ⟨_, _, _, rfl, rfl, h5⟩, ⟨rfl, ⟨_, _, _, rfl, rfl, h6⟩, trivial⟩⟩⟩⟩ rfl fun fr hG => ?_
 refine stepB hG hmix [] (⟨[(3, [], .c (.bx 1 0)), (4, [], .c (.bx 2 0)), (5, [], .c (.bx 3 0)), (6, [], .c (.bx 4 0)), (7, [], .c (.bx 700 0))], [(0, .box ⟨.raw (.loop (recOf (bodyOf Tryz.f123) [0, 1, 0, 1, 1, 1, 1] fn tm D)), some l⟩ []), (1, .box ⟨.c 3, some b3⟩ [.d (.i 0)]), (2, .box ⟨.c 3, some b4⟩ [.d (.i 0)]), (3, .box ⟨.c 3, some b5⟩ [.d (.i 0)]), (4, .box ⟨.c 4, some b6⟩ [.d (.b false)]), (700, .box 159 [.d (.s (S [89, 89, 89, 89])), .d (.b true)])]⟩) 0 (r := (recOf (bodyOf Tryz.f123) [0, 1, 0, 1, 1, 1, 1] fn tm D)) (by kernel_rfl) conj0 rfl rfl ?_
 refine stepK hG (⟨[(3, [], .c (.bx 1 0)), (4, [], .c (.bx 2 0)), (5, [], .c (.bx 3 0)), (6, [], .c (.bx 4 0)), (7, [], .c (.bx 700 0))], [(0, .box ⟨.raw (.loop { (recOf (bodyOf Tryz.f123) [0, 1, 0, 1, 1, 1, 1] fn tm D) with state := .busy }), some l⟩ []), (1, .box ⟨.c 3, some b3⟩ [.d (.i 0)]), (2, .box ⟨.c 3, some b4⟩ [.d (.i 0)]), (3, .box ⟨.c 3, some b5⟩ [.d (.i 0)]), (4, .box ⟨.c 4, some b6⟩ [.d (.b false)]), (700, .box 159 [.d (.s (S [89, 89, 89, 89])), .d (.b true)])]⟩) (by kernel_rfl) ?_
 refine zc hG [(7, 13, .call (.c (.d (.b true))) [] [])] [1, 0, 0] (false) (by kernel_rfl) (conjC (show false = true → false = false → (0 : Int) ≤ 0 ∧ 0 < ((S [89, 89, 89, 89]).size : Int) from fun hg1 hg2 => absurd hg1 (by decide)) (conj1 (show false = true → false = false → SpG g 170 [.c (.d (.y 89))] [] (.c (.d (.b true))) [] from fun hg1 hg2 => absurd hg1 (by decide)))) (fun hc1 => absurd hc1 (by decide)) (fun _ => ?_)
 refine zC hG [] [1, 0, 1, 1, 0] (false) (⟨[(3, [], .c (.bx 1 0)), (4, [], .c (.bx 2 0)), (5, [], .c (.bx 3 0)), (7, [], .c (.bx 700 0))], [(0, .box ⟨.raw (.loop { (recOf (bodyOf Tryz.f123) [0, 1, 0, 1, 1, 1, 1] fn tm D) with state := .busy }), some l⟩ []), (1, .box ⟨.c 3, some b3⟩ [.d (.i 0)]), (2, .box ⟨.c 3, some b4⟩ [.d (.i 0)]), (3, .box ⟨.c 3, some b5⟩ [.d (.i 0)]), (4, .box ⟨.c 4, some b6⟩ [.d (.b false)]), (700, .box 159 [.d (.s (S [89, 89, 89, 89])), .d (.b true)])]⟩) (by kernel_rfl) conj0 (fun hc2 => absurd hc2 (by decide)) (fun _ => ?_)
 refine zc hG [] [1, 1, 1, 0, 1, 1, 0] (true) (by kernel_rfl) (conj1 (show (0 : Int) ≤ 0 ∧ 0 < ((S [89, 89, 89, 89]).size : Int) from (by decide))) (fun _ => ?_) (fun hc3 => absurd hc3 (by decide))
 refine stepY hG hmix [] [] 0 .normal [(0, .box ⟨.raw (endL { (recOf (bodyOf Tryz.f123) [0, 1, 0, 1, 1, 1, 1] fn tm D) with state := .busy } .normal), some l⟩ []), (1, .box ⟨.c 3, some b3⟩ [.d (.i 1)]), (2, .box ⟨.c 3, some b4⟩ [.d (.i 0)]), (3, .box ⟨.c 3, some b5⟩ [.d (.i 0)]), (4, .box ⟨.c 4, some b6⟩ [.d (.b false)])] (by kernel_rfl) (conj1 (show inR (0 + 1) from (by unfold inR; decide))) ?_ ?_
 ·rfl
 ·rfl
theorem rightY1 (b3 b4 b5 b6 D l : Nat) (fn : FuncId) (tm : Array Value) (h3 : tm.getD 3 undef = .pointer (some ⟨b3, 0, none⟩)) (h4 : tm.getD 4 undef = .pointer (some ⟨b4, 0, none⟩)) (h5 : tm.getD 5 undef = .pointer (some ⟨b5, 0, none⟩)) (h6 : tm.getD 6 undef = .pointer (some ⟨b6, 0, none⟩)) (hn : tm.size = 69) :
  YSpec Tryz.prog (Gl g) l [.agg [.d (.s (S [45])), .d (.b false)]] [(0, .box ⟨.raw (.loop (recOf (bodyOf Tryz.f123) [0, 1, 0, 1, 1, 1, 1] fn tm D)), some l⟩ []), (1, .box ⟨.c 3, some b3⟩ [.d (.i 1)]), (2, .box ⟨.c 3, some b4⟩ [.d (.i 0)]), (3, .box ⟨.c 3, some b5⟩ [.d (.i 0)]), (4, .box ⟨.c 4, some b6⟩ [.d (.b false)])] (.c (.d (.b true))) [(0, .box ⟨.raw (.loop (recOf (bodyOf Tryz.f123) [0, 1, 0, 1, 1, 1, 1] fn tm D)), some l⟩ []), (1, .box ⟨.c 3, some b3⟩ [.d (.i 1)]), (2, .box ⟨.c 3, some b4⟩ [.d (.i 0)]), (3, .box ⟨.c 3, some b5⟩ [.d (.i 0)]), (4, .box ⟨.c 4, some b6⟩ [.d (.b false)])] := by
 refine enterY (iL := 0) (p := 13) (env0 := [(3, [], .c (.bx 1 0)), (4, [], .c (.bx 2 0)), (5, [], .c (.bx 3 0)), (6, [], .c (.bx 4 0))]) (n := 69) (r := (recOf (bodyOf Tryz.f123) [0, 1, 0, 1, 1, 1, 1] fn tm D)) rfl (by kernel_rfl) hn (by decide) ⟨rfl, ⟨_, _, _, rfl, rfl, h3⟩, ⟨rfl, ⟨_, _, _, rfl, rfl, h4⟩, ⟨rfl, ⟨_, _, _, rfl, rfl, h5⟩, ⟨rfl, ⟨_, _, _, rfl, rfl, h6⟩, trivial⟩⟩⟩⟩ rfl fun fr hG => ?_
 refine stepB hG hmix [] (⟨[(3, [], .c (.bx 1 0)), (4, [], .c (.bx 2 0)), (5, [], .c (.bx 3 0)), (6, [], .c (.bx 4 0)), (7, [], .c (.bx 700 0))], [(0, .box ⟨.raw (.loop (recOf (bodyOf Tryz.f123) [0, 1, 0, 1, 1, 1, 1] fn tm D)), some l⟩ []), (1, .box ⟨.c 3, some b3⟩ [.d (.i 1)]), (2, .box ⟨.c 3, some b4⟩ [.d (.i 0)]), (3, .box ⟨.c 3, some b5⟩ [.d (.i 0)]), (4, .box ⟨.c 4, some b6⟩ [.d (.b false)]), (700, .box 159 [.d (.s (S [45])), .d (.b false)])]⟩) 0 (r := (recOf (bodyOf Tryz.f123) [0, 1, 0, 1, 1, 1, 1] fn tm D)) (by kernel_rfl) conj0 rfl rfl ?_
 refine stepK hG (⟨[(3, [], .c (.bx 1 0)), (4, [], .c (.bx 2 0)), (5, [], .c (.bx 3 0)), (6, [], .c (.bx 4 0)), (7, [], .c (.bx 700 0))], [(0, .box ⟨.raw (.loop { (recOf (bodyOf Tryz.f123) [0, 1, 0, 1, 1, 1, 1] fn tm D) with state := .busy }), some l⟩ []), (1, .box ⟨.c 3, some b3⟩ [.d (.i 1)]), (2, .box ⟨.c 3, some b4⟩ [.d (.i 0)]), (3, .box ⟨.c 3, some b5⟩ [.d (.i 0)]), (4, .box ⟨.c 4, some b6⟩ [.d (.b false)]), (700, .box 159 [.d (.s (S [45])), .d (.b false)])]⟩) (by kernel_rfl) ?_
 refine zc hG [(7, 13, .call (.c (.d (.b true))) [] [])] [1, 0, 0] (false) (by kernel_rfl) (conjC (show true = true → false = false → (0 : Int) ≤ 0 ∧ 0 < ((S [45]).size : Int) from (by decide)) (conj1 (fun (hg1 : true = true) => (fun (hg2 : false = false) => ((plain45 : SpG g _ _ _ _ _)))))) (fun hc1 => absurd hc1 (by decide)) (fun _ => ?_)
 refine zC hG [] [1, 0, 1, 1, 0] (true) (⟨[(3, [], .c (.bx 1 0)), (4, [], .c (.bx 2 0)), (5, [], .c (.bx 3 0)), (7, [], .c (.bx 700 0))], [(0, .box ⟨.raw (.loop { (recOf (bodyOf Tryz.f123) [0, 1, 0, 1, 1, 1, 1] fn tm D) with state := .busy }), some l⟩ []), (1, .box ⟨.c 3, some b3⟩ [.d (.i 1)]), (2, .box ⟨.c 3, some b4⟩ [.d (.i 0)]), (3, .box ⟨.c 3, some b5⟩ [.d (.i 0)]), (4, .box ⟨.c 4, some b6⟩ [.d (.b false)]), (700, .box 159 [.d (.s (S [45])), .d (.b false)])]⟩) (by kernel_rfl) conj0 (fun _ => ?_) (fun hc2 => absurd hc2 (by decide))
 refine stepY hG hmix [] [] 0 .normal [(0, .box ⟨.raw (endL { (recOf (bodyOf Tryz.f123) [0, 1, 0, 1, 1, 1, 1] fn tm D) with state := .busy } .normal), some l⟩ []), (1, .box ⟨.c 3, some b3⟩ [.d (.i 1)]), (2, .box ⟨.c 3, some b4⟩ [.d (.i 0)]), (3, .box ⟨.c 3, some b5⟩ [.d (.i 0)]), (4, .box ⟨.c 4, some b6⟩ [.d (.b false)])] (by kernel_rfl) conj0 ?_ ?_
 ·rfl
 ·rfl
theorem rightY2 (b3 b4 b5 b6 D l : Nat) (fn : FuncId) (tm : Array Value) (h3 : tm.getD 3 undef = .pointer (some ⟨b3, 0, none⟩)) (h4 : tm.getD 4 undef = .pointer (some ⟨b4, 0, none⟩)) (h5 : tm.getD 5 undef = .pointer (some ⟨b5, 0, none⟩)) (h6 : tm.getD 6 undef = .pointer (some ⟨b6, 0, none⟩)) (hn : tm.size = 69) :
  YSpec Tryz.prog (Gl g) l [.agg [.d (.s (S [77, 77])), .d (.b true)]] [(0, .box ⟨.raw (.loop (recOf (bodyOf Tryz.f123) [0, 1, 0, 1, 1, 1, 1] fn tm D)), some l⟩ []), (1, .box ⟨.c 3, some b3⟩ [.d (.i 1)]), (2, .box ⟨.c 3, some b4⟩ [.d (.i 0)]), (3, .box ⟨.c 3, some b5⟩ [.d (.i 0)]), (4, .box ⟨.c 4, some b6⟩ [.d (.b false)])] (.c (.d (.b true))) [(0, .box ⟨.raw (.loop (recOf (bodyOf Tryz.f123) [0, 1, 0, 1, 1, 1, 1] fn tm D)), some l⟩ []), (1, .box ⟨.c 3, some b3⟩ [.d (.i 1)]), (2, .box ⟨.c 3, some b4⟩ [.d (.i 1)]), (3, .box ⟨.c 3, some b5⟩ [.d (.i 0)]), (4, .box ⟨.c 4, some b6⟩ [.d (.b false)])] := by
 refine enterY (iL := 0) (p := 13) (env0 := [(3, [], .c (.bx 1 0)), (4, [], .c (.bx 2 0)), (5, [], .c (.bx 3 0)), (6, [], .c (.bx 4 0))]) (n := 69) (r := (recOf (bodyOf Tryz.f123) [0, 1, 0, 1, 1, 1, 1] fn tm D)) rfl (by kernel_rfl) hn (by decide) ⟨rfl, ⟨_, _, _, rfl, rfl, h3⟩, ⟨rfl, ⟨_, _, _, rfl, rfl, h4⟩, ⟨rfl, ⟨_, _, _, rfl, rfl, h5⟩, ⟨rfl, ⟨_, _, _, rfl, rfl, h6⟩, trivial⟩⟩⟩⟩ rfl fun fr hG => ?_
 refine stepB hG hmix [] (⟨[(3, [], .c (.bx 1 0)), (4, [], .c (.bx 2 0)), (5, [], .c (.bx 3 0)), (6, [], .c (.bx 4 0)), (7, [], .c (.bx 700 0))], [(0, .box ⟨.raw (.loop (recOf (bodyOf Tryz.f123) [0, 1, 0, 1, 1, 1, 1] fn tm D)), some l⟩ []), (1, .box ⟨.c 3, some b3⟩ [.d (.i 1)]), (2, .box ⟨.c 3, some b4⟩ [.d (.i 0)]), (3, .box ⟨.c 3, some b5⟩ [.d (.i 0)]), (4, .box ⟨.c 4, some b6⟩ [.d (.b false)]), (700, .box 159 [.d (.s (S [77, 77])), .d (.b true)])]⟩) 0 (r := (recOf (bodyOf Tryz.f123) [0, 1, 0, 1, 1, 1, 1] fn tm D)) (by kernel_rfl) conj0 rfl rfl ?_
 refine stepK hG (⟨[(3, [], .c (.bx 1 0)), (4, [], .c (.bx 2 0)), (5, [], .c (.bx 3 0)), (6, [], .c (.bx 4 0)), (7, [], .c (.bx 700 0))], [(0, .box ⟨.raw (.loop { (recOf (bodyOf Tryz.f123) [0, 1, 0, 1, 1, 1, 1] fn tm D) with state := .busy }), some l⟩ []), (1, .box ⟨.c 3, some b3⟩ [.d (.i 1)]), (2, .box ⟨.c 3, some b4⟩ [.d (.i 0)]), (3, .box ⟨.c 3, some b5⟩ [.d (.i 0)]), (4, .box ⟨.c 4, some b6⟩ [.d (.b false)]), (700, .box 159 [.d (.s (S [77, 77])), .d (.b true)])]⟩) (by kernel_rfl) ?_
 refine zc hG [(7, 13, .call (.c (.d (.b true))) [] [])] [1, 0, 0] (false) (by kernel_rfl) (conjC (show false = true → false = false → (0 : Int) ≤ 0 ∧ 0 < ((S [77, 77]).size : Int) from fun hg1 hg2 => absurd hg1 (by decide)) (conj1 (show false = true → false = false → SpG g 170 [.c (.d (.y 77))] [] (.c (.d (.b true))) [] from fun hg1 hg2 => absurd hg1 (by decide)))) (fun hc1 => absurd hc1 (by decide)) (fun _ => ?_)
 refine zC hG [] [1, 0, 1, 1, 0] (false) (⟨[(3, [], .c (.bx 1 0)), (4, [], .c (.bx 2 0)), (5, [], .c (.bx 3 0)), (7, [], .c (.bx 700 0))], [(0, .box ⟨.raw (.loop { (recOf (bodyOf Tryz.f123) [0, 1, 0, 1, 1, 1, 1] fn tm D) with state := .busy }), some l⟩ []), (1, .box ⟨.c 3, some b3⟩ [.d (.i 1)]), (2, .box ⟨.c 3, some b4⟩ [.d (.i 0)]), (3, .box ⟨.c 3, some b5⟩ [.d (.i 0)]), (4, .box ⟨.c 4, some b6⟩ [.d (.b false)]), (700, .box 159 [.d (.s (S [77, 77])), .d (.b true)])]⟩) (by kernel_rfl) conj0 (fun hc2 => absurd hc2 (by decide)) (fun _ => ?_)
 refine zc hG [] [1, 1, 1, 0, 1, 1, 0] (false) (by kernel_rfl) (conj1 (show (0 : Int) ≤ 0 ∧ 0 < ((S [77, 77]).size : Int) from (by decide))) (fun hc3 => absurd hc3 (by decide)) (fun _ => ?_)
 refine zC hG [] [1, 1, 1, 1, 1, 0, 1, 1, 0] (true) (⟨[(4, [], .c (.bx 2 0)), (5, [], .c (.bx 3 0))], [(0, .box ⟨.raw (.loop { (recOf (bodyOf Tryz.f123) [0, 1, 0, 1, 1, 1, 1] fn tm D) with state := .busy }), some l⟩ []), (1, .box ⟨.c 3, some b3⟩ [.d (.i 1)]), (2, .box ⟨.c 3, some b4⟩ [.d (.i 0)]), (3, .box ⟨.c 3, some b5⟩ [.d (.i 0)]), (4, .box ⟨.c 4, some b6⟩ [.d (.b false)])]⟩) (by kernel_rfl) (conj1 (show (0 : Int) ≤ 0 ∧ 0 < ((S [77, 77]).size : Int) from (by decide))) (fun _ => ?_) (fun hc4 => absurd hc4 (by decide))
 refine stepY hG hmix [] [] 0 .normal [(0, .box ⟨.raw (endL { (recOf (bodyOf Tryz.f123) [0, 1, 0, 1, 1, 1, 1] fn tm D) with state := .busy } .normal), some l⟩ []), (2, .box ⟨.c 3, some b4⟩ [.d (.i 1)]), (1, .box ⟨.c 3, some b3⟩ [.d (.i 1)]), (3, .box ⟨.c 3, some b5⟩ [.d (.i 0)]), (4, .box ⟨.c 4, some b6⟩ [.d (.b false)])] (by kernel_rfl) (conj1 (show inR (0 + 1) from (by unfold inR; decide))) ?_ ?_
 ·rfl
 ·funext i; simp only [lookO_cons, upd]; (repeat' split) <;> first | rfl | (exfalso; omega)
theorem rightY3 (b3 b4 b5 b6 D l : Nat) (fn : FuncId) (tm : Array Value) (h3 : tm.getD 3 undef = .pointer (some ⟨b3, 0, none⟩)) (h4 : tm.getD 4 undef = .pointer (some ⟨b4, 0, none⟩)) (h5 : tm.getD 5 undef = .pointer (some ⟨b5, 0, none⟩)) (h6 : tm.getD 6 undef = .pointer (some ⟨b6, 0, none⟩)) (hn : tm.size = 69) :
  YSpec Tryz.prog (Gl g) l [.agg [.d (.s (S [45])), .d (.b false)]] [(0, .box ⟨.raw (.loop (recOf (bodyOf Tryz.f123) [0, 1, 0, 1, 1, 1, 1] fn tm D)), some l⟩ []), (1, .box ⟨.c 3, some b3⟩ [.d (.i 1)]), (2, .box ⟨.c 3, some b4⟩ [.d (.i 1)]), (3, .box ⟨.c 3, some b5⟩ [.d (.i 0)]), (4, .box ⟨.c 4, some b6⟩ [.d (.b false)])] (.c (.d (.b true))) [(0, .box ⟨.raw (.loop (recOf (bodyOf Tryz.f123) [0, 1, 0, 1, 1, 1, 1] fn tm D)), some l⟩ []), (1, .box ⟨.c 3, some b3⟩ [.d (.i 1)]), (2, .box ⟨.c 3, some b4⟩ [.d (.i 1)]), (3, .box ⟨.c 3, some b5⟩ [.d (.i 0)]), (4, .box ⟨.c 4, some b6⟩ [.d (.b false)])] := by
 refine enterY (iL := 0) (p := 13) (env0 := [(3, [], .c (.bx 1 0)), (4, [], .c (.bx 2 0)), (5, [], .c (.bx 3 0)), (6, [], .c (.bx 4 0))]) (n := 69) (r := (recOf (bodyOf Tryz.f123) [0, 1, 0, 1, 1, 1, 1] fn tm D)) rfl (by kernel_rfl) hn (by decide) ⟨rfl, ⟨_, _, _, rfl, rfl, h3⟩, ⟨rfl, ⟨_, _, _, rfl, rfl, h4⟩, ⟨rfl, ⟨_, _, _, rfl, rfl, h5⟩, ⟨rfl, ⟨_, _, _, rfl, rfl, h6⟩, trivial⟩⟩⟩⟩ rfl fun fr hG => ?_
 refine stepB hG hmix [] (⟨[(3, [], .c (.bx 1 0)), (4, [], .c (.bx 2 0)), (5, [], .c (.bx 3 0)), (6, [], .c (.bx 4 0)), (7, [], .c (.bx 700 0))], [(0, .box ⟨.raw (.loop (recOf (bodyOf Tryz.f123) [0, 1, 0, 1, 1, 1, 1] fn tm D)), some l⟩ []), (1, .box ⟨.c 3, some b3⟩ [.d (.i 1)]), (2, .box ⟨.c 3, some b4⟩ [.d (.i 1)]), (3, .box ⟨.c 3, some b5⟩ [.d (.i 0)]), (4, .box ⟨.c 4, some b6⟩ [.d (.b false)]), (700, .box 159 [.d (.s (S [45])), .d (.b false)])]⟩) 0 (r := (recOf (bodyOf Tryz.f123) [0, 1, 0, 1, 1, 1, 1] fn tm D)) (by kernel_rfl) conj0 rfl rfl ?_
 refine stepK hG (⟨[(3, [], .c (.bx 1 0)), (4, [], .c (.bx 2 0)), (5, [], .c (.bx 3 0)), (6, [], .c (.bx 4 0)), (7, [], .c (.bx 700 0))], [(0, .box ⟨.raw (.loop { (recOf (bodyOf Tryz.f123) [0, 1, 0, 1, 1, 1, 1] fn tm D) with state := .busy }), some l⟩ []), (1, .box ⟨.c 3, some b3⟩ [.d (.i 1)]), (2, .box ⟨.c 3, some b4⟩ [.d (.i 1)]), (3, .box ⟨.c 3, some b5⟩ [.d (.i 0)]), (4, .box ⟨.c 4, some b6⟩ [.d (.b false)]), (700, .box 159 [.d (.s (S [45])), .d (.b false)])]⟩) (by kernel_rfl) ?_
 refine zc hG [(7, 13, .call (.c (.d (.b true))) [] [])] [1, 0, 0] (false) (by kernel_rfl) (conjC (show true = true → false = false → (0 : Int) ≤ 0 ∧ 0 < ((S [45]).size : Int) from (by decide)) (conj1 (fun (hg1 : true = true) => (fun (hg2 : false = false) => ((plain45 : SpG g _ _ _ _ _)))))) (fun hc1 => absurd hc1 (by decide)) (fun _ => ?_)
 refine zC hG [] [1, 0, 1, 1, 0] (true) (⟨[(3, [], .c (.bx 1 0)), (4, [], .c (.bx 2 0)), (5, [], .c (.bx 3 0)), (7, [], .c (.bx 700 0))], [(0, .box ⟨.raw (.loop { (recOf (bodyOf Tryz.f123) [0, 1, 0, 1, 1, 1, 1] fn tm D) with state := .busy }), some l⟩ []), (1, .box ⟨.c 3, some b3⟩ [.d (.i 1)]), (2, .box ⟨.c 3, some b4⟩ [.d (.i 1)]), (3, .box ⟨.c 3, some b5⟩ [.d (.i 0)]), (4, .box ⟨.c 4, some b6⟩ [.d (.b false)]), (700, .box 159 [.d (.s (S [45])), .d (.b false)])]⟩) (by kernel_rfl) conj0 (fun _ => ?_) (fun hc2 => absurd hc2 (by decide))
 refine stepY hG hmix [] [] 0 .normal [(0, .box ⟨.raw (endL { (recOf (bodyOf Tryz.f123) [0, 1, 0, 1, 1, 1, 1] fn tm D) with state := .busy } .normal), some l⟩ []), (1, .box ⟨.c 3, some b3⟩ [.d (.i 1)]), (2, .box ⟨.c 3, some b4⟩ [.d (.i 1)]), (3, .box ⟨.c 3, some b5⟩ [.d (.i 0)]), (4, .box ⟨.c 4, some b6⟩ [.d (.b false)])] (by kernel_rfl) conj0 ?_ ?_
 ·rfl
 ·rfl
theorem rightY4 (b3 b4 b5 b6 D l : Nat) (fn : FuncId) (tm : Array Value) (h3 : tm.getD 3 undef = .pointer (some ⟨b3, 0, none⟩)) (h4 : tm.getD 4 undef = .pointer (some ⟨b4, 0, none⟩)) (h5 : tm.getD 5 undef = .pointer (some ⟨b5, 0, none⟩)) (h6 : tm.getD 6 undef = .pointer (some ⟨b6, 0, none⟩)) (hn : tm.size = 69) :
  YSpec Tryz.prog (Gl g) l [.agg [.d (.s (S [68, 68])), .d (.b true)]] [(0, .box ⟨.raw (.loop (recOf (bodyOf Tryz.f123) [0, 1, 0, 1, 1, 1, 1] fn tm D)), some l⟩ []), (1, .box ⟨.c 3, some b3⟩ [.d (.i 1)]), (2, .box ⟨.c 3, some b4⟩ [.d (.i 1)]), (3, .box ⟨.c 3, some b5⟩ [.d (.i 0)]), (4, .box ⟨.c 4, some b6⟩ [.d (.b false)])] (.c (.d (.b true))) [(0, .box ⟨.raw (.loop (recOf (bodyOf Tryz.f123) [0, 1, 0, 1, 1, 1, 1] fn tm D)), some l⟩ []), (1, .box ⟨.c 3, some b3⟩ [.d (.i 1)]), (2, .box ⟨.c 3, some b4⟩ [.d (.i 1)]), (3, .box ⟨.c 3, some b5⟩ [.d (.i 1)]), (4, .box ⟨.c 4, some b6⟩ [.d (.b false)])] := by
 refine enterY (iL := 0) (p := 13) (env0 := [(3, [], .c (.bx 1 0)), (4, [], .c (.bx 2 0)), (5, [], .c (.bx 3 0)), (6, [], .c (.bx 4 0))]) (n := 69) (r := (recOf (bodyOf Tryz.f123) [0, 1, 0, 1, 1, 1, 1] fn tm D)) rfl (by kernel_rfl) hn (by decide) ⟨rfl, ⟨_, _, _, rfl, rfl, h3⟩, ⟨rfl, ⟨_, _, _, rfl, rfl, h4⟩, ⟨rfl, ⟨_, _, _, rfl, rfl, h5⟩, ⟨rfl, ⟨_, _, _, rfl, rfl, h6⟩, trivial⟩⟩⟩⟩ rfl fun fr hG => ?_
 refine stepB hG hmix [] (⟨[(3, [], .c (.bx 1 0)), (4, [], .c (.bx 2 0)), (5, [], .c (.bx 3 0)), (6, [], .c (.bx 4 0)), (7, [], .c (.bx 700 0))], [(0, .box ⟨.raw (.loop (recOf (bodyOf Tryz.f123) [0, 1, 0, 1, 1, 1, 1] fn tm D)), some l⟩ []), (1, .box ⟨.c 3, some b3⟩ [.d (.i 1)]), (2, .box ⟨.c 3, some b4⟩ [.d (.i 1)]), (3, .box ⟨.c 3, some b5⟩ [.d (.i 0)]), (4, .box ⟨.c 4, some b6⟩ [.d (.b false)]), (700, .box 159 [.d (.s (S [68, 68])), .d (.b true)])]⟩) 0 (r := (recOf (bodyOf Tryz.f123) [0, 1, 0, 1, 1, 1, 1] fn tm D)) (by kernel_rfl) conj0 rfl rfl ?_
 refine stepK hG (⟨[(3, [], .c (.bx 1 0)), (4, [], .c (.bx 2 0)), (5, [], .c (.bx 3 0)), (6, [], .c (.bx 4 0)), (7, [], .c (.bx 700 0))], [(0, .box ⟨.raw (.loop { (recOf (bodyOf Tryz.f123) [0, 1, 0, 1, 1, 1, 1] fn tm D) with state := .busy }), some l⟩ []), (1, .box ⟨.c 3, some b3⟩ [.d (.i 1)]), (2, .box ⟨.c 3, some b4⟩ [.d (.i 1)]), (3, .box ⟨.c 3, some b5⟩ [.d (.i 0)]), (4, .box ⟨.c 4, some b6⟩ [.d (.b false)]), (700, .box 159 [.d (.s (S [68, 68])), .d (.b true)])]⟩) (by kernel_rfl) ?_
 refine zc hG [(7, 13, .call (.c (.d (.b true))) [] [])] [1, 0, 0] (false) (by kernel_rfl) (conjC (show false = true → false = false → (0 : Int) ≤ 0 ∧ 0 < ((S [68, 68]).size : Int) from fun hg1 hg2 => absurd hg1 (by decide)) (conj1 (show false = true → false = false → SpG g 170 [.c (.d (.y 68))] [] (.c (.d (.b true))) [] from fun hg1 hg2 => absurd hg1 (by decide)))) (fun hc1 => absurd hc1 (by decide)) (fun _ => ?_)
 refine zC hG [] [1, 0, 1, 1, 0] (false) (⟨[(3, [], .c (.bx 1 0)), (4, [], .c (.bx 2 0)), (5, [], .c (.bx 3 0)), (7, [], .c (.bx 700 0))], [(0, .box ⟨.raw (.loop { (recOf (bodyOf Tryz.f123) [0, 1, 0, 1, 1, 1, 1] fn tm D) with state := .busy }), some l⟩ []), (1, .box ⟨.c 3, some b3⟩ [.d (.i 1)]), (2, .box ⟨.c 3, some b4⟩ [.d (.i 1)]), (3, .box ⟨.c 3, some b5⟩ [.d (.i 0)]), (4, .box ⟨.c 4, some b6⟩ [.d (.b false)]), (700, .box 159 [.d (.s (S [68, 68])), .d (.b true)])]⟩) (by kernel_rfl) conj0 (fun hc2 => absurd hc2 (by decide)) (fun _ => ?_)
 refine zc hG [] [1, 1, 1, 0, 1, 1, 0] (false) (by kernel_rfl) (conj1 (show (0 : Int) ≤ 0 ∧ 0 < ((S [68, 68]).size : Int) from (by decide))) (fun hc3 => absurd hc3 (by decide)) (fun _ => ?_)
 refine zC hG [] [1, 1, 1, 1, 1, 0, 1, 1, 0] (false) (⟨[(4, [], .c (.bx 2 0)), (5, [], .c (.bx 3 0))], [(0, .box ⟨.raw (.loop { (recOf (bodyOf Tryz.f123) [0, 1, 0, 1, 1, 1, 1] fn tm D) with state := .busy }), some l⟩ []), (1, .box ⟨.c 3, some b3⟩ [.d (.i 1)]), (2, .box ⟨.c 3, some b4⟩ [.d (.i 1)]), (3, .box ⟨.c 3, some b5⟩ [.d (.i 0)]), (4, .box ⟨.c 4, some b6⟩ [.d (.b false)])]⟩) (by kernel_rfl) (conj1 (show (0 : Int) ≤ 0 ∧ 0 < ((S [68, 68]).size : Int) from (by decide))) (fun hc4 => absurd hc4 (by decide)) (fun _ => ?_)
 refine stepY hG hmix [] [] 0 .normal [(0, .box ⟨.raw (endL { (recOf (bodyOf Tryz.f123) [0, 1, 0, 1, 1, 1, 1] fn tm D) with state := .busy } .normal), some l⟩ []), (3, .box ⟨.c 3, some b5⟩ [.d (.i 1)]), (1, .box ⟨.c 3, some b3⟩ [.d (.i 1)]), (2, .box ⟨.c 3, some b4⟩ [.d (.i 1)]), (4, .box ⟨.c 4, some b6⟩ [.d (.b false)])] (by kernel_rfl) (conj1 (show inR (0 + 1) from (by unfold inR; decide))) ?_ ?_
 ·rfl
 ·funext i; simp only [lookO_cons, upd]; (repeat' split) <;> first | rfl | (exfalso; omega)
theorem right_it (b0 : Nat) (b3 b4 b5 b6 D l : Nat) (fn : FuncId) (tm : Array Value) (h3 : tm.getD 3 undef = .pointer (some ⟨b3, 0, none⟩)) (h4 : tm.getD 4 undef = .pointer (some ⟨b4, 0, none⟩)) (h5 : tm.getD 5 undef = .pointer (some ⟨b5, 0, none⟩)) (h6 : tm.getD 6 undef = .pointer (some ⟨b6, 0, none⟩)) (hn : tm.size = 69) :
  SpG g 172 [.c (.d (.v (.func (.yield l) #[] #[]))), .c (.bx 0 0)] [(0, .box ⟨.c 9, some b0⟩ [.d (.s (S [89, 89, 89, 89, 45, 77, 77, 45, 68, 68]))]), (1, .box ⟨.raw (.loop (recOf (bodyOf Tryz.f123) [0, 1, 0, 1, 1, 1, 1] fn tm D)), some l⟩ []), (2, .box ⟨.c 3, some b3⟩ [.d (.i 0)]), (3, .box ⟨.c 3, some b4⟩ [.d (.i 0)]), (4, .box ⟨.c 3, some b5⟩ [.d (.i 0)]), (5, .box ⟨.c 4, some b6⟩ [.d (.b false)])] (.tup []) [(0, .box ⟨.c 9, some b0⟩ [.d (.s (S []))]), (1, .box ⟨.raw (.loop (recOf (bodyOf Tryz.f123) [0, 1, 0, 1, 1, 1, 1] fn tm D)), some l⟩ []), (2, .box ⟨.c 3, some b3⟩ [.d (.i 1)]), (3, .box ⟨.c 3, some b4⟩ [.d (.i 1)]), (4, .box ⟨.c 3, some b5⟩ [.d (.i 1)]), (5, .box ⟨.c 4, some b6⟩ [.d (.b false)])] := by
 refine enterB 17 Tryz.func172 (by kernel_rfl) fun fr hG => ?_
 refine zL hG [] [0] (fun (zz : Nat) => match zz with | k => (6 - k, ⟨[(0, [], .c (.d (.v (.func (.yield l) #[] #[])))), (1, [], .c (.bx 0 0))], [(0, .box ⟨.c 9, some b0⟩ [.d (.s (S (layF k)))]), (1, .box ⟨.raw (.loop (recOf (bodyOf Tryz.f123) [0, 1, 0, 1, 1, 1, 1] fn tm D)), some l⟩ []), (2, .box ⟨.c 3, some b3⟩ [.d (.i (rY k))]), (3, .box ⟨.c 3, some b4⟩ [.d (.i (rM k))]), (4, .box ⟨.c 3, some b5⟩ [.d (.i (rD k))]), (5, .box ⟨.c 4, some b6⟩ [.d (.b false)])]⟩, k ≤ 5)) 0 (by kernel_rfl) conj0 (by kernel_rfl) ?_ ?_
 ·exact Nat.zero_le _
 rintro k hI
 rcases (by omega : k = 0 ∨ k = 1 ∨ k = 2 ∨ k = 3 ∨ k = 4 ∨ k = 5) with rfl | rfl | rfl | rfl | rfl | rfl
 ·skip
  refine zc hG [] [1, 0] (true) (by kernel_rfl) conj0 (fun _ => ?_) (fun hc2 => absurd hc2 (by decide))
  refine zC hG [(1, 1, .call (.agg [.d (.s (S [89, 89, 89, 89])), .d (.b true)]) [] []), (2, 2, .callG (.c (.d (.b true))) [1, 2, 3, 4, 5] [(0, .box ⟨.raw (.loop (recOf (bodyOf Tryz.f123) [0, 1, 0, 1, 1, 1, 1] fn tm D)), some l⟩ []), (1, .box ⟨.c 3, some b3⟩ [.d (.i 1)]), (2, .box ⟨.c 3, some b4⟩ [.d (.i 0)]), (3, .box ⟨.c 3, some b5⟩ [.d (.i 0)]), (4, .box ⟨.c 4, some b6⟩ [.d (.b false)])])] [1, 0, 1, 0, 1] (false) (⟨[(0, [], .c (.d (.v (.func (.yield l) #[] #[])))), (1, [], .c (.bx 0 0)), (3, [], .c (.bx 202 0))], [(0, .box ⟨.c 9, some b0⟩ [.d (.s (S [89, 89, 89, 89, 45, 77, 77, 45, 68, 68]))]), (1, .box ⟨.raw (.loop (recOf (bodyOf Tryz.f123) [0, 1, 0, 1, 1, 1, 1] fn tm D)), some l⟩ []), (2, .box ⟨.c 3, some b3⟩ [.d (.i 1)]), (3, .box ⟨.c 3, some b4⟩ [.d (.i 0)]), (4, .box ⟨.c 3, some b5⟩ [.d (.i 0)]), (5, .box ⟨.c 4, some b6⟩ [.d (.b false)]), (202, .box 159 [.d (.s (S [89, 89, 89, 89])), .d (.b true)])]⟩) (by kernel_rfl) (conjC ((first0 : SpG g _ _ _ _ _)) (conj1 ((rightY0 b3 b4 b5 b6 D l fn tm h3 h4 h5 h6 hn : YSpec Tryz.prog (Gl g) _ _ _ _ _)))) (fun hc3 => absurd hc3 (by decide)) (fun _ => ?_)
  refine zD hG [] 1 (by kernel_rfl) (conj1 (show (0 : Int) ≤ 4 ∧ (4 : Int) ≤ ((S [89, 89, 89, 89, 45, 77, 77, 45, 68, 68]).size : Int) ∧ ((S [89, 89, 89, 89, 45, 77, 77, 45, 68, 68]).size : Int) ≤ ((S [89, 89, 89, 89, 45, 77, 77, 45, 68, 68]).size : Int) from (by decide))) ?_ ?_
  ·(try dsimp only); decide
  ·(try dsimp only); decide
 ·skip
  refine zc hG [] [1, 0] (true) (by kernel_rfl) conj0 (fun _ => ?_) (fun hc4 => absurd hc4 (by decide))
  refine zC hG [(1, 1, .call (.agg [.d (.s (S [45])), .d (.b false)]) [] []), (2, 2, .callG (.c (.d (.b true))) [1, 2, 3, 4, 5] [(0, .box ⟨.raw (.loop (recOf (bodyOf Tryz.f123) [0, 1, 0, 1, 1, 1, 1] fn tm D)), some l⟩ []), (1, .box ⟨.c 3, some b3⟩ [.d (.i 1)]), (2, .box ⟨.c 3, some b4⟩ [.d (.i 0)]), (3, .box ⟨.c 3, some b5⟩ [.d (.i 0)]), (4, .box ⟨.c 4, some b6⟩ [.d (.b false)])])] [1, 0, 1, 0, 1] (false) (⟨[(0, [], .c (.d (.v (.func (.yield l) #[] #[])))), (1, [], .c (.bx 0 0)), (3, [], .c (.bx 202 0))], [(0, .box ⟨.c 9, some b0⟩ [.d (.s (S [45, 77, 77, 45, 68, 68]))]), (1, .box ⟨.raw (.loop (recOf (bodyOf Tryz.f123) [0, 1, 0, 1, 1, 1, 1] fn tm D)), some l⟩ []), (2, .box ⟨.c 3, some b3⟩ [.d (.i 1)]), (3, .box ⟨.c 3, some b4⟩ [.d (.i 0)]), (4, .box ⟨.c 3, some b5⟩ [.d (.i 0)]), (5, .box ⟨.c 4, some b6⟩ [.d (.b false)]), (202, .box 159 [.d (.s (S [45])), .d (.b false)])]⟩) (by kernel_rfl) (conjC ((first1 : SpG g _ _ _ _ _)) (conj1 ((rightY1 b3 b4 b5 b6 D l fn tm h3 h4 h5 h6 hn : YSpec Tryz.prog (Gl g) _ _ _ _ _)))) (fun hc5 => absurd hc5 (by decide)) (fun _ => ?_)
  refine zD hG [] 2 (by kernel_rfl) (conj1 (show (0 : Int) ≤ 1 ∧ (1 : Int) ≤ ((S [45, 77, 77, 45, 68, 68]).size : Int) ∧ ((S [45, 77, 77, 45, 68, 68]).size : Int) ≤ ((S [45, 77, 77, 45, 68, 68]).size : Int) from (by decide))) ?_ ?_
  ·(try dsimp only); decide
  ·(try dsimp only); decide
 ·skip
  refine zc hG [] [1, 0] (true) (by kernel_rfl) conj0 (fun _ => ?_) (fun hc6 => absurd hc6 (by decide))
  refine zC hG [(1, 1, .call (.agg [.d (.s (S [77, 77])), .d (.b true)]) [] []), (2, 2, .callG (.c (.d (.b true))) [1, 2, 3, 4, 5] [(0, .box ⟨.raw (.loop (recOf (bodyOf Tryz.f123) [0, 1, 0, 1, 1, 1, 1] fn tm D)), some l⟩ []), (1, .box ⟨.c 3, some b3⟩ [.d (.i 1)]), (2, .box ⟨.c 3, some b4⟩ [.d (.i 1)]), (3, .box ⟨.c 3, some b5⟩ [.d (.i 0)]), (4, .box ⟨.c 4, some b6⟩ [.d (.b false)])])] [1, 0, 1, 0, 1] (false) (⟨[(0, [], .c (.d (.v (.func (.yield l) #[] #[])))), (1, [], .c (.bx 0 0)), (3, [], .c (.bx 202 0))], [(0, .box ⟨.c 9, some b0⟩ [.d (.s (S [77, 77, 45, 68, 68]))]), (1, .box ⟨.raw (.loop (recOf (bodyOf Tryz.f123) [0, 1, 0, 1, 1, 1, 1] fn tm D)), some l⟩ []), (2, .box ⟨.c 3, some b3⟩ [.d (.i 1)]), (3, .box ⟨.c 3, some b4⟩ [.d (.i 1)]), (4, .box ⟨.c 3, some b5⟩ [.d (.i 0)]), (5, .box ⟨.c 4, some b6⟩ [.d (.b false)]), (202, .box 159 [.d (.s (S [77, 77])), .d (.b true)])]⟩) (by kernel_rfl) (conjC ((first2 : SpG g _ _ _ _ _)) (conj1 ((rightY2 b3 b4 b5 b6 D l fn tm h3 h4 h5 h6 hn : YSpec Tryz.prog (Gl g) _ _ _ _ _)))) (fun hc7 => absurd hc7 (by decide)) (fun _ => ?_)
  refine zD hG [] 3 (by kernel_rfl) (conj1 (show (0 : Int) ≤ 2 ∧ (2 : Int) ≤ ((S [77, 77, 45, 68, 68]).size : Int) ∧ ((S [77, 77, 45, 68, 68]).size : Int) ≤ ((S [77, 77, 45, 68, 68]).size : Int) from (by decide))) ?_ ?_
  ·(try dsimp only); decide
  ·(try dsimp only); decide
 ·skip
  refine zc hG [] [1, 0] (true) (by kernel_rfl) conj0 (fun _ => ?_) (fun hc8 => absurd hc8 (by decide))
  refine zC hG [(1, 1, .call (.agg [.d (.s (S [45])), .d (.b false)]) [] []), (2, 2, .callG (.c (.d (.b true))) [1, 2, 3, 4, 5] [(0, .box ⟨.raw (.loop (recOf (bodyOf Tryz.f123) [0, 1, 0, 1, 1, 1, 1] fn tm D)), some l⟩ []), (1, .box ⟨.c 3, some b3⟩ [.d (.i 1)]), (2, .box ⟨.c 3, some b4⟩ [.d (.i 1)]), (3, .box ⟨.c 3, some b5⟩ [.d (.i 0)]), (4, .box ⟨.c 4, some b6⟩ [.d (.b false)])])] [1, 0, 1, 0, 1] (false) (⟨[(0, [], .c (.d (.v (.func (.yield l) #[] #[])))), (1, [], .c (.bx 0 0)), (3, [], .c (.bx 202 0))], [(0, .box ⟨.c 9, some b0⟩ [.d (.s (S [45, 68, 68]))]), (1, .box ⟨.raw (.loop (recOf (bodyOf Tryz.f123) [0, 1, 0, 1, 1, 1, 1] fn tm D)), some l⟩ []), (2, .box ⟨.c 3, some b3⟩ [.d (.i 1)]), (3, .box ⟨.c 3, some b4⟩ [.d (.i 1)]), (4, .box ⟨.c 3, some b5⟩ [.d (.i 0)]), (5, .box ⟨.c 4, some b6⟩ [.d (.b false)]), (202, .box 159 [.d (.s (S [45])), .d (.b false)])]⟩) (by kernel_rfl) (conjC ((first3 : SpG g _ _ _ _ _)) (conj1 ((rightY3 b3 b4 b5 b6 D l fn tm h3 h4 h5 h6 hn : YSpec Tryz.prog (Gl g) _ _ _ _ _)))) (fun hc9 => absurd hc9 (by decide)) (fun _ => ?_)
  refine zD hG [] 4 (by kernel_rfl) (conj1 (show (0 : Int) ≤ 1 ∧ (1 : Int) ≤ ((S [45, 68, 68]).size : Int) ∧ ((S [45, 68, 68]).size : Int) ≤ ((S [45, 68, 68]).size : Int) from (by decide))) ?_ ?_
  ·(try dsimp only); decide
  ·(try dsimp only); decide
 ·skip
  refine zc hG [] [1, 0] (true) (by kernel_rfl) conj0 (fun _ => ?_) (fun hc10 => absurd hc10 (by decide))
  refine zC hG [(1, 1, .call (.agg [.d (.s (S [68, 68])), .d (.b true)]) [] []), (2, 2, .callG (.c (.d (.b true))) [1, 2, 3, 4, 5] [(0, .box ⟨.raw (.loop (recOf (bodyOf Tryz.f123) [0, 1, 0, 1, 1, 1, 1] fn tm D)), some l⟩ []), (1, .box ⟨.c 3, some b3⟩ [.d (.i 1)]), (2, .box ⟨.c 3, some b4⟩ [.d (.i 1)]), (3, .box ⟨.c 3, some b5⟩ [.d (.i 1)]), (4, .box ⟨.c 4, some b6⟩ [.d (.b false)])])] [1, 0, 1, 0, 1] (false) (⟨[(0, [], .c (.d (.v (.func (.yield l) #[] #[])))), (1, [], .c (.bx 0 0)), (3, [], .c (.bx 202 0))], [(0, .box ⟨.c 9, some b0⟩ [.d (.s (S [68, 68]))]), (1, .box ⟨.raw (.loop (recOf (bodyOf Tryz.f123) [0, 1, 0, 1, 1, 1, 1] fn tm D)), some l⟩ []), (2, .box ⟨.c 3, some b3⟩ [.d (.i 1)]), (3, .box ⟨.c 3, some b4⟩ [.d (.i 1)]), (4, .box ⟨.c 3, some b5⟩ [.d (.i 1)]), (5, .box ⟨.c 4, some b6⟩ [.d (.b false)]), (202, .box 159 [.d (.s (S [68, 68])), .d (.b true)])]⟩) (by kernel_rfl) (conjC ((first4 : SpG g _ _ _ _ _)) (conj1 ((rightY4 b3 b4 b5 b6 D l fn tm h3 h4 h5 h6 hn : YSpec Tryz.prog (Gl g) _ _ _ _ _)))) (fun hc11 => absurd hc11 (by decide)) (fun _ => ?_)
  refine zD hG [] 5 (by kernel_rfl) (conj1 (show (0 : Int) ≤ 2 ∧ (2 : Int) ≤ ((S [68, 68]).size : Int) ∧ ((S [68, 68]).size : Int) ≤ ((S [68, 68]).size : Int) from (by decide))) ?_ ?_
  ·(try dsimp only); decide
  ·(try dsimp only); decide
 ·skip
  refine zc hG [] [1, 0] (false) (by kernel_rfl) conj0 (fun hc12 => absurd hc12 (by decide)) (fun _ => ?_)
  refine zE hG [] (.exit 0) (⟨[], [(0, .box ⟨.c 9, some b0⟩ [.d (.s (S []))]), (1, .box ⟨.raw (.loop (recOf (bodyOf Tryz.f123) [0, 1, 0, 1, 1, 1, 1] fn tm D)), some l⟩ []), (2, .box ⟨.c 3, some b3⟩ [.d (.i 1)]), (3, .box ⟨.c 3, some b4⟩ [.d (.i 1)]), (4, .box ⟨.c 3, some b5⟩ [.d (.i 1)]), (5, .box ⟨.c 4, some b6⟩ [.d (.b false)])]⟩) (by kernel_rfl) conj0 rfl ?_
  exact zr hG [] [] (by kernel_rfl) conj0
theorem dateRight_ok  :
  SpG g 123 [.c (.d (.s (S [89, 89, 89, 89, 45, 77, 77, 45, 68, 68])))] [] (.c (.d (.b true))) [] := by
 refine enterM 69 Tryz.func123 (by kernel_rfl) fun fr hG => ?_
 refine zC hG [] [1, 0, 1] (false) (⟨[(0, [], .c (.d (.s (S [89, 89, 89, 89, 45, 77, 77, 45, 68, 68])))), (2, [], .c (.bx 100 0))], [(100, .box 4 [.d (.b false)])]⟩) (by kernel_rfl) conj0 (fun hc1 => absurd hc1 (by decide)) (fun _ => ?_)
 refine stepL hG hmix [(5, 1, .call (.c (.fn 172 [] [(100, 0)])) [(100, .box 9 [.d (.s (S [89, 89, 89, 89, 45, 77, 77, 45, 68, 68]))])] [])] [0, 1, 0, 1, 1, 1, 1] (⟨[(2, [], .c (.bx 100 0)), (3, [], .c (.bx 400 0)), (4, [], .c (.bx 401 0)), (5, [], .c (.bx 402 0)), (6, [], .c (.bx 500 0)), (12, [], .c (.fn 172 [] [(601, 0)]))], [(100, .box 4 [.d (.b false)]), (400, .box 3 [.d (.i 0)]), (401, .box 3 [.d (.i 0)]), (402, .box 3 [.d (.i 0)]), (500, .box 4 [.d (.b false)]), (601, .box 9 [.d (.s (S [89, 89, 89, 89, 45, 77, 77, 45, 68, 68]))])]⟩) _ (by kernel_rfl) (conj1 ((tokens_ok (S [89, 89, 89, 89, 45, 77, 77, 45, 68, 68]) : SpG g _ _ _ _ _))) ?_
 refine rangeR (g := 12) (ps := rgP (bodyOf Tryz.f123) [0, 1, 0, 1, 1, 1, 1]) (assign := rgA (bodyOf Tryz.f123) [0, 1, 0, 1, 1, 1, 1]) (body := rgB (bodyOf Tryz.f123) [0, 1, 0, 1, 1, 1, 1]) hG (by kernel_rfl) 9900 9901 9910 (by kernel_rfl) rfl (by kernel_rfl) fun b D l fn tm hT hn => ?_
 refine ⟨.tup [], [601, 9901, 400, 401, 402, 500], [(0, .box ⟨.c 9, some (b 601)⟩ [.d (.s (S []))]), (1, .box ⟨.raw (.loop (recOf (bodyOf Tryz.f123) [0, 1, 0, 1, 1, 1, 1] fn tm D)), some l⟩ []), (2, .box ⟨.c 3, some (b 400)⟩ [.d (.i 1)]), (3, .box ⟨.c 3, some (b 401)⟩ [.d (.i 1)]), (4, .box ⟨.c 3, some (b 402)⟩ [.d (.i 1)]), (5, .box ⟨.c 4, some (b 500)⟩ [.d (.b false)])], none, ⟨[(2, [], .c (.bx 100 0)), (3, [], .c (.bx 400 0)), (4, [], .c (.bx 401 0)), (5, [], .c (.bx 402 0))], [(100, .box ⟨.c 4, some (b 100)⟩ [.d (.b false)]), (400, .box ⟨.c 3, some (b 400)⟩ [.d (.i 1)]), (401, .box ⟨.c 3, some (b 401)⟩ [.d (.i 1)]), (402, .box ⟨.c 3, some (b 402)⟩ [.d (.i 1)]), (9900, .box ⟨.raw (.deferred (some [])), some D⟩ [])]⟩, _, .normal, by kernel_rfl, conj1 (right_it (b 601) (b 400) (b 401) (b 402) (b 500) D l fn tm (hT.bx 3 400 0 rfl) (hT.bx 4 401 0 rfl) (hT.bx 5 402 0 rfl) (hT.bx 6 500 0 rfl) hn : SpG g _ _ _ _ _), rfl, ?_⟩
 have hG0 := hG
 replace hG := marked_is (D := D) hG
 refine stepRM hG0 hmix [] [] 9900 (.c (.d (.b true))) [] (by kernel_rfl) conj0 ?_ ?_
 ·rfl
 ·rfl
end Go.Proofs.YtmpgfchkkemngaaGreatDoor
namespace Go.Proofs.YtmpgfchkkemngaaGreatDoor
open Go.RowKit Go.Sort Go.Lib
set_option maxRecDepth 100000 in
theorem formatUint_in (u : Nat) (hu64 : u < 18446744073709551616) (w : World) (htab : Lib.TabIs Tryz.prog w "internal/strconv.uint64pow10" .u64 Lib.pow10Tab) :
  Calls Tryz.prog 121 #[.int .u64 u, .int .i64 10] w fun e w' => e = .returned (.string ⟨(Lib.decDigits u).toArray⟩) ∧ ∃ k os, w' = grow (w.drewN k) os := by
 by_cases hs : u < 100
 ·have hw : IntKind.i64.wrap (u : Int) = (u : Int) := by rw [IntKind.wrap_i64]; omega
  go_enter Tryz.func121, Tryz.ntmps121
  go_wp2_with (go_at_call 159; refine (Tryz.internal_strconv_small u hs _).mono ?_; rintro e w' ⟨rfl, rfl⟩)
  go_ret
  exact ⟨rfl, 0, #[], by simp [World.drewN_zero]⟩
 ·have hu1 : 1 ≤ u := by omega
  have hnd20 : Lib.nDigits u ≤ 20 := by have := Lib.numDigits_eq u hu1 hu64; split at this <;> omega
  have hb3 : Lib.nDigits u ≤ 24 := by omega
  have e1 : Tryz.prog.arrayLen 180 = 24 := by kernel_rfl
  have hsl1 : ∀ W, (Instr.sliceAt 180 (.pointer (some ⟨w.heap.size, 0, none⟩)) none (some (.int .i64 ((Lib.nDigits u : Int)))) none).run Tryz.prog W = .ok (.slice (some ⟨w.heap.size, 0, none⟩) (Lib.nDigits u) 24) W := fun W => by
   rw [run_sliceAt_array_h W 180 ⟨w.heap.size, 0, none⟩ (by kernel_rfl) .i64 (Lib.nDigits u : Int) (by omega) (by rw [e1]; omega)]
   have e2 : (sizeOf (Tryz.prog.elem 180)).run Tryz.prog W = .ok 1 W := by kernel_rfl
   rw [e2]
   simp [slicedAt, e1, Lib.add_plain]
  have hH0 := Lib.holds_zero0 w 180 (Lib.nDigits u) (by omega)
  have hfmt := Tryz.internal_strconv_formatBase10 w.heap.size 0 24 u (Array.replicate (Lib.nDigits u) 0) (w.alloc (.cells Lib.zeros24 180)) hH0 (by rw [Array.size_replicate]; exact Lib.lt_pow_nDigits u) hu64 (by rw [Array.size_replicate]; omega)
  rw [Array.size_replicate] at hfmt
  have HH0 := Lib.hid hH0
  clear hH0 e1
  go_enter Tryz.func121, Tryz.ntmps121
  go_wp2_with (first
   | (go_at_call 160; refine (Tryz.internal_strconv_numDigits u hu1 hu64 _ (Lib.tabIs_alloc htab _)).mono ?_; rintro e w' ⟨rfl, rfl⟩))
  go_at_call 161
  refine hfmt.mono ?_
  rintro e w' ⟨rfl, k, v', dk, rfl, hF⟩
  have hcv : (convert 41 9 (.slice (some ⟨w.heap.size, 0, none⟩) (Lib.nDigits u) 24)).run Tryz.prog ((putRow (fun (b : UInt8) => Value.int .u8 (b.toNat : Int)) (w.alloc (.cells Lib.zeros24 180)) w.heap.size 0 dk).drewN k) = .ok (.string ⟨(Lib.decDigits u).toArray⟩) ((putRow (fun (b : UInt8) => Value.int .u8 (b.toNat : Int)) (w.alloc (.cells Lib.zeros24 180)) w.heap.size 0 dk).drewN k) := by
   have h := run_convert_bytes_back (P := Tryz.prog) ((putRow (fun (b : UInt8) => Value.int .u8 (b.toNat : Int)) (w.alloc (.cells Lib.zeros24 180)) w.heap.size 0 dk).drewN k) 41 9 (Tryz.prog.elem 41) ⟨w.heap.size, 0, none⟩ 24 (Lib.decDigits u) (by kernel_rfl) (by kernel_rfl) (by kernel_rfl) (fun j hj => by
    rw [Lib.row_is_numeral hF j hj, Lib.add_plain, World.cell?_drewN]
    exact cell?_putRow (fun (b : UInt8) => Value.int .u8 (b.toNat : Int)) _ w.heap.size 0 _ dk HH0.out (by rw [hF.size, Array.size_replicate]) j (by rw [hF.size]; rw [Lib.decDigits_length] at hj; exact hj))
   rw [Lib.decDigits_length] at h
   exact h
  go_wp2
  go_ret
  refine ⟨rfl, k, ?_⟩
  rw [alloc_eq_grow]
  obtain ⟨os', _, e⟩ := putRow_grow_new (fun (b : UInt8) => Value.int .u8 (b.toNat : Int)) w #[.cells Lib.zeros24 180] w.heap.size 0 dk (Nat.le_refl _)
  exact ⟨os', by rw [e]; rfl⟩
theorem formatUint_any (u : Nat) (hu64 : u < 18446744073709551616) (w : World) (htab : Lib.TabIs Tryz.prog w "internal/strconv.uint64pow10" .u64 Lib.pow10Tab) :
  Calls Tryz.prog 80 #[.int .u64 u, .int .i64 10] w fun e w' => e = .returned (.string ⟨(Lib.decDigits u).toArray⟩) ∧ ∃ k os, w' = grow (w.drewN k) os := by
 go_enter Tryz.func80, Tryz.ntmps80
 go_wp2_with (go_at_call 121; refine (formatUint_in u hu64 _ htab).mono ?_; rintro e w' ⟨rfl, k, os, rfl⟩)
 go_ret
 exact ⟨rfl, k, os, rfl⟩
end Go.Proofs.YtmpgfchkkemngaaGreatDoor
