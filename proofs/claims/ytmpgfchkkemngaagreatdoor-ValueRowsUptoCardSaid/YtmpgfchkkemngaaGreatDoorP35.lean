/- Part 35 of the proof: texts N4, D3, Z0, D4, D5, D6, D7, TryzShelf, D8, D9, D10, M2, F1. -/
import Derived.Test.YtmpgfchkkemngaaGreatDoorP34
import Derived.Test.YtmpgfchkkemngaaGreatDoorCards
import Derived.Test.YtmpgfchkkemngaaGreatDoorTie
import Derived.WalkKit
import Derived.ProofKit
import Derived.OpenShut
import Derived.Deep.DeepHandedRow
import Derived.Lib.LaidTab
import Derived.Lay
import Derived.Stop.LaidErr
import Derived.MakeChecks
import Derived.Carry
import Derived.Shelf.Strings.Builder1
import Derived.Shelf.Strings.Builder2
import Derived.Shelf.Strings.OnBuilder
import Derived.Shelf.Small.Utf8
import Derived.Shelf.Small.Strs
import Derived.Shelf.Small.Wraps
import Derived.Shelf.Strings.BuilderF
import Derived.Shelf.Strings.BuilderK
import Derived.Shelf.Strconv.Atoi
import Derived.Shelf.Strconv.Itoa0
import Derived.Shelf.Strconv.Itoa1
import Derived.Shelf.LaysM
import Derived.Shelf.Strconv.Itoa2
import Derived.Shelf.Strconv.Itoa3
import Derived.Shelf.Strconv.AtoiErrFast
import Derived.Shelf.Strconv.ParseIntEmpty
import Derived.Shelf.Strconv.AtoiFail
import Derived.Shelf.Strconv.Clone
import Derived.Shelf.Strconv.SyntaxError
import Derived.Shelf.LaysC
import Derived.Shelf.Strconv.ToError
import Derived.Shelf.Strconv.Lower
import Derived.Shelf.Strconv.ParseUint10
import Derived.Shelf.Strconv.ParseUint10Empty
import Derived.Shelf.Strconv.ParseUint10Any
import Derived.Shelf.Strconv.ParseInt10
import Derived.Shelf.Strconv.AtoiLong
import Derived.Shelf.Strconv.AtoiInnerAll
import Derived.Shelf.Strconv.RangeError
import Derived.Shelf.Strconv.ToErrorRange
import Derived.Shelf.Strconv.AtoiAll
import Derived.Shelf.Strconv.ErrVarAll
import Derived.Shelf.Strings.Search1
import Derived.Shelf.Strings.Search2
import Derived.Shelf.Strings.Search3
import Derived.Shelf.Strings.Cut
import Derived.Shelf.Strings.Count
import Derived.Shelf.Strings.Shaped
import Derived.Shelf.Strings.Prefix
import Derived.Shelf.Strings.Split
import Derived.Shelf.Strings.Replace
import Derived.Shelf.Strings.SplitShaped
import Derived.Shelf.Strings.Runes
import Derived.Shelf.Strings.IndexAny
import Derived.Shelf.Strings.AsciiSet
import Derived.Shelf.Strings.IndexAnyAll
import Derived.Shelf.Bits.Mul64
import Derived.Shelf.Strings.Repeat
import Derived.Shelf.Unicode.DecodeSlow
import Derived.Shelf.Unicode.DecodeAny
import Derived.Shelf.Slices.Turned
import Derived.Shelf.Slices.Equal
import Derived.Test.YtmpgfchkkemngaaGreatDoorProg
import Derived.Lib.AppendIntMem
import Derived.WalkSpells
import Derived.WalkLawsBesides
import Derived.Deep.QuietTactic
import Derived.BigQuiet
import Derived.KernelRfl
set_option linter.all false
namespace Go.Proofs.YtmpgfchkkemngaaGreatDoor
open Go.RowKit Go.V
open Go.Eng (inR byteAt u8 bH)
variable {g : Gv}
theorem yY {a b : Nat} (h : a ≤ b) : (nb a).length ≤ (nb b).length := by
 rcases Nat.lt_or_ge (nb b).length (nb a).length with h1 | h1
 have := aE4 h1; omega
 exact h1
theorem natD_nb (n : Nat) : (j3 n).length ≤ 3 * (nb n).length := by
 apply pI
 have h1 := mT (nb n)
 rw [f0] at h1
 have h2 : 256 ^ (nb n).length ≤ 1000 ^ (nb n).length := Nat.pow_le_pow_left (by decide) _
 rw [Nat.pow_mul]
 exact Nat.lt_of_lt_of_le h1 h2
theorem aIT {m : Nat} (h : m ≠ 0) (acc : List UInt8) : j3 (m / 10) ++ (u8 (48 + ((m % 10 : Nat) : Int)) :: acc) = j3 m ++ acc := by
 rw [f7 h]; simp
def eS := And.intro @aF (@blS)
abbrev y6 (a0 : Int) (a1 : Int) (a2 : Bool) : SV := .tup [(true, [cI a0, cI a1]), (false, [cB a2])]
abbrev y7 (a0 : Bool) (a1 : ByteArray) (a2 : Int) : Ob := .box 123 [cB a0, cS a1, cI a2]
abbrev y8 : SV := .tup [(true, [cI 0, cI 0]), (false, [cB false])]
abbrev y9 (a0 : Int) (a1 : Int) : SV := .tup [(true, [cI a0, cI a1]), (false, [cB true])]
theorem aMO (neg : Bool) (m0 : Nat) (s0 : Int) (h0 : (nb m0).length ≤ 900000000) (h1 : 0 ≤ s0) (h2 : s0 ≤ 1000000000000000000) :
  SpG g 151 [.agg [cB neg, cS (S (nb m0)), cI s0]] [] (y6 (d9 neg m0 s0) (d8 m0 s0) (eF m0 s0)) [] := by
 refine aG 55 Tryz.func151 (by kernel_rfl) fun fr hG => ?_
 refine zL hG [] [0, 0, 1] (fun (zz : Nat × Int) => match zz with | (m, s) => (s.toNat, ⟨[zX 1 100 0, zX 2 101 0, zB 3 false], [(100, y7 neg (S (nb m)) s), (101, .box 26 [cI 0, cI 0])]⟩, m ≤ m0 ∧ 0 ≤ s ∧ s ≤ s0 ∧ fX m s.toNat = fX m0 s0.toNat)) (m0, s0) aA ?_ ?_
 exact ⟨Nat.le_refl _, h1, Int.le_refl _, rfl⟩
 rintro ⟨m, s⟩ ⟨hm, hs0, hs1, hf⟩
 have hz := gX (m % 10)
 have hml := yY hm
 have h10 := aLS
 refine zc hG [] [1, 0] (decide ((s : Int) > 0)) aA (fun hc2 => ?_) (fun hc2 => ?_)
 (try simp only [eS, Bool.not_true, Bool.false_or] at hc2)
 refine zC hG [(2, 2, kS (S (nb 10))), (2, 3, kC (y5 (S (nb (m / 10))) (S (nb (m % 10)))))] [1, 0, 1, 0, 1] (decide ((((S (nb (m % 10))).size : Int) : Int) > 0)) (⟨[zX 1 100 0, zX 2 101 0, zB 3 false, zS 4 (S (nb (m / 10)))], [(100, y7 neg (S (nb m)) s), (101, .box 26 [cI 0, cI 0])]⟩) (aC (lH 10 (by decide) : SpG g _ _ _ _ _) (aB (aEV m 10 (by omega) (by omega) (by omega) : SpG g _ _ _ _ _))) (fun hc3 => ?_) (fun hc3 => ?_)
 (try simp only [eS, Bool.not_true, Bool.false_or] at hc3)
 refine zE hG [] (.exit 0) (⟨[zX 1 100 0, zX 2 101 0, zB 3 false], [(100, y7 neg (S (nb m)) s), (101, .box 26 [cI 0, cI 0])]⟩) aA rfl ?_
 refine zC hG [(6, 2, kC (y2 (eU m) (lN m)))] [1, 0, 1, 1, 1] (((!(lN m)) || (decide ((eU m : Int) > 1000000000000000))) || (decide ((s : Int) > 6))) (⟨[zX 1 100 0, zX 2 101 0, zB 3 false, zI 7 (eU m)], [(100, y7 neg (S (nb m)) s), (101, .box 26 [cI 0, cI 0])]⟩) (aB (zQ m (by first | omega | (simp only [maxLen]; omega)) : SpG g _ _ _ _ _)) (fun hc4 => ?_) (fun hc4 => ?_)
 (try simp only [eS, Bool.not_true, Bool.false_or] at hc4)
 refine zR hG [] [] (y8) [] aA ?_ ?_
 have hL : fX m s.toNat = (m, s.toNat) := fE hs0 (by omega)
 rw [hf] at hL
 have hb : eF m0 s0 = false := by unfold eF; rw [hL]; simp only [lN, eU, decide_eq_false_iff_not] at hc4 ⊢; rintro ⟨q1, q2⟩; rw [if_pos (by omega)] at hc4; omega
 rw [d9, d8, hb]; rfl
 rfl
 (try simp only [eS, Bool.not_true, Bool.false_or] at hc4)
 refine zc hG [] [1, 0, 1, 1, 1, 1] (neg) aA (fun hc5 => ?_) (fun hc5 => ?_)
 (try simp only [eS, Bool.not_true, Bool.false_or] at hc5)
 refine zR hG [] [] (y9 (IntKind.wrap .i64 (0 - (eU m))) s) [] aA ?_ ?_
 have hL : fX m s.toNat = (m, s.toNat) := fE hs0 (by omega)
 rw [hf] at hL
 have hk : m < 2 ^ 63 ∧ m ≤ 1000000000000000 ∧ s ≤ 6 := by
  have hc := hc4
  simp only [lN, eU, decide_eq_true_eq] at hc
  obtain ⟨⟨q1, q2⟩, q3⟩ := hc
  rw [if_pos q1] at q2; omega
 have hi : eU m = m := if_pos hk.1
 have hb : eF m0 s0 = true := by unfold eF; rw [hL]; simp; omega
 have hs : (s.toNat : Int) = s := by omega
 rw [d9, d8, hb, hL, hi]
 simp only [if_true, hs]
 rw [aAW (by omega)]; simp [hc5]
 rfl
 (try simp only [eS, Bool.not_true, Bool.false_or] at hc5)
 refine zR hG [] [] (y9 (eU m) s) [] aA ?_ ?_
 have hL : fX m s.toNat = (m, s.toNat) := fE hs0 (by omega)
 rw [hf] at hL
 have hk : m < 2 ^ 63 ∧ m ≤ 1000000000000000 ∧ s ≤ 6 := by
  have hc := hc4
  simp only [lN, eU, decide_eq_true_eq] at hc
  obtain ⟨⟨q1, q2⟩, q3⟩ := hc
  rw [if_pos q1] at q2; omega
 have hi : eU m = m := if_pos hk.1
 have hb : eF m0 s0 = true := by unfold eF; rw [hL]; simp; omega
 have hs : (s.toNat : Int) = s := by omega
 rw [d9, d8, hb, hL, hi]
 simp only [if_true, hs]
 simp [hc5]
 rfl
 (try simp only [eS, Bool.not_true, Bool.false_or] at hc3)
 refine zD hG [] (m / 10, s - 1) (aB (by intros; first | omega | ((try simp only [decide_eq_true_eq, inR, aF] at *) <;> omega) : inR (s - 1))) ?_ ?_
 (try dsimp only); omega
 exact ⟨by omega, by omega, by omega, (xH (by omega) (by omega)).symm.trans hf⟩
 (try simp only [eS, Bool.not_true, Bool.false_or] at hc2)
 refine zE hG [] (.exit 0) (⟨[zX 1 100 0, zX 2 101 0, zB 3 false], [(100, y7 neg (S (nb m)) s), (101, .box 26 [cI 0, cI 0])]⟩) aA rfl ?_
 refine zC hG [(6, 2, kC (y2 (eU m) (lN m)))] [1, 0, 1, 1, 1] (((!(lN m)) || (decide ((eU m : Int) > 1000000000000000))) || (decide ((s : Int) > 6))) (⟨[zX 1 100 0, zX 2 101 0, zB 3 false, zI 7 (eU m)], [(100, y7 neg (S (nb m)) s), (101, .box 26 [cI 0, cI 0])]⟩) (aB (zQ m (by first | omega | (simp only [maxLen]; omega)) : SpG g _ _ _ _ _)) (fun hc6 => ?_) (fun hc6 => ?_)
 (try simp only [eS, Bool.not_true, Bool.false_or] at hc6)
 refine zR hG [] [] (y8) [] aA ?_ ?_
 have hL : fX m s.toNat = (m, s.toNat) := fE hs0 (by omega)
 rw [hf] at hL
 have hb : eF m0 s0 = false := by unfold eF; rw [hL]; simp only [lN, eU, decide_eq_false_iff_not] at hc6 ⊢; rintro ⟨q1, q2⟩; rw [if_pos (by omega)] at hc6; omega
 rw [d9, d8, hb]; rfl
 rfl
 (try simp only [eS, Bool.not_true, Bool.false_or] at hc6)
 refine zc hG [] [1, 0, 1, 1, 1, 1] (neg) aA (fun hc7 => ?_) (fun hc7 => ?_)
 (try simp only [eS, Bool.not_true, Bool.false_or] at hc7)
 refine zR hG [] [] (y9 (IntKind.wrap .i64 (0 - (eU m))) s) [] aA ?_ ?_
 have hL : fX m s.toNat = (m, s.toNat) := fE hs0 (by omega)
 rw [hf] at hL
 have hk : m < 2 ^ 63 ∧ m ≤ 1000000000000000 ∧ s ≤ 6 := by
  have hc := hc6
  simp only [lN, eU, decide_eq_true_eq] at hc
  obtain ⟨⟨q1, q2⟩, q3⟩ := hc
  rw [if_pos q1] at q2; omega
 have hi : eU m = m := if_pos hk.1
 have hb : eF m0 s0 = true := by unfold eF; rw [hL]; simp; omega
 have hs : (s.toNat : Int) = s := by omega
 rw [d9, d8, hb, hL, hi]
 simp only [if_true, hs]
 rw [aAW (by omega)]; simp [hc7]
 rfl
 (try simp only [eS, Bool.not_true, Bool.false_or] at hc7)
 refine zR hG [] [] (y9 (eU m) s) [] aA ?_ ?_
 have hL : fX m s.toNat = (m, s.toNat) := fE hs0 (by omega)
 rw [hf] at hL
 have hk : m < 2 ^ 63 ∧ m ≤ 1000000000000000 ∧ s ≤ 6 := by
  have hc := hc6
  simp only [lN, eU, decide_eq_true_eq] at hc
  obtain ⟨⟨q1, q2⟩, q3⟩ := hc
  rw [if_pos q1] at q2; omega
 have hi : eU m = m := if_pos hk.1
 have hb : eF m0 s0 = true := by unfold eF; rw [hL]; simp; omega
 have hs : (s.toNat : Int) = s := by omega
 rw [d9, d8, hb, hL, hi]
 simp only [if_true, hs]
 simp [hc7]
 rfl
theorem aG3 (n s : Int) (h0 : -72000000000000000 ≤ n) (h1 : n ≤ 72000000000000000) (h2 : 0 ≤ s) (h3 : s ≤ 18) :
  SpG g 113 [.c (cI n), .c (cI s)] [] (y6 (d9 (decide (n < 0)) n.natAbs s) (d8 n.natAbs s) (eF n.natAbs s)) [] := by
 have hl := gJ (n := n.natAbs) (k := 8) (by omega)
 refine aG 22 Tryz.func113 (by kernel_rfl) fun fr hG => ?_
 refine zC hG [] [1, 0, 1] ((decide ((s : Int) < 0)) || (decide ((s : Int) > 18))) (⟨[zI 0 n, zI 1 s, zX 4 100 0, zB 5 false], [(100, .box 26 [cI 0, cI 0])]⟩) aA (fun hc1 => ?_) (fun hc1 => ?_)
 (try simp only [blS] at hc1)
 exfalso; simp at hc1; omega
 (try simp only [blS] at hc1)
 exact zr hG [(3, 3, kS (S (nb n.natAbs))), (3, 6, kC (y6 (d9 (decide ((n : Int) < 0)) n.natAbs s) (d8 n.natAbs s) (eF n.natAbs s)))] [] (aC (tY n (by unfold inR; omega) : SpG g _ _ _ _ _) (aB (aMO (decide ((n : Int) < 0)) n.natAbs s (by omega) (by omega) (by omega) : SpG g _ _ _ _ _)))
theorem oF (n : Nat) (h : (nb n).length ≤ 900000000) :
  SpG g 90 [.c (cS (S (nb n)))] [] (.c (cS (S (bD n)))) [] := by
 have hz := gX n
 refine aG 38 Tryz.func90 (by kernel_rfl) fun fr hG => ?_
 refine zC hG [(1, 1, kS (S (nb n)))] [1, 0, 1, 1] (decide ((((S (nb n)).size : Int) : Int) = 0)) (⟨[zS 0 (S (nb n)), zS 2 (S [])], []⟩) (aB (jA n (by first | omega | (simp only [maxLen]; omega)) : SpG g _ _ _ _ _)) (fun hc1 => ?_) (fun hc1 => ?_)
 (try simp only [eS] at hc1)
 refine zR hG [] [] (.c (cS (S [48]))) [] aA ?_ ?_
 have h0 : n = 0 := by omega
 rw [bD, if_pos h0]
 rfl
 (try simp only [eS] at hc1)
 refine zL hG [] [0, 0, 1, 1, 1, 1] (fun (zz : Nat × ByteArray × List UInt8) => match zz with | (m, sv, acc) => (m, ⟨[zS 0 (S (nb m)), zS 2 (S []), zS 3 sv], []⟩, m ≤ n ∧ j3 m ++ acc = j3 n ∧ sv = S acc)) (n, (S []), []) aA ?_ ?_
 exact ⟨Nat.le_refl _, by simp, rfl⟩
 rintro ⟨m, sv, acc⟩ ⟨hm, hd, hs⟩
 have hml := yY hm
 have hzm := gX m
 have h10 := aLS
 have hal := congrArg List.length hd
 rw [List.length_append] at hal
 have hdl := natD_nb n
 have hq : m % 10 < 10 := Nat.mod_lt _ (by decide)
 have hi : eU (m % 10) = ((m % 10 : Nat) : Int) := if_pos (by omega)
 have hml2 := yY (Nat.mod_le m 10)
 refine zc hG [] [1, 0] (decide ((((S (nb m)).size : Int) : Int) > 0)) aA (fun hc3 => ?_) (fun hc3 => ?_)
 (try simp only [eS] at hc3)
 refine zD hG [(6, 1, kS (S (nb 10))), (6, 2, kC (y5 (S (nb (m / 10))) (S (nb (m % 10))))), (7, 1, kC (y2 (eU (m % 10)) (lN (m % 10)))), (8, 4, kS (S [u8 (48 + eU (m % 10))]))] (m / 10, S [u8 (48 + eU (m % 10))] ++ sv, [u8 (48 + eU (m % 10))] ++ acc) (aC (lH 10 (by decide) : SpG g _ _ _ _ _) (aC (aEV m 10 (by omega) (by omega) (by omega) : SpG g _ _ _ _ _) (aC (zQ (m % 10) (by first | omega | (simp only [maxLen]; omega)) : SpG g _ _ _ _ _) (aC (by intros; first | omega | (rw [hi]; unfold inR; omega) | (rw [hs, aF, aF]; simp only [zq1]; omega) : inR (48 + (eU (m % 10)))) (aC (show ([[.y (IntKind.wrap .u8 (48 + (eU (m % 10))))]] : List (List D)) = bytesD (S [u8 (48 + eU (m % 10))]).data.toList from (dS [] _)) (aB (by intros; first | omega | (rw [hi]; unfold inR; omega) | (rw [hs, aF, aF]; simp only [zq1]; omega) : (S [u8 (48 + eU (m % 10))]).size + (sv).size ≤ maxLen))))))) ?_ ?_
 (try dsimp only); omega
 have hm0 : m ≠ 0 := by omega
 exact ⟨by omega, by rw [hi, ← hd, List.singleton_append, aIT hm0], by rw [hs, bI]⟩
 (try simp only [eS] at hc3)
 refine zE hG [] (.exit 0) (⟨[zS 2 (S []), zS 3 sv], []⟩) aA rfl ?_
 refine zR hG [] [] (.c (cS sv)) [] aA ?_ ?_
 have hn : n ≠ 0 := by omega
 obtain rfl : m = 0 := by omega
 rw [fC, List.nil_append] at hd
 rw [bD, if_neg hn, hs, hd]
 rfl
def aD6 := And.intro @List.length_append.{0} (And.intro @List.length_cons.{0} (And.intro @List.length_drop.{0} (And.intro @List.length_nil.{0} (And.intro @bI (@aF)))))
theorem nW (n s : Int) (h : cZ n s = true) :
  SpG g 55 [.agg [cI n, cI s]] [] (.c (cS (S (bU n s)))) [] := by
 obtain ⟨hs0, hs1, hn0, hn1, _⟩ := fG h
 have hp := aB5 (k := s.toNat) (by omega)
 have hq : n.natAbs / 10 ^ s.toNat ≤ n.natAbs := Nat.div_le_self _ _
 have hr : n.natAbs % 10 ^ s.toNat < 10 ^ s.toNat := Nat.mod_lt _ (by omega)
 have b1 := gJ (n := n.natAbs) (k := 7) (by omega)
 have b2 := gJ (n := 10 ^ s.toNat) (k := 7) (by omega)
 have b3 := gJ (n := n.natAbs / 10 ^ s.toNat) (k := 7) (by omega)
 have b4 := gJ (n := n.natAbs % 10 ^ s.toNat) (k := 7) (by omega)
 have b5 := gJ (n := 10 ^ s.toNat + n.natAbs % 10 ^ s.toNat) (k := 7) (by omega)
 have l1 := gY (n := n.natAbs / 10 ^ s.toNat) (k := 16) (by omega) (by omega)
 have l2 := gY (n := 10 ^ s.toNat + n.natAbs % 10 ^ s.toNat) (k := 16) (by omega) (by omega)
 have l3 := l8 (10 ^ s.toNat + n.natAbs % 10 ^ s.toNat)
 refine aG 42 Tryz.func55 (by kernel_rfl) fun fr hG => ?_
 refine zP hG [(1, 1, kC (.agg [cB (decide (n < 0)), cS (S (nb ((n).natAbs))), cI s])), (2, 2, kS (S (nb (10 ^ (s).toNat)))), (3, 3, kC (y5 (S (nb (((n).natAbs) / (10 ^ (s).toNat)))) (S (nb (((n).natAbs) % (10 ^ (s).toNat)))))), (4, 1, kS (S (bD (((n).natAbs) / (10 ^ (s).toNat)))))] [1, 0, 1, 1, 1, 1, 1] (n < 0) (⟨[zS 2 (S []), zX 3 202 0, zS 4 (S (nb (10 ^ (s).toNat))), zS 6 (S (nb (((n).natAbs) % (10 ^ (s).toNat)))), zS 8 (S (bD (((n).natAbs) / (10 ^ (s).toNat))))], [(202, y7 (decide (n < 0)) (S (nb ((n).natAbs))) s)]⟩) (aC (big_ok n s (by assumption) : SpG g _ _ _ _ _) (aC (aLA (s) (by omega) (by omega) : SpG g _ _ _ _ _) (aC (aEV ((n).natAbs) (10 ^ (s).toNat) (by omega) (by omega) (by omega) : SpG g _ _ _ _ _) (aB (oF (((n).natAbs) / (10 ^ (s).toNat)) (by omega) : SpG g _ _ _ _ _))))) (fun hc1 => ?_) (fun hc1 => ?_)
 skip
 refine zP hG [] [1, 0, 1, 1, 1, 1, 1, 1] ((s : Int) > 0) (⟨[zS 2 (S []), zS 4 (S (nb (10 ^ (s).toNat))), zS 6 (S (nb (((n).natAbs) % (10 ^ (s).toNat)))), zS 8 ((S [45]) ++ (S (bD (((n).natAbs) / (10 ^ (s).toNat)))))], []⟩) (aB (by intros; first | omega | decide | (simp only [aF] at *; omega) | (simp only [aD6, Int.toNat_one, eI, lG]; unfold maxLen; omega) : (S [45]).size + (S (bD (((n).natAbs) / (10 ^ (s).toNat)))).size ≤ maxLen)) (fun hc2 => ?_) (fun hc2 => ?_)
 skip
 refine zR hG [(8, 2, kS (S (nb ((10 ^ (s).toNat) + (((n).natAbs) % (10 ^ (s).toNat)))))), (8, 3, kS (S (bD ((10 ^ (s).toNat) + (((n).natAbs) % (10 ^ (s).toNat))))))] [] (.c (cS ((((S [45]) ++ (S (bD (((n).natAbs) / (10 ^ (s).toNat))))) ++ (S [46])) ++ ((S (bD ((10 ^ (s).toNat) + (((n).natAbs) % (10 ^ (s).toNat))))).extract 1 (S (bD ((10 ^ (s).toNat) + (((n).natAbs) % (10 ^ (s).toNat))))).size)))) [] (aC (aAT (10 ^ (s).toNat) (((n).natAbs) % (10 ^ (s).toNat)) (by omega) (by omega) : SpG g _ _ _ _ _) (aC (oF ((10 ^ (s).toNat) + (((n).natAbs) % (10 ^ (s).toNat))) (by omega) : SpG g _ _ _ _ _) (aC (by intros; first | omega | decide | (simp only [aF] at *; omega) | (simp only [aD6, Int.toNat_one, eI, lG]; unfold maxLen; omega) : ((S [45]) ++ (S (bD (((n).natAbs) / (10 ^ (s).toNat))))).size + (S [46]).size ≤ maxLen) (aC (by intros; first | omega | decide | (simp only [aF] at *; omega) | (simp only [aD6, Int.toNat_one, eI, lG]; unfold maxLen; omega) : (0 : Int) ≤ 1 ∧ (1 : Int) ≤ ((S (bD ((10 ^ (s).toNat) + (((n).natAbs) % (10 ^ (s).toNat))))).size : Int) ∧ ((S (bD ((10 ^ (s).toNat) + (((n).natAbs) % (10 ^ (s).toNat))))).size : Int) ≤ ((S (bD ((10 ^ (s).toNat) + (((n).natAbs) % (10 ^ (s).toNat))))).size : Int)) (aB (by intros; first | omega | decide | (simp only [aF] at *; omega) | (simp only [aD6, Int.toNat_one, eI, lG]; unfold maxLen; omega) : (((S [45]) ++ (S (bD (((n).natAbs) / (10 ^ (s).toNat))))) ++ (S [46])).size + ((S (bD ((10 ^ (s).toNat) + (((n).natAbs) % (10 ^ (s).toNat))))).extract 1 (S (bD ((10 ^ (s).toNat) + (((n).natAbs) % (10 ^ (s).toNat))))).size).size ≤ maxLen)))))) ?_ ?_
 simp only [bI, Int.toNat_one, eI, bU, hc1, hc2, if_true, if_false, List.nil_append, List.append_nil, List.append_assoc]
 rfl
 skip
 refine zR hG [] [] (.c (cS ((S [45]) ++ (S (bD (((n).natAbs) / (10 ^ (s).toNat))))))) [] aA ?_ ?_
 simp only [bI, Int.toNat_one, eI, bU, hc1, hc2, if_true, if_false, List.nil_append, List.append_nil, List.append_assoc]
 rfl
 skip
 refine zP hG [] [1, 0, 1, 1, 1, 1, 1, 1] ((s : Int) > 0) (⟨[zS 2 (S []), zS 4 (S (nb (10 ^ (s).toNat))), zS 6 (S (nb (((n).natAbs) % (10 ^ (s).toNat)))), zS 8 (S (bD (((n).natAbs) / (10 ^ (s).toNat))))], []⟩) aA (fun hc3 => ?_) (fun hc3 => ?_)
 skip
 refine zR hG [(8, 2, kS (S (nb ((10 ^ (s).toNat) + (((n).natAbs) % (10 ^ (s).toNat)))))), (8, 3, kS (S (bD ((10 ^ (s).toNat) + (((n).natAbs) % (10 ^ (s).toNat))))))] [] (.c (cS (((S (bD (((n).natAbs) / (10 ^ (s).toNat)))) ++ (S [46])) ++ ((S (bD ((10 ^ (s).toNat) + (((n).natAbs) % (10 ^ (s).toNat))))).extract 1 (S (bD ((10 ^ (s).toNat) + (((n).natAbs) % (10 ^ (s).toNat))))).size)))) [] (aC (aAT (10 ^ (s).toNat) (((n).natAbs) % (10 ^ (s).toNat)) (by omega) (by omega) : SpG g _ _ _ _ _) (aC (oF ((10 ^ (s).toNat) + (((n).natAbs) % (10 ^ (s).toNat))) (by omega) : SpG g _ _ _ _ _) (aC (by intros; first | omega | decide | (simp only [aF] at *; omega) | (simp only [aD6, Int.toNat_one, eI, lG]; unfold maxLen; omega) : (S (bD (((n).natAbs) / (10 ^ (s).toNat)))).size + (S [46]).size ≤ maxLen) (aC (by intros; first | omega | decide | (simp only [aF] at *; omega) | (simp only [aD6, Int.toNat_one, eI, lG]; unfold maxLen; omega) : (0 : Int) ≤ 1 ∧ (1 : Int) ≤ ((S (bD ((10 ^ (s).toNat) + (((n).natAbs) % (10 ^ (s).toNat))))).size : Int) ∧ ((S (bD ((10 ^ (s).toNat) + (((n).natAbs) % (10 ^ (s).toNat))))).size : Int) ≤ ((S (bD ((10 ^ (s).toNat) + (((n).natAbs) % (10 ^ (s).toNat))))).size : Int)) (aB (by intros; first | omega | decide | (simp only [aF] at *; omega) | (simp only [aD6, Int.toNat_one, eI, lG]; unfold maxLen; omega) : ((S (bD (((n).natAbs) / (10 ^ (s).toNat)))) ++ (S [46])).size + ((S (bD ((10 ^ (s).toNat) + (((n).natAbs) % (10 ^ (s).toNat))))).extract 1 (S (bD ((10 ^ (s).toNat) + (((n).natAbs) % (10 ^ (s).toNat))))).size).size ≤ maxLen)))))) ?_ ?_
 simp only [bI, Int.toNat_one, eI, bU, hc1, hc3, if_true, if_false, List.nil_append, List.append_nil, List.append_assoc]
 rfl
 skip
 refine zR hG [] [] (.c (cS (S (bD (((n).natAbs) / (10 ^ (s).toNat)))))) [] aA ?_ ?_
 simp only [bI, Int.toNat_one, eI, bU, hc1, hc3, if_true, if_false, List.nil_append, List.append_nil, List.append_assoc]
 rfl
end Go.Proofs.YtmpgfchkkemngaaGreatDoor
namespace Go.Proofs.YtmpgfchkkemngaaGreatDoor
open Go.RowKit Go.V
open Go.Eng (inR byteAt u8 bH)
variable {g : Gv}
def nxV (l : List Int) (k n : Int) : Int := if k ≥ l.length ∨ n < 1 then 0 else ((l.getD k.toNat 0).tmod n + n).tmod n
def nxK (l : List Int) (k n : Int) : Int := if k ≥ l.length ∨ n < 1 then k else k + 1
structure NumOk (l : List Int) (k : Int) : Prop where
 k0 : 0 ≤ k
 k1 : k ≤ l.length
 k2 : (l.length : Int) ≤ 9223372036854775807
theorem NumOk.next {l : List Int} {k : Int} (h : NumOk l k) (n : Int) : NumOk l (nxK l k n) := by
 have := h.k0; have := h.k1
 unfold nxK; split
 ·exact h
 ·exact ⟨by omega, by omega, h.k2⟩
theorem aF8 {x n : Int} (hn : 1 ≤ n) : -n < x.tmod n ∧ x.tmod n < n :=
 ⟨Int.lt_tmod_of_pos x (by omega), Int.tmod_lt_of_pos x (by omega)⟩
theorem dC (l : List Int) (k : Int) {n : Int} (hn : 1 ≤ n) : 0 ≤ nxV l k n ∧ nxV l k n < n := by
 unfold nxV
 split
 omega
 have h1 := aF8 (x := l.getD k.toNat 0) hn
 refine ⟨Int.tmod_nonneg _ (by omega), Int.tmod_lt_of_pos _ (by omega)⟩
def wordsL : List (List UInt8) := [[], [97], [98], [97, 98], [105, 116, 39, 115], [50, 48, 50, 52, 45, 48, 49, 45, 51, 49], [49, 50], [45, 51, 46, 53], [65, 124, 66, 44, 91, 99, 93, 59], [78, 111, 114, 116, 104, 32, 55], [120, 32, 121], [39, 39], [97, 98, 99, 97, 98, 99], [48], [55, 46, 50, 53]]
def chM (l : List Int) : Nat → Int → List UInt8 × Int
 | 0, k => ([], k)
 | n + 1, k => (u8 (32 + nxV l k 95) :: (chM l n (nxK l k 95)).1, (chM l n (nxK l k 95)).2)
def txN (l : List Int) (k : Int) : Int := if nxV l k 18 = 17 then 190 + nxV l (nxK l (nxK l k 18) 9) 11 else nxV l (nxK l k 18) 9
def txK (l : List Int) (k : Int) : Int := if nxV l k 18 = 17 then nxK l (nxK l (nxK l k 18) 9) 11 else nxK l (nxK l k 18) 9
def txM (l : List Int) (k : Int) : List UInt8 × Int := if nxV l k 18 < 15 then (wordsL.getD (nxV l k 18).toNat [], nxK l k 18) else chM l (txN l k).toNat (txK l k)
theorem aHK {l : List Int} {N j : Nat} {kk : Int} (h : j < N) : chM l (N - j) kk = (u8 (32 + nxV l kk 95) :: (chM l (N - (j + 1)) (nxK l kk 95)).1, (chM l (N - (j + 1)) (nxK l kk 95)).2) := by
 have : N - j = (N - (j + 1)) + 1 := by omega
 rw [this, chM]
theorem aNR (l : List Int) : ∀ (n : Nat) (k : Int), (chM l n k).1.length = n
 | 0, k => rfl
 | n + 1, k => by simp [chM, aNR l n]
theorem aNQ {l : List Int} : ∀ (n : Nat) {k : Int}, NumOk l k → NumOk l (chM l n k).2
 | 0, k, h => h
 | n + 1, k, h => by rw [chM]; exact aNQ n (h.next 95)
theorem tx_num {l : List Int} {k : Int} (h : NumOk l k) : NumOk l (txM l k).2 := by
 unfold txM; split
 ·exact h.next 18
 ·refine aNQ _ ?_
  unfold txK; split
  ·exact ((h.next 18).next 9).next 11
  ·exact (h.next 18).next 9
theorem txN_bd (l : List Int) (k : Int) : 0 ≤ txN l k ∧ txN l k ≤ 200 := by
 unfold txN
 have h1 := dC l (nxK l (nxK l k 18) 9) (n := 11) (by decide)
 have h2 := dC l (nxK l k 18) (n := 9) (by decide)
 split <;> omega
def dcN (l : List Int) (k : Int) : Int := if nxV l (nxK l k 2001) 8 = 7 then nxV l (nxK l (nxK l k 2001) 8) 2000000000000001 - 1000000000000000 else nxV l k 2001 - 1000
def dcK (l : List Int) (k : Int) : Int := if nxV l (nxK l k 2001) 8 = 7 then nxK l (nxK l (nxK l k 2001) 8) 2000000000000001 else nxK l (nxK l k 2001) 8
def dcM (l : List Int) (k : Int) : Int × Int × Int :=
 (d9 (decide (dcN l k < 0)) (dcN l k).natAbs (nxV l (dcK l k) 4), d8 (dcN l k).natAbs (nxV l (dcK l k) 4), nxK l (dcK l k) 4)
theorem dc_num {l : List Int} {k : Int} (h : NumOk l k) : NumOk l (dcM l k).2.2 := by
 unfold dcM dcK
 simp only
 split
 ·exact (((h.next _).next _).next _).next _
 ·exact ((h.next _).next _).next _
def cvM (l : List Int) (k kind : Int) : Cl × Int :=
 if kind = 1 then (⟨1, (txM l k).1, 0, 0, 0⟩, (txM l k).2)
 else if kind = 2 then (⟨2, [], (dcM l k).1, (dcM l k).2.1, 0⟩, (dcM l k).2.2)
 else if kind = 3 then (if nxV l (nxK l k 1000) 8 = 7 then (⟨3, [], 0, 0, nxV l (nxK l (nxK l k 1000) 8) 3652059⟩, nxK l (nxK l (nxK l k 1000) 8) 3652059) else (⟨3, [], 0, 0, 738000 + nxV l k 1000⟩, nxK l (nxK l k 1000) 8))
 else if kind = 4 then (⟨4, [], 0, 0, nxV l k 2⟩, nxK l k 2)
 else (⟨0, [], 0, 0, nxV l k 100⟩, nxK l k 100)
def abcL : List (List UInt8) := [[97], [98], [99]]
def kdM (l : List Int) : Nat → Int → List Int × Int
 | 0, k => ([], k)
 | n + 1, k => ((1 + nxV l k 4) :: (kdM l n (nxK l k 4)).1, (kdM l n (nxK l k 4)).2)
def ceM (l : List Int) (kind k : Int) : Cl × Int := if nxV l k 9 = 8 then (Cl.z, nxK l k 9) else cvM l (nxK l k 9) kind
def rwM (l : List Int) : List Int → Int → List Cl × Int
 | [], k => ([], k)
 | kd :: r, k => ((ceM l kd k).1 :: (rwM l r (ceM l kd k).2).1, (rwM l r (ceM l kd k).2).2)
def rsM (l : List Int) (kds : List Int) : Nat → Int → List (List Cl) × Int
 | 0, k => ([], k)
 | n + 1, k => ((rwM l kds k).1 :: (rsM l kds n (rwM l kds k).2).1, (rsM l kds n (rwM l kds k).2).2)
def tbK (l : List Int) (k : Int) : List Int × Int := kdM l (nxV l k 4).toNat (nxK l k 4)
def tbR (l : List Int) (k : Int) : List (List Cl) × Int := rsM l (tbK l k).1 (nxV l (tbK l k).2 5).toNat (nxK l (tbK l k).2 5)
def tbM (l : List Int) (k : Int) : Vl × Int := (⟨5, [], 0, 0, 0, abcL.take (nxV l k 4).toNat, (tbR l k).1⟩, (tbR l k).2)
def vlM (l : List Int) (k kind : Int) : Vl × Int := if kind = 5 then tbM l k else ((cvM l k kind).1.toV, (cvM l k kind).2)
theorem cv_num {l : List Int} {k kind : Int} (h : NumOk l k) : NumOk l (cvM l k kind).2 := by
 unfold cvM
 split
 ·exact tx_num h
 ·split
  ·exact dc_num h
  ·split
   ·split
    ·exact ((h.next _).next _).next _
    ·exact (h.next _).next _
   ·split
    ·exact h.next _
    ·exact h.next _
theorem kd_step {l : List Int} {N j : Nat} {kk : Int} (h : j < N) : kdM l (N - j) kk = ((1 + nxV l kk 4) :: (kdM l (N - (j + 1)) (nxK l kk 4)).1, (kdM l (N - (j + 1)) (nxK l kk 4)).2) := by
 have : N - j = (N - (j + 1)) + 1 := by omega
 rw [this, kdM]
theorem rs_step {l kds : List Int} {N j : Nat} {kk : Int} (h : j < N) : rsM l kds (N - j) kk = ((rwM l kds kk).1 :: (rsM l kds (N - (j + 1)) (rwM l kds kk).2).1, (rsM l kds (N - (j + 1)) (rwM l kds kk).2).2) := by
 have : N - j = (N - (j + 1)) + 1 := by omega
 rw [this, rsM]
theorem aGH {l kds : List Int} {j : Nat} {kk : Int} (h : j < kds.length) : rwM l (kds.drop j) kk = ((ceM l (kds.getD j 0) kk).1 :: (rwM l (kds.drop (j + 1)) (ceM l (kds.getD j 0) kk).2).1, (rwM l (kds.drop (j + 1)) (ceM l (kds.getD j 0) kk).2).2) := by
 have : kds.drop j = kds.getD j 0 :: kds.drop (j + 1) := by
  rw [List.drop_eq_getElem_cons h]; simp [h]
 rw [this, rwM]
theorem s5 {l : List (List UInt8)} {j : Nat} (h : j < l.length) : strs (l.take (j + 1)) = strs (l.take j) ++ [cH (l.getD j [])] := by
 simp only [strs]
 rw [List.take_add_one, List.map_append]
 simp [h]
theorem abc_at {j : Nat} (h : j < 3) : ([[D.s (S [97])], [D.s (S [98])], [D.s (S [99])]] : List (List D))[j]? = some (cH (abcL.getD j [])) := by
 have hj3 : j = 0 ∨ j = 1 ∨ j = 2 := by omega
 rcases hj3 with rfl | rfl | rfl <;> rfl
def aL (l : List Int) : Vl := (vlM l (nxK l 0 6) (nxV l 0 6)).1
def aJ4 := And.intro @List.length_map.{0, 0} (And.intro @Go.Eng.inR.eq_1 (And.intro @intsD.eq_1 (@maxLen.eq_1)))
abbrev y10 (a0 : List (List D)) (a1 : Int) : Ob := .box 68 [cM 1 a0, cI a1]
theorem cT (l : List Int) (k n : Int) (h : NumOk l k) (hn : n ≤ 1000000000000000001) :
  SpG g 35 [.c (.bx 0 0), .c (cI n)] [(0, y10 (intsD l) k)] (.c (cI (nxV l k n))) [(0, y10 (intsD l) (nxK l k n))] := by
 have h0 := h.k0; have h1 := h.k1; have h2 := h.k2
 have hk1 : k + 1 - 1 = k := by omega
 have hb : 1 ≤ n → -n < (l.getD k.toNat 0).tmod n ∧ (l.getD k.toNat 0).tmod n < n := aF8
 refine aG 43 Tryz.func35 (by kernel_rfl) fun fr hG => ?_
 refine zC hG [] [1, 0, 1] ((decide ((k : Int) ≥ ((intsD l).length : Int))) || (decide ((n : Int) < 1))) (⟨[zX 0 0 0, zI 1 n, zI 4 0], [(0, y10 (intsD l) k)]⟩) aA (fun hc1 => ?_) (fun hc1 => ?_)
 (try simp only [blS, intsD, List.length_map] at hc1)
 refine zR hG [] [] (.c (cI 0)) [(0, y10 (intsD l) k)] aA ?_ ?_
 rw [nxV, if_pos hc1]
 rw [nxK, if_pos hc1]
 (try simp only [blS, intsD, List.length_map] at hc1)
 refine zR hG [(4, 9, .elem (intD ((l).getD ((k + 1) - 1 : Int).toNat 0)))] [] (.c (cI (Int.tmod ((Int.tmod ((l).getD ((k + 1) - 1 : Int).toNat 0) n) + n) n))) [(0, y10 (intsD l) (k + 1))] (aC (by intros; (try rw [hk1]); (try simp only [aJ4] at *); omega : inR (k + 1)) (aC (by intros; (try rw [hk1]); (try simp only [aJ4] at *); omega : inR ((k + 1) - 1)) (aC (by intros; exact aY _ (by omega) (by (try simp only [lQ] at *); omega) : (0 : Int) ≤ ((k + 1) - 1) ∧ (intsD l)[((k + 1) - 1 : Int).toNat]? = some (intD ((l).getD ((k + 1) - 1 : Int).toNat 0))) (aC (by intros; (try rw [hk1]); (try simp only [aJ4] at *); omega : n ≠ (0 : Int)) (aC (by intros; (try rw [hk1]); (try simp only [aJ4] at *); omega : inR ((Int.tmod ((l).getD ((k + 1) - 1 : Int).toNat 0) n) + n)) (aB (by intros; (try rw [hk1]); (try simp only [aJ4] at *); omega : n ≠ (0 : Int)))))))) ?_ ?_
 rw [nxV, if_neg (by omega), hk1]
 rw [nxK, if_neg (by omega)]
theorem aJ5  :
  SpG g 112 [] [] (.c (.ar 100 0)) [(100, .arr 0 9 1 (strs wordsL))] := by
 refine aG 2 Tryz.func112 (by kernel_rfl) fun fr hG => ?_
 exact zr hG [] [200] aA
def iJ := And.intro @Go.Eng.inR.eq_1 (@maxLen.eq_1)
def dB := And.intro @List.length_append.{0} (And.intro @List.length_cons.{0} (@List.length_nil.{0}))
theorem aE2 (l : List Int) (k : Int) (h : NumOk l k) :
  SpG g 70 [.c (.bx 0 0)] [(0, y10 (intsD l) k)] (.c (cS (S (txM l k).1))) [(0, y10 (intsD l) ((txM l k).2))] := by
 have a1 := dC l k (n := 18) (by decide)
 have a2 := dC l (nxK l k 18) (n := 9) (by decide)
 have a3 := dC l (nxK l (nxK l k 18) 9) (n := 11) (by decide)
 have hw : ((strs wordsL).length : Int) = 15 := rfl
 refine aG 40 Tryz.func70 (by kernel_rfl) fun fr hG => ?_
 refine zP hG [(1, 1, .call (.c (cI (nxV l k 18))) [] [[.sl 1 (intsD l), .i (nxK l k 18)]]), (2, 0, .call (.c (.ar 100 0)) [(100, .arr 0 9 1 (strs wordsL))] [])] [1, 0, 1, 1, 1] ((nxV l k 18 : Int) < ((strs wordsL).length : Int)) (⟨[zX 0 0 0, zS 2 (S []), zI 3 (nxV l k 18), zY 4 300 0], [(0, y10 (intsD l) (nxK l k 18)), (300, .arr 0 9 1 (strs wordsL))]⟩) (aC (cT l k 18 (by (repeat (first | assumption | apply NumOk.next))) (by decide) : SpG g _ _ _ _ _) (aB (aJ5 : SpG g _ _ _ _ _))) (fun hc1 => ?_) (fun hc1 => ?_)
 ·skip
  refine zR hG [(4, 3, .elem (cH ((wordsL).getD (nxV l k 18 : Int).toNat [])))] [] (.c (cS (S ((wordsL).getD (nxV l k 18 : Int).toNat [])))) [(0, y10 (intsD l) (nxK l k 18))] (aC (by intros; (try simp only [iJ] at *); (try simp only [dB] at *); omega : (0 : Int) ≤ (nxV l k 18) ∧ (nxV l k 18) < ((strs wordsL).length : Int)) (aB (by intros; exact sJ _ (by (try simp only [zq6] at *); omega) : (strs wordsL)[(nxV l k 18 : Int).toNat]? = some (cH ((wordsL).getD (nxV l k 18 : Int).toNat []))))) ?_ ?_
  ·rw [txM, if_pos (by omega)]
  ·rw [txM, if_pos (by omega)]
 ·skip
  refine zP hG [(5, 1, .call (.c (cI (nxV l (nxK l k 18) 9))) [] [[.sl 1 (intsD l), .i (nxK l (nxK l k 18) 9)]])] [1, 0, 1, 1, 1, 1, 1] ((nxV l k 18 : Int) = 17) (⟨[zX 0 0 0, zS 2 (S []), zI 5 (nxV l (nxK l k 18) 9)], [(0, y10 (intsD l) (nxK l (nxK l k 18) 9))]⟩) (aB (cT l (nxK l k 18) 9 (by (repeat (first | assumption | apply NumOk.next))) (by decide) : SpG g _ _ _ _ _)) (fun hc2 => ?_) (fun hc2 => ?_)
  ·skip
   refine zA hG [(7, 1, .call (.c (cI (nxV l (nxK l (nxK l k 18) 9) 11))) [] [[.sl 1 (intsD l), .i (nxK l (nxK l (nxK l k 18) 9) 11)]])] [0, 1, 0, 1, 1, 1, 1, 1, 1, 1] (⟨[zX 0 0 0, zS 2 (S []), zI 5 (190 + (nxV l (nxK l (nxK l k 18) 9) 11)), zN 6, zI 7 0], [(0, y10 (intsD l) (nxK l (nxK l (nxK l k 18) 9) 11))]⟩) [(6, 9000, 5, 1)] [] (fun (zz : Nat × List (List D) × List UInt8 × Int) => match zz with | (j, es, acc, kk) => ((190 + (nxV l (nxK l (nxK l k 18) 9) 11)).toNat - j, ⟨[zX 0 0 0, zS 2 (S []), zI 5 (190 + (nxV l (nxK l (nxK l k 18) 9) 11)), zY 6 9000 0, zI 7 (j : Int)], [(0, y10 (intsD l) kk), (9000, .arr 0 5 1 (es))]⟩, j ≤ (190 + (nxV l (nxK l (nxK l k 18) 9) 11)).toNat ∧ NumOk l kk ∧ es = bytesD acc ∧ acc.length = j ∧ acc ++ (chM l ((190 + (nxV l (nxK l (nxK l k 18) 9) 11)).toNat - j) kk).1 = (chM l (190 + (nxV l (nxK l (nxK l k 18) 9) 11)).toNat (nxK l (nxK l (nxK l k 18) 9) 11)).1 ∧ (chM l ((190 + (nxV l (nxK l (nxK l k 18) 9) 11)).toNat - j) kk).2 = (chM l (190 + (nxV l (nxK l (nxK l k 18) 9) 11)).toNat (nxK l (nxK l (nxK l k 18) 9) 11)).2)) (0, [], [], nxK l (nxK l (nxK l k 18) 9) 11) (aC (cT l (nxK l (nxK l k 18) 9) 11 (by (repeat (first | assumption | apply NumOk.next))) (by decide) : SpG g _ _ _ _ _) (aB (by intros; (try simp only [iJ] at *); (try simp only [dB] at *); omega : inR (190 + (nxV l (nxK l (nxK l k 18) 9) 11))))) ?_ ?_
   ·exact ⟨Nat.zero_le _, (by (repeat (first | assumption | apply NumOk.next))), rfl, rfl, by simp, by simp⟩
   rintro ⟨j, es, acc, kk⟩ ⟨hj, hN, hes, ha, h3, h4⟩
   have hlen : es.length = j := by rw [hes, aI, ha]
   have hx := dC l kk (n := 95) (by decide)
   refine zp hG [] [1, 0] (((j : Int) : Int) < (190 + (nxV l (nxK l (nxK l k 18) 9) 11))) aA (fun hc4 => ?_) (fun hc4 => ?_)
   ·skip
    refine zD hG [(12, 2, .call (.c (cI (nxV l kk 95))) [] [[.sl 1 (intsD l), .i (nxK l kk 95)]])] (j + 1, es ++ [[D.y (IntKind.wrap .u8 (32 + nxV l kk 95))]], acc ++ [u8 (32 + nxV l kk 95)], nxK l kk 95) (aC (cT l kk 95 (by (repeat (first | assumption | apply NumOk.next))) (by decide) : SpG g _ _ _ _ _) (aC (by intros; (try simp only [iJ] at *); (try simp only [dB] at *); omega : inR (32 + (nxV l kk 95))) (aC (by intros; (try simp only [iJ] at *); (try simp only [dB] at *); omega : ((es).length + ([[.y (IntKind.wrap .u8 (32 + (nxV l kk 95)))]] : List (List D)).length) * (1 + 1) ≤ 140737488355328) (aB (by intros; (try simp only [iJ] at *); (try simp only [dB] at *); omega : inR ((j : Int) + 1)))))) ?_ ?_
    ·(try dsimp only); omega
    ·have hjs := aHK (l := l) (kk := kk) (N := (190 + (nxV l (nxK l (nxK l k 18) 9) 11)).toNat) (j := j) (by omega)
     refine ⟨by omega, hN.next _, by rw [hes, dS], by simp [ha], ?_, ?_⟩
     ·rw [← h3, hjs]; simp
     ·rw [← h4, hjs]
   ·skip
    refine zE hG [] (.exit 0) (⟨[zS 2 (S []), zY 6 9000 0], [(0, y10 (intsD l) kk), (9000, .arr 0 5 1 (es))]⟩) aA rfl ?_
    refine zR hG [(13, 1, kS (S acc))] [] (.c (cS (S acc))) [(0, y10 (intsD l) kk)] (aB (by rw [hes, jC] : es = bytesD (S acc).data.toList)) ?_ ?_
    ·have e : txM l k = chM l (txN l k).toNat (txK l k) := by rw [txM, if_neg (by omega)]
     have e2 : txN l k = 190 + nxV l (nxK l (nxK l k 18) 9) 11 := by rw [txN, if_pos hc2]
     have e3 : txK l k = nxK l (nxK l (nxK l k 18) 9) 11 := by rw [txK, if_pos hc2]
     have hz : (190 + nxV l (nxK l (nxK l k 18) 9) 11).toNat - j = 0 := by omega
     rw [hz] at h3
     simp only [chM, List.append_nil] at h3
     rw [e, e2, e3, ← h3]
    ·have e : txM l k = chM l (txN l k).toNat (txK l k) := by rw [txM, if_neg (by omega)]
     have e2 : txN l k = 190 + nxV l (nxK l (nxK l k 18) 9) 11 := by rw [txN, if_pos hc2]
     have e3 : txK l k = nxK l (nxK l (nxK l k 18) 9) 11 := by rw [txK, if_pos hc2]
     have hz : (190 + nxV l (nxK l (nxK l k 18) 9) 11).toNat - j = 0 := by omega
     rw [hz] at h4
     simp only [chM] at h4
     rw [e, e2, e3, ← h4]
  ·skip
   refine zA hG [] [0, 1, 0, 1, 1, 1, 1, 1, 1, 1] (⟨[zX 0 0 0, zS 2 (S []), zI 5 (nxV l (nxK l k 18) 9), zN 6, zI 7 0], [(0, y10 (intsD l) (nxK l (nxK l k 18) 9))]⟩) [(6, 9000, 5, 1)] [] (fun (zz : Nat × List (List D) × List UInt8 × Int) => match zz with | (j, es, acc, kk) => ((nxV l (nxK l k 18) 9).toNat - j, ⟨[zX 0 0 0, zS 2 (S []), zI 5 (nxV l (nxK l k 18) 9), zY 6 9000 0, zI 7 (j : Int)], [(0, y10 (intsD l) kk), (9000, .arr 0 5 1 (es))]⟩, j ≤ (nxV l (nxK l k 18) 9).toNat ∧ NumOk l kk ∧ es = bytesD acc ∧ acc.length = j ∧ acc ++ (chM l ((nxV l (nxK l k 18) 9).toNat - j) kk).1 = (chM l (nxV l (nxK l k 18) 9).toNat (nxK l (nxK l k 18) 9)).1 ∧ (chM l ((nxV l (nxK l k 18) 9).toNat - j) kk).2 = (chM l (nxV l (nxK l k 18) 9).toNat (nxK l (nxK l k 18) 9)).2)) (0, [], [], nxK l (nxK l k 18) 9) aA ?_ ?_
   ·exact ⟨Nat.zero_le _, (by (repeat (first | assumption | apply NumOk.next))), rfl, rfl, by simp, by simp⟩
   rintro ⟨j, es, acc, kk⟩ ⟨hj, hN, hes, ha, h3, h4⟩
   have hlen : es.length = j := by rw [hes, aI, ha]
   have hx := dC l kk (n := 95) (by decide)
   refine zp hG [] [1, 0] (((j : Int) : Int) < (nxV l (nxK l k 18) 9)) aA (fun hc6 => ?_) (fun hc6 => ?_)
   ·skip
    refine zD hG [(12, 2, .call (.c (cI (nxV l kk 95))) [] [[.sl 1 (intsD l), .i (nxK l kk 95)]])] (j + 1, es ++ [[D.y (IntKind.wrap .u8 (32 + nxV l kk 95))]], acc ++ [u8 (32 + nxV l kk 95)], nxK l kk 95) (aC (cT l kk 95 (by (repeat (first | assumption | apply NumOk.next))) (by decide) : SpG g _ _ _ _ _) (aC (by intros; (try simp only [iJ] at *); (try simp only [dB] at *); omega : inR (32 + (nxV l kk 95))) (aC (by intros; (try simp only [iJ] at *); (try simp only [dB] at *); omega : ((es).length + ([[.y (IntKind.wrap .u8 (32 + (nxV l kk 95)))]] : List (List D)).length) * (1 + 1) ≤ 140737488355328) (aB (by intros; (try simp only [iJ] at *); (try simp only [dB] at *); omega : inR ((j : Int) + 1)))))) ?_ ?_
    ·(try dsimp only); omega
    ·have hjs := aHK (l := l) (kk := kk) (N := (nxV l (nxK l k 18) 9).toNat) (j := j) (by omega)
     refine ⟨by omega, hN.next _, by rw [hes, dS], by simp [ha], ?_, ?_⟩
     ·rw [← h3, hjs]; simp
     ·rw [← h4, hjs]
   ·skip
    refine zE hG [] (.exit 0) (⟨[zS 2 (S []), zY 6 9000 0], [(0, y10 (intsD l) kk), (9000, .arr 0 5 1 (es))]⟩) aA rfl ?_
    refine zR hG [(13, 1, kS (S acc))] [] (.c (cS (S acc))) [(0, y10 (intsD l) kk)] (aB (by rw [hes, jC] : es = bytesD (S acc).data.toList)) ?_ ?_
    ·have e : txM l k = chM l (txN l k).toNat (txK l k) := by rw [txM, if_neg (by omega)]
     have e2 : txN l k = nxV l (nxK l k 18) 9 := by rw [txN, if_neg hc2]
     have e3 : txK l k = nxK l (nxK l k 18) 9 := by rw [txK, if_neg hc2]
     have hz : (nxV l (nxK l k 18) 9).toNat - j = 0 := by omega
     rw [hz] at h3
     simp only [chM, List.append_nil] at h3
     rw [e, e2, e3, ← h3]
    ·have e : txM l k = chM l (txN l k).toNat (txK l k) := by rw [txM, if_neg (by omega)]
     have e2 : txN l k = nxV l (nxK l k 18) 9 := by rw [txN, if_neg hc2]
     have e3 : txK l k = nxK l (nxK l k 18) 9 := by rw [txK, if_neg hc2]
     have hz : (nxV l (nxK l k 18) 9).toNat - j = 0 := by omega
     rw [hz] at h4
     simp only [chM] at h4
     rw [e, e2, e3, ← h4]
theorem aIQ (l : List Int) (k : Int) (h : NumOk l k) :
  SpG g 71 [.c (.bx 0 0)] [(0, y10 (intsD l) k)] (.agg [cI ((dcM l k).1), cI ((dcM l k).2.1)]) [(0, y10 (intsD l) ((dcM l k).2.2))] := by
 have a1 := dC l k (n := 2001) (by decide)
 have a2 := dC l (nxK l (nxK l k 2001) 8) (n := 2000000000000001) (by decide)
 have a3 := dC l (nxK l (nxK l k 2001) 8) (n := 4) (by decide)
 have a4 := dC l (nxK l (nxK l (nxK l k 2001) 8) 2000000000000001) (n := 4) (by decide)
 refine aG 23 Tryz.func71 (by kernel_rfl) fun fr hG => ?_
 refine zP hG [(1, 1, .call (.c (cI (nxV l k 2001))) [] [[.sl 1 (intsD l), .i (nxK l k 2001)]]), (2, 1, .call (.c (cI (nxV l (nxK l k 2001) 8))) [] [[.sl 1 (intsD l), .i (nxK l (nxK l k 2001) 8)]])] [1, 0, 1, 1] ((nxV l (nxK l k 2001) 8 : Int) = 7) (⟨[zX 0 0 0, zX 2 100 0, zI 3 ((nxV l k 2001) - 1000)], [(0, y10 (intsD l) (nxK l (nxK l k 2001) 8)), (100, .box 26 [cI 0, cI 0])]⟩) (aC (cT l k 2001 (by (repeat (first | assumption | apply NumOk.next))) (by decide) : SpG g _ _ _ _ _) (aC (by intros; (try simp only [iJ] at *); (try simp only [dB] at *); omega : inR ((nxV l k 2001) - 1000)) (aB (cT l (nxK l k 2001) 8 (by (repeat (first | assumption | apply NumOk.next))) (by decide) : SpG g _ _ _ _ _)))) (fun hc1 => ?_) (fun hc1 => ?_)
 ·skip
  refine zR hG [(3, 1, .call (.c (cI (nxV l (nxK l (nxK l k 2001) 8) 2000000000000001))) [] [[.sl 1 (intsD l), .i (nxK l (nxK l (nxK l k 2001) 8) 2000000000000001)]]), (4, 2, .call (.c (cI (nxV l (nxK l (nxK l (nxK l k 2001) 8) 2000000000000001) 4))) [] [[.sl 1 (intsD l), .i (nxK l (nxK l (nxK l (nxK l k 2001) 8) 2000000000000001) 4)]]), (4, 3, kC (y6 (d9 (decide ((nxV l (nxK l (nxK l k 2001) 8) 2000000000000001) - 1000000000000000 < 0)) ((nxV l (nxK l (nxK l k 2001) 8) 2000000000000001) - 1000000000000000).natAbs (nxV l (nxK l (nxK l (nxK l k 2001) 8) 2000000000000001) 4)) (d8 ((nxV l (nxK l (nxK l k 2001) 8) 2000000000000001) - 1000000000000000).natAbs (nxV l (nxK l (nxK l (nxK l k 2001) 8) 2000000000000001) 4)) (eF ((nxV l (nxK l (nxK l k 2001) 8) 2000000000000001) - 1000000000000000).natAbs (nxV l (nxK l (nxK l (nxK l k 2001) 8) 2000000000000001) 4))))] [] (.agg [cI (d9 (decide ((nxV l (nxK l (nxK l k 2001) 8) 2000000000000001) - 1000000000000000 < 0)) ((nxV l (nxK l (nxK l k 2001) 8) 2000000000000001) - 1000000000000000).natAbs (nxV l (nxK l (nxK l (nxK l k 2001) 8) 2000000000000001) 4)), cI (d8 ((nxV l (nxK l (nxK l k 2001) 8) 2000000000000001) - 1000000000000000).natAbs (nxV l (nxK l (nxK l (nxK l k 2001) 8) 2000000000000001) 4))]) [(0, y10 (intsD l) (nxK l (nxK l (nxK l (nxK l k 2001) 8) 2000000000000001) 4))] (aC (cT l (nxK l (nxK l k 2001) 8) 2000000000000001 (by (repeat (first | assumption | apply NumOk.next))) (by decide) : SpG g _ _ _ _ _) (aC (by intros; (try simp only [iJ] at *); (try simp only [dB] at *); omega : inR ((nxV l (nxK l (nxK l k 2001) 8) 2000000000000001) - 1000000000000000)) (aC (cT l (nxK l (nxK l (nxK l k 2001) 8) 2000000000000001) 4 (by (repeat (first | assumption | apply NumOk.next))) (by decide) : SpG g _ _ _ _ _) (aB (aG3 ((nxV l (nxK l (nxK l k 2001) 8) 2000000000000001) - 1000000000000000) (nxV l (nxK l (nxK l (nxK l k 2001) 8) 2000000000000001) 4) (by omega) (by omega) (by omega) (by omega) : SpG g _ _ _ _ _))))) ?_ ?_
  ·simp [dcM, dcN, dcK, hc1]
  ·simp [dcM, dcN, dcK, hc1]
 ·skip
  refine zR hG [(4, 2, .call (.c (cI (nxV l (nxK l (nxK l k 2001) 8) 4))) [] [[.sl 1 (intsD l), .i (nxK l (nxK l (nxK l k 2001) 8) 4)]]), (4, 3, kC (y6 (d9 (decide ((nxV l k 2001) - 1000 < 0)) ((nxV l k 2001) - 1000).natAbs (nxV l (nxK l (nxK l k 2001) 8) 4)) (d8 ((nxV l k 2001) - 1000).natAbs (nxV l (nxK l (nxK l k 2001) 8) 4)) (eF ((nxV l k 2001) - 1000).natAbs (nxV l (nxK l (nxK l k 2001) 8) 4))))] [] (.agg [cI (d9 (decide ((nxV l k 2001) - 1000 < 0)) ((nxV l k 2001) - 1000).natAbs (nxV l (nxK l (nxK l k 2001) 8) 4)), cI (d8 ((nxV l k 2001) - 1000).natAbs (nxV l (nxK l (nxK l k 2001) 8) 4))]) [(0, y10 (intsD l) (nxK l (nxK l (nxK l k 2001) 8) 4))] (aC (cT l (nxK l (nxK l k 2001) 8) 4 (by (repeat (first | assumption | apply NumOk.next))) (by decide) : SpG g _ _ _ _ _) (aB (aG3 ((nxV l k 2001) - 1000) (nxV l (nxK l (nxK l k 2001) 8) 4) (by omega) (by omega) (by omega) (by omega) : SpG g _ _ _ _ _))) ?_ ?_
  ·simp [dcM, dcN, dcK, hc1]
  ·simp [dcM, dcN, dcK, hc1]
abbrev y11 : Ob := .box 30 [cI 0, cS (S []), cI 0, cI 0, cI 0, cN, cN]
theorem tX (l : List Int) (k kind : Int) (h : NumOk l k) (hk : ¬ kind = 5) :
  SpG g 34 [.c (.bx 0 0), .c (cI kind)] [(0, y10 (intsD l) k)] (.agg [cI (((cvM l k kind).1).kind), cS (S ((cvM l k kind).1).s), cI (((cvM l k kind).1).dn), cI (((cvM l k kind).1).ds), cI (((cvM l k kind).1).n), cN, cN]) [(0, y10 (intsD l) ((cvM l k kind).2))] := by
 have a1 := dC l k (n := 1000) (by decide)
 refine aG 45 Tryz.func34 (by kernel_rfl) fun fr hG => ?_
 refine zP hG [] [1, 0, 1, 0, 1] ((kind : Int) = 1) (⟨[zX 0 0 0, zI 1 kind, zX 4 100 0, zI 6 kind], [(0, y10 (intsD l) k), (100, y11)]⟩) aA (fun hc1 => ?_) (fun hc1 => ?_)
 ·skip
  refine zR hG [(3, 2, .call (.c (cS (S (txM l k).1))) [] [[.sl 1 (intsD l), .i ((txM l k).2)]])] [] (.agg [cI kind, cS (S (txM l k).1), cI 0, cI 0, cI 0, cN, cN]) [(0, y10 (intsD l) ((txM l k).2))] (aB (aE2 l k (by (repeat (first | assumption | apply NumOk.next))) : SpG g _ _ _ _ _)) ?_ ?_
  ·simp [cvM, *]
  ·simp [cvM, *]
 ·skip
  refine zp hG [] [1, 1, 1, 0, 1, 0, 1] ((kind : Int) = 2) aA (fun hc2 => ?_) (fun hc2 => ?_)
  ·skip
   refine zR hG [(5, 2, .call (.agg [cI ((dcM l k).1), cI ((dcM l k).2.1)]) [] [[.sl 1 (intsD l), .i ((dcM l k).2.2)]])] [] (.agg [cI kind, cS (S []), cI ((dcM l k).1), cI ((dcM l k).2.1), cI 0, cN, cN]) [(0, y10 (intsD l) ((dcM l k).2.2))] (aB (aIQ l k (by (repeat (first | assumption | apply NumOk.next))) : SpG g _ _ _ _ _)) ?_ ?_
   ·simp [cvM, *]
   ·simp [cvM, *]
  ·skip
   refine zp hG [] [1, 1, 1, 1, 1, 0, 1, 0, 1] ((kind : Int) = 3) aA (fun hc3 => ?_) (fun hc3 => ?_)
   ·skip
    refine zP hG [(7, 1, .call (.c (cI (nxV l k 1000))) [] [[.sl 1 (intsD l), .i (nxK l k 1000)]]), (8, 1, .call (.c (cI (nxV l (nxK l k 1000) 8))) [] [[.sl 1 (intsD l), .i (nxK l (nxK l k 1000) 8)]])] [1, 0, 1, 0, 1, 1, 1, 1, 1, 0, 1, 0, 1] ((nxV l (nxK l k 1000) 8 : Int) = 7) (⟨[zX 0 0 0, zI 1 kind, zX 4 100 0, zI 5 (738000 + (nxV l k 1000))], [(0, y10 (intsD l) (nxK l (nxK l k 1000) 8)), (100, y11)]⟩) (aC (cT l k 1000 (by (repeat (first | assumption | apply NumOk.next))) (by decide) : SpG g _ _ _ _ _) (aC (by intros; (try simp only [iJ] at *); (try simp only [dB] at *); omega : inR (738000 + (nxV l k 1000))) (aB (cT l (nxK l k 1000) 8 (by (repeat (first | assumption | apply NumOk.next))) (by decide) : SpG g _ _ _ _ _)))) (fun hc4 => ?_) (fun hc4 => ?_)
    ·skip
     refine zR hG [(9, 1, .call (.c (cI (nxV l (nxK l (nxK l k 1000) 8) 3652059))) [] [[.sl 1 (intsD l), .i (nxK l (nxK l (nxK l k 1000) 8) 3652059)]])] [] (y1 kind (nxV l (nxK l (nxK l k 1000) 8) 3652059)) [(0, y10 (intsD l) (nxK l (nxK l (nxK l k 1000) 8) 3652059))] (aB (cT l (nxK l (nxK l k 1000) 8) 3652059 (by (repeat (first | assumption | apply NumOk.next))) (by decide) : SpG g _ _ _ _ _)) ?_ ?_
     ·simp [cvM, *]
     ·simp [cvM, *]
    ·skip
     refine zR hG [] [] (y1 kind (738000 + (nxV l k 1000))) [(0, y10 (intsD l) (nxK l (nxK l k 1000) 8))] aA ?_ ?_
     ·simp [cvM, *]
     ·simp [cvM, *]
   ·skip
    refine zp hG [] [1, 1, 1, 1, 1, 1, 1, 0, 1, 0, 1] ((kind : Int) = 4) aA (fun hc5 => ?_) (fun hc5 => ?_)
    ·skip
     refine zR hG [(12, 2, .call (.c (cI (nxV l k 2))) [] [[.sl 1 (intsD l), .i (nxK l k 2)]])] [] (y1 kind (nxV l k 2)) [(0, y10 (intsD l) (nxK l k 2))] (aB (cT l k 2 (by (repeat (first | assumption | apply NumOk.next))) (by decide) : SpG g _ _ _ _ _)) ?_ ?_
     ·simp [cvM, *]
     ·simp [cvM, *]
    ·skip
     refine zP hG [] [1, 1, 1, 1, 1, 1, 1, 1, 1, 0, 1, 0, 1] ((kind : Int) = 5) (⟨[zX 0 0 0, zX 4 100 0], [(0, y10 (intsD l) k), (100, y11)]⟩) aA (fun hc6 => ?_) (fun hc6 => ?_)
     ·skip
      exact absurd hc6 hk
     ·skip
      refine zR hG [(15, 1, .call (.c (cI (nxV l k 100))) [] [[.sl 1 (intsD l), .i (nxK l k 100)]])] [] (.agg [cI 0, cS (S []), cI 0, cI 0, cI (nxV l k 100), cN, cN]) [(0, y10 (intsD l) (nxK l k 100))] (aB (cT l k 100 (by (repeat (first | assumption | apply NumOk.next))) (by decide) : SpG g _ _ _ _ _)) ?_ ?_
      ·simp [cvM, *]
      ·simp [cvM, *]
abbrev y12 (a0 : List (List D)) (a1 : List (List D)) : SV := .agg [cI 5, cS (S []), cI 0, cI 0, cI 0, cM 1 a0, cM 1 a1]
abbrev y13 : Ob := .box 30 [cI 5, cS (S []), cI 0, cI 0, cI 0, cN, cN]
abbrev y14 : Ob := .box 30 [cI 5, cS (S []), cI 0, cI 0, cI 0, .ar 9002 0, cN]
abbrev y15 : Ob := .box 30 [cI 5, cS (S []), cI 0, cI 0, cI 0, .ar 9002 0, .ar 9003 0]
theorem aCE (l : List Int) (k : Int) (h : NumOk l k) :
  SpG g 72 [.c (.bx 0 0)] [(0, y10 (intsD l) k)] (y12 (strs ((tbM l k).1.cols)) (rowsD ((tbM l k).1.rows))) [(0, y10 (intsD l) ((tbM l k).2))] := by
 have a1 := dC l k (n := 4) (by decide)
 refine aG 69 Tryz.func72 (by kernel_rfl) fun fr hG => ?_
 refine zA hG [(2, 1, .call (.c (cI (nxV l k 4))) [] [[.sl 1 (intsD l), .i (nxK l k 4)]])] [0, 1, 0, 1, 1, 1, 1] (⟨[zX 0 0 0, zX 2 100 0, zX 3 201 0, zI 4 (nxV l k 4), zN 5, zI 6 0], [(0, y10 (intsD l) (nxK l k 4)), (100, y11), (201, y13)]⟩) [(5, 9001, 3, 1)] [(201, 5, 9002, 9, 1)] (fun (zz : Nat × List (List D) × List (List D) × List Int × Int) => match zz with | (j, ek, ec, acck, kk) => ((nxV l k 4).toNat - j, ⟨[zX 0 0 0, zX 2 100 0, zX 3 201 0, zI 4 (nxV l k 4), zY 5 9001 0, zI 6 (j : Int)], [(0, y10 (intsD l) kk), (100, y11), (201, y14), (9001, .arr 0 3 1 (ek)), (9002, .arr 0 9 1 (ec))]⟩, j ≤ (nxV l k 4).toNat ∧ NumOk l kk ∧ ek = intsD acck ∧ ec = strs (abcL.take j) ∧ acck.length = j ∧ (∀ x ∈ acck, 1 ≤ x ∧ x ≤ 4) ∧ acck ++ (kdM l ((nxV l k 4).toNat - j) kk).1 = (tbK l k).1 ∧ (kdM l ((nxV l k 4).toNat - j) kk).2 = (tbK l k).2)) (0, [], [], [], (nxK l k 4)) (aB (cT l k 4 (by (repeat (first | assumption | apply NumOk.next))) (by decide) : SpG g _ _ _ _ _)) ?_ ?_
 ·exact ⟨Nat.zero_le _, (by (repeat (first | assumption | apply NumOk.next))), rfl, rfl, rfl, by simp, by simp [tbK], by simp [tbK]⟩
 rintro ⟨j, ek, ec, acck, kk⟩ ⟨hj, hN, hek, hec, ha, hkd, h3, h4⟩
 have hlen : ek.length = j := by rw [hek, intsD, List.length_map, ha]
 have hlen2 : ec.length = j := by rw [hec, strs, List.length_map, List.length_take, show abcL.length = 3 from rfl]; omega
 have hx := dC l kk (n := 4) (by decide)
 refine zp hG [] [1, 0] (((j : Int) : Int) < (nxV l k 4)) aA (fun hc2 => ?_) (fun hc2 => ?_)
 ·skip
  refine zD hG [(7, 5, .elem (cH (abcL.getD j []))), (8, 2, .call (.c (cI (nxV l kk 4))) [] [[.sl 1 (intsD l), .i (nxK l kk 4)]])] (j + 1, ek ++ [[D.i (1 + nxV l kk 4)]], ec ++ [[D.s (S (abcL.getD j []))]], acck ++ [1 + nxV l kk 4], nxK l kk 4) (aC (by intros; (try simp only [iJ] at *); (try simp only [dB] at *); omega : (0 : Int) ≤ (j : Int) ∧ (j : Int) < (([[.s (S [97])], [.s (S [98])], [.s (S [99])]] : List (List D)).length : Int)) (aC (show ([[.s (S [97])], [.s (S [98])], [.s (S [99])]] : List (List D))[j]? = some (cH (abcL.getD j [])) from (abc_at (by omega))) (aC (by intros; (try simp only [iJ] at *); (try simp only [dB] at *); omega : ((ec).length + ([[.s (S (abcL.getD j []))]] : List (List D)).length) * (16 + 1) ≤ 140737488355328) (aC (cT l kk 4 (by (repeat (first | assumption | apply NumOk.next))) (by decide) : SpG g _ _ _ _ _) (aC (by intros; (try simp only [iJ] at *); (try simp only [dB] at *); omega : inR (1 + (nxV l kk 4))) (aC (by intros; (try simp only [iJ] at *); (try simp only [dB] at *); omega : ((ek).length + ([[.i (1 + (nxV l kk 4))]] : List (List D)).length) * (8 + 1) ≤ 140737488355328) (aB (by intros; (try simp only [iJ] at *); (try simp only [dB] at *); omega : inR ((j : Int) + 1))))))))) ?_ ?_
  ·(try dsimp only); omega
  ·have hjs := kd_step (l := l) (kk := kk) (N := (nxV l k 4).toNat) (j := j) (by omega)
   refine ⟨by omega, hN.next _, by rw [hek]; simp [intsD, intD], ?_, by simp [ha], ?_, ?_, ?_⟩
   ·rw [hec, s5 (show j < abcL.length by rw [show abcL.length = 3 from rfl]; omega)]; rfl
   ·intro x hx2
    rcases List.mem_append.1 hx2 with hx2 | hx2
    ·exact hkd x hx2
    ·simp at hx2; omega
   ·rw [← h3, hjs]; simp
   ·rw [← h4, hjs]
 ·skip
  have hjm : j = (nxV l k 4).toNat := by omega
  have hz0 : (nxV l k 4).toNat - j = 0 := by omega
  rw [hz0] at h3 h4
  simp only [kdM, List.append_nil] at h3 h4
  have e1 : (tbK l k).1 = acck := h3.symm
  have e2 : (tbK l k).2 = kk := h4.symm
  have hml : (tbK l k).1.length = (nxV l k 4).toNat := by rw [e1, ha, hjm]
  have a5 := dC l kk (n := 5) (by decide)
  have e3 : (nxV l (tbK l k).2 5).toNat = (nxV l kk 5).toNat := by rw [e2]
  refine zE hG [] (.exit 0) (⟨[zX 0 0 0, zX 2 100 0, zX 3 201 0, zI 4 (nxV l k 4), zY 5 9001 0], [(0, y10 (intsD l) kk), (100, y11), (201, y14), (9001, .arr 0 3 1 (ek)), (9002, .arr 0 9 1 (ec))]⟩) aA rfl ?_
  refine zA hG [(9, 1, .call (.c (cI (nxV l kk 5))) [] [[.sl 1 (intsD l), .i (nxK l kk 5)]])] [0, 1, 0, 1, 1, 1, 1, 1, 1] (⟨[zX 0 0 0, zX 2 100 0, zX 3 201 0, zI 4 (nxV l k 4), zY 5 9001 0, zI 7 (nxV l kk 5), zI 8 0], [(0, y10 (intsD l) (nxK l kk 5)), (100, y11), (201, y14), (9001, .arr 0 3 1 (ek)), (9002, .arr 0 9 1 (ec))]⟩) [] [(201, 6, 9003, 33, 1)] (fun (zz : Nat × List (List D) × List (List Cl) × Int) => match zz with | (i, er, accr, kr) => ((nxV l (tbK l k).2 5).toNat - i, ⟨[zX 0 0 0, zX 2 100 0, zX 3 201 0, zI 4 (nxV l k 4), zY 5 9001 0, zI 7 (nxV l kk 5), zI 8 (i : Int)], [(0, y10 (intsD l) kr), (100, y11), (201, y15), (9001, .arr 0 3 1 (ek)), (9002, .arr 0 9 1 (ec)), (9003, .arr 0 33 1 (er))]⟩, i ≤ (nxV l (tbK l k).2 5).toNat ∧ NumOk l kr ∧ er = rowsD accr ∧ accr.length = i ∧ accr ++ (rsM l (tbK l k).1 ((nxV l (tbK l k).2 5).toNat - i) kr).1 = (tbR l k).1 ∧ (rsM l (tbK l k).1 ((nxV l (tbK l k).2 5).toNat - i) kr).2 = (tbR l k).2)) (0, [], [], nxK l kk 5) (aB (cT l kk 5 (by (repeat (first | assumption | apply NumOk.next))) (by decide) : SpG g _ _ _ _ _)) ?_ ?_
  ·exact ⟨Nat.zero_le _, (by (repeat (first | assumption | apply NumOk.next))), rfl, rfl, by simp [tbR, e2], by simp [tbR, e2]⟩
  rintro ⟨i, er, accr, kr⟩ ⟨hi, hNr, her, har, hr3, hr4⟩
  have hlen3 : er.length = i := by rw [her, rowsD, List.length_map, har]
  refine zp hG [] [1, 0] (((i : Int) : Int) < (nxV l kk 5)) aA (fun hc4 => ?_) (fun hc4 => ?_)
  ·skip
   refine zA hG [] [0, 1, 0, 1, 0, 0, 1] (⟨[zX 0 0 0, zX 2 100 0, zX 3 201 0, zI 4 (nxV l k 4), zY 5 9001 0, zI 7 (nxV l kk 5), zI 8 (i : Int), zN 9, zI 10 0], [(0, y10 (intsD l) kr), (100, y11), (201, y15), (9001, .arr 0 3 1 (ek)), (9002, .arr 0 9 1 (ec)), (9003, .arr 0 33 1 (er))]⟩) [(9, 9004, 30, 7)] [] (fun (zz : Nat × List (List D) × List Cl × Int) => match zz with | (c, et, acct, kt) => ((tbK l k).1.length - c, ⟨[zX 0 0 0, zX 2 100 0, zX 3 201 0, zI 4 (nxV l k 4), zY 5 9001 0, zI 7 (nxV l kk 5), zI 8 (i : Int), zY 9 9004 0, zI 10 (c : Int)], [(0, y10 (intsD l) kt), (100, y11), (201, y15), (9001, .arr 0 3 1 (ek)), (9002, .arr 0 9 1 (ec)), (9003, .arr 0 33 1 (er)), (9004, .arr 0 30 7 (et))]⟩, c ≤ (tbK l k).1.length ∧ NumOk l kt ∧ et = rowD acct ∧ acct.length = c ∧ acct ++ (rwM l ((tbK l k).1.drop c) kt).1 = (rwM l (tbK l k).1 kr).1 ∧ (rwM l ((tbK l k).1.drop c) kt).2 = (rwM l (tbK l k).1 kr).2)) (0, [], [], kr) aA ?_ ?_
   ·exact ⟨Nat.zero_le _, hNr, rfl, rfl, by simp, by simp⟩
   rintro ⟨c, et, acct, kt⟩ ⟨hc, hNt, het, hat, ht3, ht4⟩
   have hlen4 : et.length = c := by rw [het, rowD, List.length_map, hat]
   refine zp hG [] [1, 0] (((c : Int) : Int) < (nxV l k 4)) aA (fun hc6 => ?_) (fun hc6 => ?_)
   ·skip
    refine zP hG [(17, 1, .call (.c (cI (nxV l kt 9))) [] [[.sl 1 (intsD l), .i (nxK l kt 9)]])] [1, 0, 0, 1] ((nxV l kt 9 : Int) = 8) (⟨[zX 0 0 0, zX 2 100 0, zX 3 201 0, zI 4 (nxV l k 4), zY 5 9001 0, zI 7 (nxV l kk 5), zI 8 (i : Int), zY 9 9004 0, zI 10 (c : Int)], [(0, y10 (intsD l) (nxK l kt 9)), (100, y11), (201, y15), (9001, .arr 0 3 1 (ek)), (9002, .arr 0 9 1 (ec)), (9003, .arr 0 33 1 (er)), (9004, .arr 0 30 7 (et))]⟩) (aB (cT l kt 9 (by (repeat (first | assumption | apply NumOk.next))) (by decide) : SpG g _ _ _ _ _)) (fun hc7 => ?_) (fun hc7 => ?_)
    ·skip
     refine zD hG [(18, 2, .mask [none, none, none, none, none, some 1, some 1])] (c + 1, et ++ [ClD Cl.z], acct ++ [Cl.z], nxK l kt 9) (aC (by intros; (try simp only [iJ] at *); (try simp only [dB] at *); omega : ((et).length + (([[.i 0, .s (S []), .i 0, .i 0, .i 0, .sl 1 ([]), .sl 1 ([])]] : List (List D))).length) * (96 + 1) ≤ 140737488355328) (aB (by intros; (try simp only [iJ] at *); (try simp only [dB] at *); omega : inR ((c : Int) + 1)))) ?_ ?_
     ·(try dsimp only); omega
     ·have hjs := aGH (l := l) (kds := (tbK l k).1) (kk := kt) (j := c) (by omega)
      have hce : ceM l ((tbK l k).1.getD c 0) kt = (Cl.z, nxK l kt 9) := by rw [ceM, if_pos hc7]
      rw [hce] at hjs
      refine ⟨by omega, hNt.next _, by rw [het]; simp [rowD], by simp [hat], ?_, ?_⟩
      ·rw [← ht3, hjs]; simp
      ·rw [← ht4, hjs]
    ·skip
     refine zD hG [(19, 5, .elem (intD (acck.getD c 0))), (19, 6, .call (.agg [cI (((cvM l (nxK l kt 9) (acck.getD c 0)).1).kind), cS (S ((cvM l (nxK l kt 9) (acck.getD c 0)).1).s), cI (((cvM l (nxK l kt 9) (acck.getD c 0)).1).dn), cI (((cvM l (nxK l kt 9) (acck.getD c 0)).1).ds), cI (((cvM l (nxK l kt 9) (acck.getD c 0)).1).n), cN, cN]) [] [[.sl 1 (intsD l), .i ((cvM l (nxK l kt 9) (acck.getD c 0)).2)]]), (19, 7, .mask [none, none, none, none, none, some 1, some 1])] (c + 1, et ++ [ClD (cvM l (nxK l kt 9) (acck.getD c 0)).1], acct ++ [(cvM l (nxK l kt 9) (acck.getD c 0)).1], (cvM l (nxK l kt 9) (acck.getD c 0)).2) (aC (by intros; (try simp only [iJ] at *); (try simp only [dB] at *); omega : (0 : Int) ≤ (c : Int) ∧ (c : Int) < ((ek).length : Int)) (aC (by intros; rw [hek]; exact sJ _ (by omega) : (ek)[c]? = some (intD (acck.getD c 0))) (aC (tX l (nxK l kt 9) (acck.getD c 0) (by (repeat (first | assumption | apply NumOk.next))) (by have := hkd (acck.getD c 0) (bO (by omega)); omega) : SpG g _ _ _ _ _) (aC (by intros; (try simp only [iJ] at *); (try simp only [dB] at *); omega : ((et).length + ([[.i (((cvM l (nxK l kt 9) (acck.getD c 0)).1).kind), .s (S ((cvM l (nxK l kt 9) (acck.getD c 0)).1).s), .i (((cvM l (nxK l kt 9) (acck.getD c 0)).1).dn), .i (((cvM l (nxK l kt 9) (acck.getD c 0)).1).ds), .i (((cvM l (nxK l kt 9) (acck.getD c 0)).1).n), .sl 1 ([]), .sl 1 ([])]] : List (List D)).length) * (96 + 1) ≤ 140737488355328) (aB (by intros; (try simp only [iJ] at *); (try simp only [dB] at *); omega : inR ((c : Int) + 1))))))) ?_ ?_
     ·(try dsimp only); omega
     ·have hjs := aGH (l := l) (kds := (tbK l k).1) (kk := kt) (j := c) (by omega)
      have hce : ceM l ((tbK l k).1.getD c 0) kt = cvM l (nxK l kt 9) (acck.getD c 0) := by rw [ceM, if_neg hc7, e1]
      rw [hce] at hjs
      refine ⟨by omega, cv_num (hNt.next _), by rw [het]; simp [rowD], by simp [hat], ?_, ?_⟩
      ·rw [← ht3, hjs]; simp
      ·rw [← ht4, hjs]
   ·skip
    refine zE hG [] (.exit 4) (⟨[zX 0 0 0, zX 2 100 0, zX 3 201 0, zI 4 (nxV l k 4), zY 5 9001 0, zI 7 (nxV l kk 5), zI 8 (i : Int), zY 9 9004 0], [(0, y10 (intsD l) kt), (100, y11), (201, y15), (9001, .arr 0 3 1 (ek)), (9002, .arr 0 9 1 (ec)), (9003, .arr 0 33 1 (er)), (9004, .arr 0 30 7 (et))]⟩) aA rfl ?_
    refine fU hG (⟨[zX 0 0 0, zX 2 100 0, zX 3 201 0, zI 4 (nxV l k 4), zY 5 9001 0, zI 7 (nxV l kk 5), zI 8 (i : Int), zM 9 7 (et)], [(0, y10 (intsD l) kt), (100, y11), (201, y15), (9001, .arr 0 3 1 (ek)), (9002, .arr 0 9 1 (ec)), (9003, .arr 0 33 1 (er))]⟩) (by kernel_rfl) ?_
    refine zD hG [] (i + 1, er ++ [[D.sl 7 et]], accr ++ [acct], kt) (aC (by intros; (try simp only [iJ] at *); (try simp only [dB] at *); omega : ((er).length + (([[.sl 7 (et)]] : List (List D))).length) * (24 + 1) ≤ 140737488355328) (aB (by intros; (try simp only [iJ] at *); (try simp only [dB] at *); omega : inR ((i : Int) + 1)))) ?_ ?_
    ·(try dsimp only); omega
    ·have hjs := rs_step (l := l) (kds := (tbK l k).1) (kk := kr) (N := (nxV l (tbK l k).2 5).toNat) (j := i) (by omega)
     have hz : (tbK l k).1.drop c = [] := List.drop_eq_nil_of_le (by omega)
     rw [hz] at ht3 ht4
     simp only [rwM, List.append_nil] at ht3 ht4
     refine ⟨by omega, hNt, ?_, by simp [har], ?_, ?_⟩
     ·rw [her, het]; simp [rowsD, fK]
     ·rw [← hr3, hjs, ← ht3, ← ht4]; simp
     ·rw [← hr4, hjs, ← ht4]
  ·skip
   refine zE hG [] (.exit 2) (⟨[zX 2 100 0, zX 3 201 0], [(0, y10 (intsD l) kr), (100, y11), (201, y15), (9002, .arr 0 9 1 (ec)), (9003, .arr 0 33 1 (er))]⟩) aA rfl ?_
   refine zR hG [] [] (y12 (ec) (er)) [(0, y10 (intsD l) kr)] aA ?_ ?_
   ·have hzr : (nxV l (tbK l k).2 5).toNat - i = 0 := by omega
    rw [hzr] at hr3
    simp only [rsM, List.append_nil] at hr3
    have f1 : (tbM l k).1.rows = accr := hr3.symm
    have f2 : (tbM l k).1.cols = abcL.take j := by rw [hjm]; rfl
    rw [f1, f2, hec, her]
   ·have hzr : (nxV l (tbK l k).2 5).toNat - i = 0 := by omega
    rw [hzr] at hr4
    simp only [rsM] at hr4
    have f1 : (tbM l k).2 = kr := hr4.symm
    rw [f1]
theorem yX (l : List Int) (k kind : Int) (h : NumOk l k) (hk : kind = 5) :
  SpG g 34 [.c (.bx 0 0), .c (cI kind)] [(0, y10 (intsD l) k)] (.agg (zV ((tbM l k).1))) [(0, y10 (intsD l) ((tbM l k).2))] := by
 refine aG 45 Tryz.func34 (by kernel_rfl) fun fr hG => ?_
 refine zP hG [] [1, 0, 1, 0, 1] ((kind : Int) = 1) (⟨[zX 0 0 0, zI 1 kind, zX 4 100 0, zI 6 kind], [(0, y10 (intsD l) k), (100, y11)]⟩) aA (fun hc1 => ?_) (fun hc1 => ?_)
 ·skip
  exfalso; omega
 ·skip
  refine zp hG [] [1, 1, 1, 0, 1, 0, 1] ((kind : Int) = 2) aA (fun hc2 => ?_) (fun hc2 => ?_)
  ·skip
   exfalso; omega
  ·skip
   refine zp hG [] [1, 1, 1, 1, 1, 0, 1, 0, 1] ((kind : Int) = 3) aA (fun hc3 => ?_) (fun hc3 => ?_)
   ·skip
    exfalso; omega
   ·skip
    refine zp hG [] [1, 1, 1, 1, 1, 1, 1, 0, 1, 0, 1] ((kind : Int) = 4) aA (fun hc4 => ?_) (fun hc4 => ?_)
    ·skip
     exfalso; omega
    ·skip
     refine zP hG [] [1, 1, 1, 1, 1, 1, 1, 1, 1, 0, 1, 0, 1] ((kind : Int) = 5) (⟨[zX 0 0 0, zX 4 100 0], [(0, y10 (intsD l) k), (100, y11)]⟩) aA (fun hc5 => ?_) (fun hc5 => ?_)
     ·skip
      exact zr hG [(14, 1, .call (y12 (strs ((tbM l k).1.cols)) (rowsD ((tbM l k).1.rows))) [] [[.sl 1 (intsD l), .i ((tbM l k).2)]])] [] (aB (aCE l k (by (repeat (first | assumption | apply NumOk.next))) : SpG g _ _ _ _ _))
     ·skip
      exfalso; omega
theorem aCD (l : List Int) (k kind : Int) (h : NumOk l k) : SpG g 34 [.c (.bx 0 0), .c (cI kind)] [(0, y10 (intsD l) k)] (.agg (zV ((vlM l k kind).1))) [(0, .box 68 [cM 1 (intsD l), .d (.i (vlM l k kind).2)])] := by
 by_cases hk : kind = 5
 have := yX (g := g) l k kind h hk
 unfold vlM
 rw [if_pos hk]
 exact this
 have := oZ [none, none, none, none, none, some 1, some 1] (tX (g := g) l k kind h hk)
 unfold vlM
 rw [if_neg hk]
 exact this
theorem made_ok (l : List Int) :
  SpG g 11 [.c (cM 1 (intsD l))] [] (.agg (zV (aL l))) [] := by
 refine aG 11 Tryz.func11 (by kernel_rfl) fun fr hG => ?_
 refine bN 0 rfl fun hl => ?_
 exact zr hG [(2, 2, .call (.c (cI (nxV l 0 6))) [] [[.sl 1 (intsD l), .i (nxK l 0 6)]]), (2, 3, .call (.agg (zV ((vlM l (nxK l 0 6) (nxV l 0 6)).1))) [] [[.sl 1 (intsD l), .i ((vlM l (nxK l 0 6) (nxV l 0 6)).2)]])] [] (aC (cT l 0 6 (by have hN : NumOk l 0 := ⟨by omega, by omega, by simp only [intsD, List.length_map, maxLen] at hl; omega⟩; (repeat (first | assumption | apply NumOk.next))) (by decide) : SpG g _ _ _ _ _) (aB (aCD l (nxK l 0 6) (nxV l 0 6) (by have hN : NumOk l 0 := ⟨by omega, by omega, by simp only [intsD, List.length_map, maxLen] at hl; omega⟩; (repeat (first | assumption | apply NumOk.next))) : SpG g _ _ _ _ _)))
end Go.Proofs.YtmpgfchkkemngaaGreatDoor
namespace Go.Proofs.YtmpgfchkkemngaaGreatDoor
open Go.ChangeShapes Go.WideShapes Go.ChangeAt Go.RowKit Go.V
theorem own : ownKnob Tryz.prog.godebug = none := by kernel_rfl
theorem laidOut : laidOutB Tryz.prog = true := by kernel_rfl
theorem mS {W : World} {name : String} {b : Nat} {cs : Array Value} (hg : Tryz.prog.globalNamed name = some b) (h : W.var? Tryz.prog name = some cs) : ∃ ty fz, W.heap[b]? = some (.cells cs ty fz) := by
 unfold World.var? at h
 rw [hg, Option.bind_some] at h
 split at h
 rename_i c t f e
 cases h
 exact ⟨_, _, e⟩
 cases h
theorem w6 {P : Program} {w : World} {r : Reach} {b : Nat} {t : TypeId} {v : Value} {k : IntKind} (h : P.underlying t = some (.int k)) (hc : Cell.ok P w r b t v) : ∃ n, v = .int k n := by
 unfold Cell.ok at hc
 rw [h] at hc
 cases v <;> simp at hc
 exact ⟨_, by rw [hc.1]⟩
theorem zero0 : ((begin Tryz.prog (fun _ _ => 0) default).world.heap[0]?).bind Obj.row? = some (#[.int .i64 0], 3) := by kernel_rfl
theorem globs : Tryz.prog.globals.size = 10 := by kernel_rfl
theorem int_var {P : Program} {W : World} {b : Nat} {t : TypeId} {zero : Array Value} (h : W.ShapedOpen P) (hb : b < P.globals.size) (hz : ((begin P (fun _ _ => 0) default).world.heap[b]?).bind Obj.row? = some (zero, t)) (h1 : zero.size = 1)
  (hB : P.buildable t = true) (hts : P.cellTypes P.depth t = some [t]) (hu : P.underlying t = some (.int .i64)) : ∃ n : Int, ∃ ty fz, W.heap[b]? = some (.cells #[.int .i64 n] ty fz) := by
 obtain ⟨cs, hb, hs, hr⟩ := h.1 b _ _ hb hz
 obtain ⟨ts, hts', _, hall⟩ := hr hB
 obtain rfl := Option.some.inj (hts.symm.trans hts')
 obtain ⟨l⟩ := cs
 rw [h1] at hs
 match l, hs, hb, hall with
 | [v], _, hb, hall =>
  obtain ⟨u, hu', hc⟩ := hall 0 v rfl
  obtain rfl : t = u := by simpa using hu'
  obtain ⟨n, rfl⟩ := w6 hu hc
  exact ⟨n, _, _, hb⟩
theorem aIY {W : World} (h : W.ShapedOpen Tryz.prog) : ∃ n : Int, ∃ ty fz, W.heap[0]? = some (.cells #[.int .i64 n] ty fz) :=
 int_var h (by rw [globs]; decide) zero0 rfl (by kernel_rfl) (by kernel_rfl) (by kernel_rfl)
theorem pow_of {W : World} {r : List (String × DataW Unit)} (h : laidMet Tryz.prog (("internal/strconv.uint64pow10", Rows.laid_internal_strconv_uint64pow10) :: r) W) : ∃ ty fz, W.heap[2]? = some (.cells (powL.map (Value.int .u64)).toArray ty fz) :=
 mS (by kernel_rfl) (Lib.tabIs_of_head (k := .u64) (zs := powL) (t := 199) (e := 115) (n := 20) (g := 2) (by kernel_rfl) (by kernel_rfl) (by kernel_rfl) (by kernel_rfl) (by kernel_rfl) (by kernel_rfl) h)
theorem lens_of {W : World} {r : List (String × DataW Unit)} (h : laidMet Tryz.prog (("concord/date.lengths", Rows.laid_concord_date_lengths) :: r) W) : ∃ ty fz, W.heap[5]? = some (.cells (mlen.map (Value.int .i64)).toArray ty fz) :=
 mS (by kernel_rfl) (Lib.tabIs_of_head (k := .i64) (zs := mlen) (t := 207) (e := 3) (n := 12) (g := 5) (by kernel_rfl) (by kernel_rfl) (by kernel_rfl) (by kernel_rfl) (by kernel_rfl) (by kernel_rfl) h)
def aOD (W : World) (g : Gv) : Prop := ∀ b cs, (b, cs) ∈ Gl g → ∃ ty fz, W.heap[b]? = some (.cells cs.toArray ty fz)
def pl0 : Pl := ⟨fun _ => True, fun _ => 0, fun _ => (none, 0)⟩
theorem sh0 (b : Nat) : Sh pl0 (lookO []) b := ⟨trivial, fun i h => by simp [aQ, lookO] at h⟩
theorem call_of {g : Gv} {f : FuncId} {ins : List SV} {W : World} {args : List Value} (hS : SpG g f ins [] (.c (.d (.b true))) []) (hG : aOD W g)
  (ha : All2 (bS W pl0 (lookO [])) ins args) : Calls Tryz.prog f args.toArray W fun e W' => e = .returned (.bool true) ∧ Below W.heap.size W W' := by
 have fk : FrOk ⟨W, [], Gl g, fun _ => True, [], []⟩ := ⟨fun b cs h => ⟨hG b cs h, fun i h => by cases h⟩, fun i b h => (by cases h), fun i b h => (by cases h)⟩
 have m : Mem ⟨W, [], Gl g, fun _ => True, [], []⟩ (lookO []) W pl0 := by
  refine ⟨fk, fun b => ⟨fun _ => .inl trivial, fun _ => trivial⟩, fun i o h => (by cases h), fun i j b h => (by simp [aQ, lookO] at h), fun i b h => (by simp [aQ, lookO] at h), fun i b h => (by cases h), rfl, rfl, rfl, Nat.le_refl _, fun _ _ _ => rfl, fun i ty cs b h => (by cases h)⟩
 refine (hS ⟨W, [], Gl g, fun _ => True, [], []⟩ W pl0 args rfl ⟨rfl, rfl, fun _ => rfl⟩ m ha).mono ?_
 rintro e W' ⟨v, pl', rfl, m', hv⟩
 have hv : Rd W' _ (.b true) v := hv
 obtain rfl := Rd.exact hv
 exact ⟨rfl, m'.os, m'.tape, m'.output, m'.grow, fun k hk => m'.keep k hk fun i h => by cases h⟩
section
variable {H : Type} {enc : TypeId × Value → H} {P : Program} {W : World}
theorem aBD {r : Reach} {b : Nat} {t e : TypeId} {v : Value} (ht : P.underlying t = some (.slice e)) (h : Cell.ok P W r b t v) :
  v = .slice none 0 0 ∨ ∃ bl off len cap c ty fz, v = .slice (some ⟨bl, off, none⟩) len cap ∧ W.heap[bl]? = some (.cells c ty fz) := by
 unfold Cell.ok at h
 rw [ht] at h
 cases v <;> simp at h
 rename_i a len cap
 cases a with
 | none =>
  left
  cases len <;> cases cap <;> simp at h
  rfl
 | some a =>
  obtain ⟨hl, hc, _, hs, row, cells, hsh, _⟩ := (show len ≤ cap ∧ (cap : Int) ≤ IntKind.i64.max ∧ W.has P r b a e cap from h)
  obtain ⟨bl, off, sp⟩ := a
  obtain rfl : sp = none := hs
  unfold World.shape? at hsh
  split at hsh
  rename_i c ty fz e; exact .inr ⟨bl, off, len, cap, c, ty, fz, rfl, e⟩
  cases hsh
theorem aEK {r : Reach} {b : Nat} {t e : TypeId} {v : Value} (ht : P.underlying t = some (.slice e)) (h : Value.okWide P W r b t v) : Cell.ok P W r b t v := by
 unfold Value.okWide at h
 rw [ht] at h
 unfold Cell.okWide at h
 rw [ht] at h
 exact h
theorem one_cell {r : Reach} {b : Nat} {t e : TypeId} {v : Value} (ht : P.underlying t = some (.slice e)) (h : Cell.ok P W r b t v) : v.cells.toList = [v] := by
 rcases aBD ht h with rfl | ⟨_, _, _, _, _, _, _, rfl, _⟩ <;> rfl
theorem aME {r : Reach} {b : Nat} {t : TypeId} {v : Value} {k : IntKind} (h : P.underlying t = some (.int k)) (hc : Cell.okWide P W r b t v) : ∃ n, v = .int k n := by
 unfold Cell.okWide at hc
 rw [h] at hc
 exact w6 h hc
end
section
variable {P : Program} {W : World}
end
section
variable {H : Type} {enc : TypeId × Value → H} {P : Program} {W : World}
end
end Go.Proofs.YtmpgfchkkemngaaGreatDoor
namespace Go.Proofs.YtmpgfchkkemngaaGreatDoor
open Go.RowKit Go.V
open Go.Eng (inR byteAt u8 bH)
variable {g : Gv}
def mH (c : UInt8) : List UInt8 := if c = 39 then [39, 39] else [c]
def bT (l : List UInt8) : List UInt8 := l.flatMap mH
def oA (l : List UInt8) : List UInt8 := [39] ++ bT l ++ [39]
def aJ3 := And.intro @List.length_append.{0} (@List.length_cons.{0})
theorem pR : ∀ (l : List UInt8), (bT l).length ≤ 2 * l.length
 | [] => by simp [bT]
 | c :: l => by
  have := pR l
  have h1 : (mH c).length ≤ 2 := by unfold mH; split <;> simp
  simp only [aJ3, bT, List.flatMap_cons] at this ⊢
  omega
theorem xK {l : List UInt8} {k : Nat} (h : k < l.length) : bT (l.take (k + 1)) = bT (l.take k) ++ mH (l.getD k 0) := by
 have e : l.take (k + 1) = l.take k ++ [l.getD k 0] := by
  rw [List.take_add_one, List.getD_eq_getElem?_getD, List.getElem?_eq_getElem h]; rfl
 rw [e, bT, List.flatMap_append]
 simp [bT]
theorem jG (l : List UInt8) (a b : Nat) : (S l).extract a b = S ((l.take b).drop a) := by
 apply ByteArray.ext
 rw [ByteArray.data_extract]
 apply Array.ext'
 simp [S, List.drop_take, List.extract_eq_take_drop]
theorem dX {l : List UInt8} {k : Nat} (h : k < l.length) : (S l).extract k ((k : Int) + 1).toNat = S [l.getD k 0] := by
 have e : ((k : Int) + 1).toNat = k + 1 := by omega
 rw [e, jG]
 congr 1
 have e : l.take (k + 1) = l.take k ++ [l.getD k 0] := by
  rw [List.take_add_one, List.getD_eq_getElem?_getD, List.getElem?_eq_getElem h]; rfl
 have ht : (l.take k).length = k := by rw [List.length_take]; omega
 rw [e, List.drop_append_of_le_length (by omega), List.drop_of_length_le (by omega)]
 rfl
def joinL (sep : List UInt8) : List (List UInt8) → List UInt8
 | [] => []
 | [x] => x
 | x :: y :: r => x ++ sep ++ joinL sep (y :: r)
theorem uI (sep : List UInt8) : ∀ (l : List (List UInt8)) (x : List UInt8), l ≠ [] → joinL sep (l ++ [x]) = joinL sep l ++ sep ++ x
 | [], x, h => absurd rfl h
 | [y], x, _ => by simp [joinL]
 | y :: z :: r, x, _ => by
  have := uI sep (z :: r) x (by simp)
  simp only [List.cons_append, joinL] at this ⊢
  rw [this]
  simp
theorem kY {sep : List UInt8} {l : List (List UInt8)} {k : Nat} (h : k < l.length) : joinL sep (l.take (k + 1)) = joinL sep (l.take k) ++ (if k = 0 then [] else sep) ++ l.getD k [] := by
 have e : l.take (k + 1) = l.take k ++ [l.getD k []] := by
  rw [List.take_add_one, List.getD_eq_getElem?_getD, List.getElem?_eq_getElem h]; rfl
 rw [e]
 split
 rename_i h0; subst h0; simp [joinL]
 rename_i h0
 exact uI sep _ _ (by intro hh; have := congrArg List.length hh; rw [List.length_take, List.length_nil] at this; omega)
def iQ (sep : Nat) (l : List (List UInt8)) : Nat := (l.map fun x => x.length + sep).sum
theorem gK (sep : List UInt8) : ∀ (l : List (List UInt8)), (joinL sep l).length ≤ iQ sep.length l
 | [] => by simp [joinL, iQ]
 | [x] => by simp [joinL, iQ]
 | x :: y :: r => by
  have := gK sep (y :: r)
  simp only [joinL, iQ, List.map_cons, List.sum_cons, List.length_append] at this ⊢
  omega
theorem qF {n : Nat} : ∀ (l : List (List UInt8)) (k : Nat), iQ n (l.take k) ≤ iQ n l
 | [], k => by simp
 | x :: l, 0 => by simp [iQ]
 | x :: l, k + 1 => by
  have := qF (n := n) l k
  simp only [iQ, List.take_succ_cons, List.map_cons, List.sum_cons] at this ⊢
  omega
theorem cEq {l : List UInt8} {k : Nat} (h : ((l.getD k 0).toNat : Int) = 39) : l.getD k 0 = 39 := by
 have : (l.getD k 0).toNat = 39 := by omega
 exact UInt8.toNat_inj.1 this
theorem cNe {l : List UInt8} {k : Nat} (h : ¬ ((l.getD k 0).toNat : Int) = 39) : ¬ l.getD k 0 = 39 := fun e => h (by rw [e]; rfl)
def nP := And.intro @aF (And.intro @blS (@cO))
def aAV := And.intro @List.length_append.{0} (And.intro @List.length_cons.{0} (And.intro @List.length_nil.{0} (And.intro @bI (And.intro @aF (And.intro @Go.Eng.inR.eq_1 (@maxLen.eq_1))))))
theorem aIF (s : List UInt8) (h : s.length ≤ 1000000) :
  SpG g 54 [.c (cS (S s))] [] (.c (cS (S (oA s)))) [] := by
 refine aG 26 Tryz.func54 (by kernel_rfl) fun fr hG => ?_
 refine zL hG [] [0, 1, 0, 1, 1] (fun (zz : ByteArray × Nat) => match zz with | (o, k) => (s.length - k, ⟨[zS 0 (S s), zS 2 (S []), zS 3 o, zI 4 (k : Int)], []⟩, k ≤ s.length ∧ o = S ([39] ++ bT (s.take k)))) (S [39], 0) aA ?_ ?_
 exact ⟨Nat.zero_le _, by simp [bT]⟩
 rintro ⟨o, k⟩ ⟨hk, ho⟩
 have hl := pR (s.take k)
 have ht : (s.take k).length = k := by simp; omega
 refine zc hG [] [1, 0] (decide (((k : Int) : Int) < ((S s).size : Int))) aA (fun hc2 => ?_) (fun hc2 => ?_)
 (try simp only [nP, Int.toNat_natCast] at hc2)
 refine zC hG [] [1, 1, 0, 0, 1] (decide ((byteAt (S s) (k : Int) : Int) = 39)) (⟨[zS 0 (S s), zS 2 (S []), zS 3 (o ++ ((S s).extract k ((k : Int) + 1 : Int).toNat)), zI 4 (k : Int)], []⟩) (aC (by intros; (try rw [dX (by (try simp only [aF] at *); omega)]); (try rw [ho]); (try simp only [aAV] at *); omega : inR ((k : Int) + 1)) (aC (by intros; (try rw [dX (by (try simp only [aF] at *); omega)]); (try rw [ho]); (try simp only [aAV] at *); omega : (0 : Int) ≤ (k : Int) ∧ ((k : Int) : Int) ≤ ((k : Int) + 1) ∧ ((k : Int) + 1) ≤ ((S s).size : Int)) (aC (by intros; (try rw [dX (by (try simp only [aF] at *); omega)]); (try rw [ho]); (try simp only [aAV] at *); omega : (o).size + ((S s).extract k ((k : Int) + 1 : Int).toNat).size ≤ maxLen) (aB (by intros; (try rw [dX (by (try simp only [aF] at *); omega)]); (try rw [ho]); (try simp only [aAV] at *); omega : (0 : Int) ≤ (k : Int) ∧ (k : Int) < ((S s).size : Int)))))) (fun hc3 => ?_) (fun hc3 => ?_)
 (try simp only [nP, Int.toNat_natCast] at hc3)
 refine zD hG [] ((o ++ ((S s).extract k ((k : Int) + 1 : Int).toNat)) ++ (S [39]), k + 1) (aC (by intros; (try rw [dX (by (try simp only [aF] at *); omega)]); (try rw [ho]); (try simp only [aAV] at *); omega : (o ++ ((S s).extract k ((k : Int) + 1 : Int).toNat)).size + (S [39]).size ≤ maxLen) (aB (by intros; (try rw [dX (by (try simp only [aF] at *); omega)]); (try rw [ho]); (try simp only [aAV] at *); omega : inR ((k : Int) + 1)))) ?_ ?_
 (try dsimp only); omega
 refine ⟨by omega, ?_⟩
 rw [dX (by omega), ho, bI, bI, xK (by omega)]
 rw [mH, if_pos (cEq hc3), cEq hc3]; simp
 (try simp only [nP, Int.toNat_natCast] at hc3)
 refine zD hG [] (o ++ ((S s).extract k ((k : Int) + 1 : Int).toNat), k + 1) (aB (by intros; (try rw [dX (by (try simp only [aF] at *); omega)]); (try rw [ho]); (try simp only [aAV] at *); omega : inR ((k : Int) + 1))) ?_ ?_
 (try dsimp only); omega
 refine ⟨by omega, ?_⟩
 rw [dX (by omega), ho, bI, xK (by omega)]
 rw [mH, if_neg (cNe hc3)]; simp
 (try simp only [nP, Int.toNat_natCast] at hc2)
 refine zE hG [] (.exit 0) (⟨[zS 2 (S []), zS 3 o], []⟩) aA rfl ?_
 refine zR hG [] [] (.c (cS (o ++ (S [39])))) [] (aB (by intros; (try rw [dX (by (try simp only [aF] at *); omega)]); (try rw [ho]); (try simp only [aAV] at *); omega : (o).size + (S [39]).size ≤ maxLen)) ?_ ?_
 have : s.take k = s := List.take_of_length_le (by omega)
 rw [ho, this, bI]; rfl
 rfl
def aJ2 := And.intro @List.length_append.{0} (And.intro @List.length_cons.{0} (And.intro @List.length_map.{0, 0} (And.intro @List.length_nil.{0} (And.intro @bI (And.intro @aF (And.intro @Go.Eng.inR.eq_1 (And.intro @maxLen.eq_1 (@strs.eq_1))))))))
theorem qV (l : List (List UInt8)) (sep : List UInt8) (h : iQ sep.length l ≤ 1000000000) :
  SpG g 57 [.c (cM 1 (strs l)), .c (cS (S sep))] [] (.c (cS (S (joinL sep l)))) [] := by
 refine aG 25 Tryz.func57 (by kernel_rfl) fun fr hG => ?_
 refine bN 0 rfl fun hl0 => ?_
 refine zL hG [] [0, 1, 0, 1, 1] (fun (zz : ByteArray × Nat) => match zz with | (o, k) => (l.length - k, ⟨[zM 0 1 (strs l), zS 1 (S sep), zS 4 (S []), zS 5 o, zI 6 (k : Int)], []⟩, k ≤ l.length ∧ o = S (joinL sep (l.take k)))) (S [], 0) aA ?_ ?_
 exact ⟨Nat.zero_le _, rfl⟩
 rintro ⟨o, k⟩ ⟨hk, ho⟩
 have hj := gK sep (l.take k)
 have hj2 := gK sep (l.take (k + 1))
 have ht := qF (n := sep.length) l k
 have ht2 := qF (n := sep.length) l (k + 1)
 refine zc hG [] [1, 0] (decide (((k : Int) : Int) < ((strs l).length : Int))) aA (fun hc2 => ?_) (fun hc2 => ?_)
 (try simp only [zq3] at hc2)
 refine zc hG [] [1, 0, 0, 0, 1] (decide (((k : Int) : Int) > 0)) aA (fun hc3 => ?_) (fun hc3 => ?_)
 (try simp only [zq3] at hc3)
 have hjj := kY (sep := sep) (l := l) (k := k) (by omega)
 have hjl := congrArg List.length hjj
 rw [if_neg (by omega)] at hjl
 simp only [List.length_append, List.length_nil] at hjl
 refine zD hG [(7, 3, .elem (cH ((l).getD k [])))] ((o ++ (S sep)) ++ (S ((l).getD k [])), k + 1) (aC (by intros; (try rw [ho]); (try simp only [aJ2] at *); omega : (o).size + (S sep).size ≤ maxLen) (aC (by intros; exact aY [] (by omega) (by (try simp only [zq4] at *); omega) : (0 : Int) ≤ (k : Int) ∧ (strs l)[k]? = some (cH ((l).getD k []))) (aC (by intros; (try rw [ho]); (try simp only [aJ2] at *); omega : (o ++ (S sep)).size + (S ((l).getD k [])).size ≤ maxLen) (aB (by intros; (try rw [ho]); (try simp only [aJ2] at *); omega : inR ((k : Int) + 1)))))) ?_ ?_
 (try simp only [zq4] at *); (try dsimp only); omega
 refine ⟨by omega, ?_⟩
 rw [ho, bI, bI, kY (by omega), if_neg (by omega)]
 (try simp only [zq3] at hc3)
 have hjj := kY (sep := sep) (l := l) (k := k) (by omega)
 have hjl := congrArg List.length hjj
 rw [if_pos (by omega)] at hjl
 simp only [List.length_append, List.length_nil] at hjl
 refine zD hG [(7, 3, .elem (cH ((l).getD k [])))] (o ++ (S ((l).getD k [])), k + 1) (aC (by intros; exact aY [] (by omega) (by (try simp only [zq4] at *); omega) : (0 : Int) ≤ (k : Int) ∧ (strs l)[k]? = some (cH ((l).getD k []))) (aC (by intros; (try rw [ho]); (try simp only [aJ2] at *); omega : (o).size + (S ((l).getD k [])).size ≤ maxLen) (aB (by intros; (try rw [ho]); (try simp only [aJ2] at *); omega : inR ((k : Int) + 1))))) ?_ ?_
 (try simp only [zq4] at *); (try dsimp only); omega
 refine ⟨by omega, ?_⟩
 rw [ho, bI, kY (by omega), if_pos (by omega)]
 simp
 (try simp only [zq3] at hc2)
 refine zE hG [] (.exit 0) (⟨[zS 4 (S []), zS 5 o], []⟩) aA rfl ?_
 refine zR hG [] [] (.c (cS o)) [] aA ?_ ?_
 have : l.take k = l := List.take_of_length_le (by omega)
 rw [ho, this]
 rfl
end Go.Proofs.YtmpgfchkkemngaaGreatDoor
namespace Go.Proofs.YtmpgfchkkemngaaGreatDoor
open Go.RowKit Go.V
open Go.Eng (inR byteAt u8 bH)
variable {g : Gv}
theorem vY (c : Cl) (hs : c.s.length ≤ maxLen) (hk : ¬ c.kind = 5) : SpG g 14 [lJ c] [] (.c (cB (aV false c.toV))) [] := by
 have h := rO (g := g) c.toV _ hs (tM [] [] (fun t ht => by cases ht) (fun c ⟨r, hr, _⟩ => by cases hr))
 have e : aV (cK [] []) c.toV = aV false c.toV := by
  have : c.toV.kind = c.kind := rfl
  simp [aV, this, hk]
 rw [e] at h
 exact h
theorem l4 (v : Vl) (h : v.fit) : SpG g 14 [qB v] [] (.c (cB (aU v))) [] :=
 rO v _ h.s (tM v.cols v.rows h.cols fun c ⟨r, hr, hc⟩ hk => vY c (h.cells r hr c hc) hk)
noncomputable def gD (kind : Int) (s : List UInt8) (dn ds n : Int) : List UInt8 :=
 if kind = 0 then 33 :: dec2 n
 else if kind = 1 then oA s
 else if kind = 2 then 35 :: bU dn ds
 else if kind = 3 then 64 :: aR n
 else 63 :: dec2 n
noncomputable def bB (c : Cl) : List UInt8 := gD c.kind c.s c.dn c.ds c.n
noncomputable def fP (r : List Cl) : List UInt8 := 59 :: joinL [44] (r.map bB)
noncomputable def cG (v : Vl) : List UInt8 := if v.kind = 5 then [91] ++ joinL [44] v.cols ++ v.rows.flatMap fP ++ [93] else gD v.kind v.s v.dn v.ds v.n
noncomputable def aW (v : Vl) : List UInt8 := if aU v then cG v else []
def sP := And.intro @aF (@decide_eq_true_eq)
theorem mD {l : List UInt8} (h : eQ l = true) : l.length ≤ 200 := by
 simp only [sP, eQ, iE, Bool.and_eq_true] at h; omega
theorem aCR {l : List UInt8} (h : bW l = true) : l.length ≤ 20 := by
 simp only [sP, bW, dG, Bool.and_eq_true] at h; omega
theorem uY (n : Int) : (dec2 n).length ≤ 2 := by unfold dec2; split <;> simp
theorem lE (n : Int) : (aR n).length ≤ 17 := by
 have l1 := iX 5 (civ n).1 4 []
 have l2 := iX 5 (civ n).2.1 2 []
 have l3 := iX 5 (civ n).2.2 2 []
 simp only [dB, aR] at *; omega
theorem uW {n s : Int} (h : cZ n s = true) : (bU n s).length ≤ 30 := by
 obtain ⟨h0, h1, h2, h3, _⟩ := fG h
 have hp := aB5 (k := s.toNat) (by omega)
 have hq : n.natAbs / 10 ^ s.toNat ≤ n.natAbs := Nat.div_le_self _ _
 have a1 := gY (n := n.natAbs / 10 ^ s.toNat) (k := 16) (by omega) (by decide)
 have hm : n.natAbs % 10 ^ s.toNat < 10 ^ s.toNat := Nat.mod_lt _ (by omega)
 have a2 := gY (n := 10 ^ s.toNat + n.natAbs % 10 ^ s.toNat) (k := 8) (by omega) (by decide)
 unfold bU
 simp only [List.length_append]
 split <;> split <;> simp only [List.length_append, List.length_cons, List.length_nil, List.length_drop] <;> omega
theorem aK7 (l : List UInt8) : (oA l).length ≤ 2 * l.length + 2 := by
 have := pR l
 simp only [dB, oA]; omega
theorem x9 {T : Bool} {v : Vl} (h : aV T v = true) (hk : ¬ v.kind = 5) : (gD v.kind v.s v.dn v.ds v.n).length ≤ 402 := by
 have a1 := uY v.n
 have a2 := lE v.n
 unfold gD
 unfold aV at h
 split
 simp only [List.length_cons]; omega
 split
 rename_i h0 h1
 rw [if_neg h0, if_pos h1, Bool.and_eq_true] at h
 have := mD h.1
 have := aK7 v.s
 omega
 split
 rename_i h0 h1 h2
 rw [if_neg h0, if_neg h1, if_pos h2, Bool.and_eq_true] at h
 have := uW h.1
 simp only [List.length_cons]; omega
 split
 simp only [List.length_cons]; omega
 simp only [List.length_cons]; omega
theorem oY {n m : Nat} : ∀ {l : List (List UInt8)}, (∀ t ∈ l, t.length ≤ m) → iQ n l ≤ l.length * (m + n)
 | [], _ => by simp [iQ]
 | x :: l, h => by
  have := oY (n := n) (m := m) (l := l) fun t ht => h t (List.mem_cons_of_mem _ ht)
  have := h x List.mem_cons_self
  simp only [iQ, List.map_cons, List.sum_cons, List.length_cons, Nat.add_mul] at *
  omega
theorem eC {cols : List (List UInt8)} {rows : List (List Cl)} (h : cK cols rows = true) : cols.length ≤ 8 ∧ rows.length ≤ 100 ∧ (∀ t ∈ cols, bW t = true) ∧ (∀ r ∈ rows, r.length = cols.length ∧ ∀ c ∈ r, ¬ c.kind = 5 ∧ aV false c.toV = true) := by
 simp only [cK, Bool.and_eq_true, decide_eq_true_eq] at h
 obtain ⟨⟨⟨h1, h2⟩, h3⟩, h4⟩ := h
 refine ⟨h1, h2, fun t ht => ?_, fun r hr => ?_⟩
 obtain ⟨i, hi, rfl⟩ := List.mem_iff_getElem.1 ht
 have := gE h3 hi
 simp only [nameAt, Bool.and_eq_true] at this
 simpa [hi] using this.1
 obtain ⟨i, hi, rfl⟩ := List.mem_iff_getElem.1 hr
 have := gE h4 hi
 simp only [rowAt, Bool.and_eq_true, decide_eq_true_eq] at this
 have e : rows.getD i [] = rows[i] := by simp [hi]
 rw [e] at this
 refine ⟨this.1, fun c hc => ?_⟩
 obtain ⟨j, hj, rfl⟩ := List.mem_iff_getElem.1 hc
 have h5 := gE this.2 hj
 simp only [cellAt, Bool.and_eq_true, Bool.not_eq_true', decide_eq_false_iff_not] at h5
 have e : rows[i].getD j Cl.z = rows[i][j] := by simp [hj]
 rw [e] at h5
 exact h5
theorem bV {v : Vl} (h : aU v = true) (hk : v.kind = 5) : cK v.cols v.rows = true := by
 simp only [aU, aV, hk] at h
 simp at h
 exact h.1
theorem lZ {v : Vl} (h : aU v = true) : v.kind = 0 ∨ v.kind = 1 ∨ v.kind = 2 ∨ v.kind = 3 ∨ v.kind = 4 ∨ v.kind = 5 := by
 simp only [aU, aV] at h
 repeat (split at h; (· simp [*]))
 cases h
theorem tF {v : Vl} (h : aU v = true) : (v.kind = 0 → 0 ≤ v.n ∧ v.n ≤ 99) ∧ (v.kind = 1 → v.s.length ≤ 200) ∧ (v.kind = 2 → cZ v.dn v.ds = true) ∧ (v.kind = 3 → 0 ≤ v.n ∧ v.n ≤ 3652058) ∧ (v.kind = 4 → 0 ≤ v.n ∧ v.n ≤ 1) := by
 simp only [aU] at h
 refine ⟨fun k => ?_, fun k => ?_, fun k => ?_, fun k => ?_, fun k => ?_⟩ <;> simp [aV, k] at h
 exact ⟨h.1.1, h.1.2⟩
 exact mD h.1
 exact h.1
 exact ⟨h.1.1, h.1.2⟩
 omega
theorem iI {α : Type} (z : α) {l : List α} {k : Nat} (h : k < l.length) : l.take (k + 1) = l.take k ++ [l.getD k z] := by
 rw [List.take_add_one, List.getD_eq_getElem?_getD, List.getElem?_eq_getElem h]; rfl
theorem mW {α : Type} (z : α) {f : α → List UInt8} {l : List α} {k : Nat} (h : k < l.length) : strs ((l.take (k + 1)).map f) = strs ((l.take k).map f) ++ [[D.s (S (f (l.getD k z)))]] := by
 rw [iI z h]; simp [strs, cH]
theorem lX {cols : List (List UInt8)} {rows : List (List Cl)} (h : cK cols rows = true) {r : List Cl} (hr : r ∈ rows) : iQ 1 (r.map bB) ≤ 3224 ∧ (fP r).length ≤ 3300 := by
 obtain ⟨h1, h2, h3, h4⟩ := eC h
 have a := oY (n := 1) (m := 402) (l := r.map bB) (fun t ht => by
  obtain ⟨c, hc, rfl⟩ := List.mem_map.1 ht
  exact x9 (v := c.toV) ((h4 r hr).2 c hc).2 ((h4 r hr).2 c hc).1)
 have b := gK [44] (r.map bB)
 have := (h4 r hr).1
 rw [List.length_map] at a
 have e : iQ ([44] : List UInt8).length (r.map bB) = iQ 1 (r.map bB) := rfl
 have : r.length * (402 + 1) ≤ 8 * 403 := Nat.mul_le_mul (by omega) (by omega)
 simp only [fP, List.length_cons]
 omega
theorem aMN {rows : List (List Cl)} {m : Nat} : (∀ r ∈ rows, (fP r).length ≤ m) → (rows.flatMap fP).length ≤ rows.length * m := by
 induction rows with
 | nil => intro; simp
 | cons r rows ih =>
  intro h
  have := ih fun r hr => h r (List.mem_cons_of_mem _ hr)
  have := h r List.mem_cons_self
  simp only [aJ3, List.flatMap_cons, Nat.add_mul]
  omega
theorem qX {cols : List (List UInt8)} {rows : List (List Cl)} (h : cK cols rows = true) (k : Nat) : ((rows.take k).flatMap fP).length ≤ 330000 := by
 have a := aMN (rows := rows.take k) (m := 3300) fun r hr => (lX h (List.mem_of_mem_take hr)).2
 have : (rows.take k).length ≤ 100 := by have := (eC h).2.1; rw [List.length_take]; omega
 have : (rows.take k).length * 3300 ≤ 100 * 3300 := Nat.mul_le_mul_right _ this
 omega
theorem i7 {cols : List (List UInt8)} {rows : List (List Cl)} (h : cK cols rows = true) : iQ 1 cols ≤ 168 ∧ (joinL [44] cols).length ≤ 168 := by
 obtain ⟨h1, h2, h3, h4⟩ := eC h
 have a := oY (n := 1) (m := 20) (l := cols) (fun t ht => aCR (h3 t ht))
 have b := gK [44] cols
 have e : iQ ([44] : List UInt8).length cols = iQ 1 cols := rfl
 have : cols.length * (20 + 1) ≤ 8 * 21 := Nat.mul_le_mul (by omega) (by omega)
 omega
theorem xE {rows : List (List Cl)} {k : Nat} (h : k < rows.length) : (rows.take (k + 1)).flatMap fP = (rows.take k).flatMap fP ++ (59 :: joinL [44] ((rows.getD k []).map bB)) := by
 rw [iI [] h, List.flatMap_append]; simp [fP]
theorem lY {v : Vl} (h : aU v = true) (hk : ¬ v.kind = 5) : v.rows = [] := by
 simp only [aU, aV, if_neg hk] at h
 repeat (split at h; (· simp [bZ] at h; simp [h]))
 cases h
theorem wI (v : Vl) : (aW v).length ≤ 400000 := by
 unfold aW
 split
 rename_i h
 unfold cG
 split
 rename_i hk
 have hT := bV h hk
 have a := (i7 hT).2
 have b := qX hT v.rows.length
 rw [List.take_length] at b
 simp only [dB]; omega
 rename_i hk
 have := x9 h hk
 omega
 simp
noncomputable def aD (l : List Vl) : List UInt8 := if l.length ≤ 8 ∧ mO l.length (fun j => aU (l.getD j Vl.z)) = true then joinL [124] (l.map aW) else []
theorem nS {l : List Vl} (h : ¬ l.length ≤ 8) : aD l = [] := by simp [aD, h]
theorem o4 {l : List Vl} {k : Nat} (hk : k < l.length) (h : aU (l.getD k Vl.z) = false) : aD l = [] := by
 rw [aD, jE (p := fun j => aU (l.getD j Vl.z)) hk h]; simp
theorem lW {l : List Vl} (h : l.length ≤ 8) (hn : ∀ j, j < l.length → aU (l.getD j Vl.z) = true) : aD l = joinL [124] (l.map aW) := by
 rw [aD, if_pos ⟨h, gO hn⟩]
theorem wH {l : List Vl} (h : l.length ≤ 8) : iQ ([124] : List UInt8).length (l.map aW) ≤ 1000000000 := by
 have a := oY (n := ([124] : List UInt8).length) (m := 400000) (l := l.map aW) (fun t ht => by obtain ⟨v, _, rfl⟩ := List.mem_map.1 ht; exact wI v)
 rw [List.length_map] at a
 have : l.length * (400000 + ([124] : List UInt8).length) ≤ 8 * 400001 := Nat.mul_le_mul h (by simp)
 omega
def gS := And.intro @List.length_append.{0} (And.intro @List.length_cons.{0} (And.intro @List.length_map.{0, 0} (And.intro @List.length_nil.{0} (And.intro @bI (And.intro @aF (And.intro @Go.Eng.inR.eq_1 (And.intro @maxLen.eq_1 (And.intro @rowD.eq_1 (And.intro @rowsD.eq_1 (And.intro @strs.eq_1 (@valsD.eq_1)))))))))))
theorem yR (r : List Cl) (hl : r.length ≤ 1000) (hT : ∀ c, c ∈ r → SpG g 17 [lJ c] [] (.c (cS (S (bB c)))) []) :
  SpG g 58 [.c (cM 7 (rowD r))] [] (.c (cM 1 (strs (r.map bB)))) [] := by
 refine aG 20 Tryz.func58 (by kernel_rfl) fun fr hG => ?_
 refine bN 0 rfl fun hl0 => ?_
 refine zA hG [] [0, 1, 0, 1, 1] (⟨[zM 0 7 (rowD r), zN 2, zN 3, zI 4 0], []⟩) [(3, 9001, 9, 1)] [] (fun (zz : Nat × List (List D)) => match zz with | (k, es) => (r.length - k, ⟨[zM 0 7 (rowD r), zN 2, zY 3 9001 0, zI 4 (k : Int)], [(9001, .arr 0 9 1 (es))]⟩, k ≤ r.length ∧ es = strs ((r.take k).map bB))) (0, []) aA ?_ ?_
 exact ⟨Nat.zero_le _, rfl⟩
 rintro ⟨k, es⟩ ⟨hk, hes⟩
 have hlen : es.length = k := by rw [hes, strs, List.length_map, List.length_map, List.length_take]; omega
 refine zc hG [] [1, 0] (decide (((k : Int) : Int) < ((rowD r).length : Int))) aA (fun hc2 => ?_) (fun hc2 => ?_)
 (try simp only [zq3] at hc2)
 refine zD hG [(5, 3, .elem (ClD ((r).getD k Cl.z))), (5, 5, kS (S (bB ((r).getD k Cl.z))))] (k + 1, es ++ [[D.s (S (bB (r.getD k Cl.z)))]]) (aC (by intros; exact aY _ (by omega) (by (try simp only [zq6] at *); omega) : (0 : Int) ≤ (k : Int) ∧ (rowD r)[k]? = some (ClD ((r).getD k Cl.z))) (aC (hT ((r).getD k Cl.z) (bO (by omega)) : SpG g _ _ _ _ _) (aC (by intros; (try simp only [gS] at *); omega : ((es).length + ([[.s (S (bB ((r).getD k Cl.z)))]] : List (List D)).length) * (16 + 1) ≤ 140737488355328) (aB (by intros; (try simp only [gS] at *); omega : inR ((k : Int) + 1)))))) ?_ ?_
 (try dsimp only); omega
 refine ⟨by omega, ?_⟩
 rw [hes, mW Cl.z (by omega)]
 (try simp only [zq3] at hc2)
 refine zE hG [] (.exit 0) (⟨[zN 2, zY 3 9001 0], [(9001, .arr 0 9 1 (es))]⟩) aA rfl ?_
 refine zR hG [] [] (.c (cM 1 (es))) [] aA ?_ ?_
 have : r.take k = r := List.take_of_length_le (by omega)
 rw [hes, this]
 rfl
theorem l0 (v : Vl) (hr : aU v = true) (hf : v.fit) (hX : ∀ r, r ∈ v.rows → SpG g 58 [.c (cM 7 (rowD r))] [] (.c (cM 1 (strs (r.map bB)))) []) :
  SpG g 17 [.agg (zV v)] [] (.c (cS (S (cG v)))) [] := by
 obtain ⟨h0, h1, h2, h3, h4⟩ := tF hr
 have hkd := lZ hr
 have hfs := hf.s
 have a1 := uY v.n
 have a2 := lE v.n
 have a3 : v.kind = 2 → (bU v.dn v.ds).length ≤ 30 := fun k => uW (h2 k)
 have a4 : v.kind = 5 → (joinL [44] v.cols).length ≤ 168 := fun k => (i7 (bV hr k)).2
 refine aG 64 Tryz.func17 (by kernel_rfl) fun fr hG => ?_
 refine zC hG [(1, 1, kB (aU v))] [1, 0, 1, 1] (!(aU v)) (⟨[zX 1 100 0, zS 2 (S [])], [(100, .box 30 (zV v))]⟩) (aB (l4 v hf : SpG g _ _ _ _ _)) (fun hc1 => ?_) (fun hc1 => ?_)
 (try simp only [zq3, hr] at hc1)
 exact absurd hc1 (by simp [hr])
 (try simp only [zq3, hr] at hc1)
 refine zC hG [] [1, 0, 1, 0, 1, 1, 1] (decide ((v.kind : Int) = 0)) (⟨[zX 1 100 0, zS 2 (S []), zI 11 v.kind], [(100, .box 30 (zV v))]⟩) aA (fun hc2 => ?_) (fun hc2 => ?_)
 (try simp only [zq3, hr] at hc2)
 refine zR hG [(6, 2, kS (S (dec2 (v.n))))] [] (.c (cS ((S [33]) ++ (S (dec2 (v.n)))))) [] (aC (lC (v.n) (by omega) (by omega) : SpG g _ _ _ _ _) (aB (by intros; (try rw [ho]); (try simp only [gS] at *); omega : (S [33]).size + (S (dec2 (v.n))).size ≤ maxLen))) ?_ ?_
 rw [bI]; simp [cG, gD, hc2]
 rfl
 (try simp only [zq3, hr] at hc2)
 refine zc hG [] [1, 1, 1, 0, 1, 0, 1, 1, 1] (decide ((v.kind : Int) = 1)) aA (fun hc3 => ?_) (fun hc3 => ?_)
 (try simp only [zq3, hr] at hc3)
 refine zR hG [(8, 2, kS (S (oA (v.s))))] [] (.c (cS (S (oA (v.s))))) [] (aB (aIF (v.s) (by omega) : SpG g _ _ _ _ _)) ?_ ?_
 simp [cG, gD, hc3]
 rfl
 (try simp only [zq3, hr] at hc3)
 refine zc hG [] [1, 1, 1, 1, 1, 0, 1, 0, 1, 1, 1] (decide ((v.kind : Int) = 2)) aA (fun hc4 => ?_) (fun hc4 => ?_)
 (try simp only [zq3, hr] at hc4)
 refine zR hG [(10, 2, kS (S (bU v.dn v.ds)))] [] (.c (cS ((S [35]) ++ (S (bU v.dn v.ds))))) [] (aC (nW v.dn v.ds (by first | assumption | exact h2 hc4) : SpG g _ _ _ _ _) (aB (by intros; (try rw [ho]); (try simp only [gS] at *); omega : (S [35]).size + (S (bU v.dn v.ds)).size ≤ maxLen))) ?_ ?_
 rw [bI]; simp [cG, gD, hc4]
 rfl
 (try simp only [zq3, hr] at hc4)
 refine zc hG [] [1, 1, 1, 1, 1, 1, 1, 0, 1, 0, 1, 1, 1] (decide ((v.kind : Int) = 3)) aA (fun hc5 => ?_) (fun hc5 => ?_)
 (try simp only [zq3, hr] at hc5)
 refine zR hG [(12, 2, kS (S (aR (v.n))))] [] (.c (cS ((S [64]) ++ (S (aR (v.n)))))) [] (aC (tP (v.n) (by omega) (by omega) : SpG g _ _ _ _ _) (aB (by intros; (try rw [ho]); (try simp only [gS] at *); omega : (S [64]).size + (S (aR (v.n))).size ≤ maxLen))) ?_ ?_
 rw [bI]; simp [cG, gD, hc5]
 rfl
 (try simp only [zq3, hr] at hc5)
 refine zC hG [] [1, 1, 1, 1, 1, 1, 1, 1, 1, 0, 1, 0, 1, 1, 1] (decide ((v.kind : Int) = 4)) (⟨[zX 1 100 0, zS 2 (S [])], [(100, .box 30 (zV v))]⟩) aA (fun hc6 => ?_) (fun hc6 => ?_)
 (try simp only [zq3, hr] at hc6)
 refine zR hG [(14, 2, kS (S (dec2 (v.n))))] [] (.c (cS ((S [63]) ++ (S (dec2 (v.n)))))) [] (aC (lC (v.n) (by omega) (by omega) : SpG g _ _ _ _ _) (aB (by intros; (try rw [ho]); (try simp only [gS] at *); omega : (S [63]).size + (S (dec2 (v.n))).size ≤ maxLen))) ?_ ?_
 rw [bI]; simp [cG, gD, hc6]
 rfl
 (try simp only [zq3, hr] at hc6)
 refine zL hG [(15, 2, kS (S (joinL ([44]) (v.cols))))] [0, 1, 0, 1, 1, 1, 1, 1] (fun (zz : ByteArray × Nat) => match zz with | (o, k) => (v.rows.length - k, ⟨[zX 1 100 0, zS 2 (S []), zS 4 o, zI 5 (k : Int)], [(100, .box 30 (zV v))]⟩, k ≤ v.rows.length ∧ o = S ([91] ++ joinL [44] v.cols ++ (v.rows.take k).flatMap fP))) (S ([91] ++ joinL [44] v.cols), 0) (aC (qV (v.cols) ([44]) (Nat.le_trans (i7 (bV hr (by omega))).1 (by decide)) : SpG g _ _ _ _ _) (aB (by intros; (try rw [ho]); (try simp only [gS] at *); omega : (S [91]).size + (S (joinL ([44]) (v.cols))).size ≤ maxLen))) ?_ ?_
 exact ⟨Nat.zero_le _, by simp⟩
 rintro ⟨o, k⟩ ⟨hk, ho⟩
 have hT := bV hr (by omega)
 have b1 := (i7 hT).2
 have b2 := qX hT k
 have b3 := (eC hT).2.1
 have b4 : k < v.rows.length → (joinL [44] ((v.rows.getD k []).map bB)).length ≤ 3300 := fun hk => by have := (lX hT (bO (z := []) hk)).2; simp only [fP, List.length_cons] at this; omega
 refine zc hG [] [1, 0] (decide (((k : Int) : Int) < ((rowsD v.rows).length : Int))) aA (fun hc8 => ?_) (fun hc8 => ?_)
 (try simp only [zq3, hr] at hc8)
 refine zD hG [(19, 5, .elem (fK ((v.rows).getD k []))), (19, 7, kC (.c (cM 1 (strs (((v.rows).getD k []).map bB))))), (19, 8, kS (S (joinL ([44]) (((v.rows).getD k []).map bB))))] ((o ++ (S [59])) ++ (S (joinL ([44]) (((v.rows).getD k []).map bB))), k + 1) (aC (by intros; (try rw [ho]); (try simp only [gS] at *); omega : (o).size + (S [59]).size ≤ maxLen) (aC (by intros; exact aY _ (by omega) (by (try simp only [zq6] at *); omega) : (0 : Int) ≤ (k : Int) ∧ (rowsD v.rows)[k]? = some (fK ((v.rows).getD k []))) (aC (hX ((v.rows).getD k []) (bO (by omega)) : SpG g _ _ _ _ _) (aC (qV (((v.rows).getD k []).map bB) ([44]) (Nat.le_trans (lX (bV hr (by omega)) (bO (by omega))).1 (by decide)) : SpG g _ _ _ _ _) (aC (by intros; (try rw [ho]); (try simp only [gS] at *); omega : (o ++ (S [59])).size + (S (joinL ([44]) (((v.rows).getD k []).map bB))).size ≤ maxLen) (aB (by intros; (try rw [ho]); (try simp only [gS] at *); omega : inR ((k : Int) + 1)))))))) ?_ ?_
 (try dsimp only); omega
 refine ⟨by omega, ?_⟩
 rw [ho, xE (by omega)]
 simp [bI]
 (try simp only [zq3, hr] at hc8)
 refine zE hG [] (.exit 1) (⟨[zS 2 (S []), zS 4 o], []⟩) aA rfl ?_
 refine zR hG [] [] (.c (cS (o ++ (S [93])))) [] (aB (by intros; (try rw [ho]); (try simp only [gS] at *); omega : (o).size + (S [93]).size ≤ maxLen)) ?_ ?_
 have : v.kind = 5 := by omega
 have e : v.rows.take k = v.rows := List.take_of_length_le (by omega)
 rw [ho, e, bI]; simp [cG, this]
 rfl
theorem aER (v : Vl) (hr : aU v = false) (hf : v.fit) :
  SpG g 17 [.agg (zV v)] [] (.c (cS (S []))) [] := by
 refine aG 64 Tryz.func17 (by kernel_rfl) fun fr hG => ?_
 refine zC hG [(1, 1, kB (aU v))] [1, 0, 1, 1] (!(aU v)) (⟨[zX 1 100 0, zS 2 (S [])], [(100, .box 30 (zV v))]⟩) (aB (l4 v hf : SpG g _ _ _ _ _)) (fun hc1 => ?_) (fun hc1 => ?_)
 (try simp only [zq3, hr] at hc1)
 exact zr hG [] [] aA
 (try simp only [zq3, hr] at hc1)
 exact absurd hc1 (by simp [hr])
theorem Cl.fit {c : Cl} (h : c.s.length ≤ maxLen) : c.toV.fit := ⟨h, fun t ht => (by cases ht), fun r hr => (by cases hr)⟩
theorem xX {c : Cl} (hk : ¬ c.kind = 5) (h : aV false c.toV = true) : aU c.toV = true := by
 have : c.toV.kind = c.kind := rfl
 have e : aU c.toV = aV false c.toV := by simp [aU, aV, this, hk]
 rw [e]; exact h
theorem aBP (c : Cl) (hs : c.s.length ≤ maxLen) (hk : ¬ c.kind = 5) (h : aV false c.toV = true) : SpG g 17 [lJ c] [] (.c (cS (S (bB c)))) [] := by
 have := l0 (g := g) c.toV (xX hk h) (Cl.fit hs) (fun r hr => by cases hr)
 have e : cG c.toV = bB c := by
  have : c.toV.kind = c.kind := rfl
  simp only [cG, this, if_neg hk]; rfl
 rw [e] at this
 exact this
theorem aBO (v : Vl) (hr : aU v = true) (hf : v.fit) : SpG g 17 [qB v] [] (.c (cS (S (cG v)))) [] := by
 by_cases hk : v.kind = 5
 have hT := bV hr hk
 obtain ⟨h1, h2, h3, h4⟩ := eC hT
 exact l0 v hr hf fun r hr2 => yR r (by have := (h4 r hr2).1; omega) fun c hc => aBP c (hf.cells r hr2 c hc) ((h4 r hr2).2 c hc).1 ((h4 r hr2).2 c hc).2
 have := lZ hr
 have hb : bZ { v with cols := v.cols, rows := v.rows } = bZ v := rfl
 have hrow : v.rows = [] := lY hr hk
 exact l0 v hr hf fun r hr2 => by rw [hrow] at hr2; cases hr2
theorem n9 (v : Vl) (hf : v.fit) : SpG g 17 [qB v] [] (.c (cS (S (aW v)))) [] := by
 cases hr : aU v with
 | true => have := aBO (g := g) v hr hf; rw [aW, hr]; exact this
 | false => have := aER (g := g) v hr hf; rw [aW, hr]; exact this
theorem aBN (r : List Vl) (hl : r.length ≤ 1000) (hf : ∀ v, v ∈ r → v.fit) :
  SpG g 58 [.c (cM 7 (valsD r))] [] (.c (cM 1 (strs (r.map aW)))) [] := by
 refine aG 20 Tryz.func58 (by kernel_rfl) fun fr hG => ?_
 refine bN 0 rfl fun hl0 => ?_
 refine zA hG [] [0, 1, 0, 1, 1] (⟨[zM 0 7 (valsD r), zN 2, zN 3, zI 4 0], []⟩) [(3, 9001, 9, 1)] [] (fun (zz : Nat × List (List D)) => match zz with | (k, es) => (r.length - k, ⟨[zM 0 7 (valsD r), zN 2, zY 3 9001 0, zI 4 (k : Int)], [(9001, .arr 0 9 1 (es))]⟩, k ≤ r.length ∧ es = strs ((r.take k).map aW))) (0, []) aA ?_ ?_
 exact ⟨Nat.zero_le _, rfl⟩
 rintro ⟨k, es⟩ ⟨hk, hes⟩
 have hlen : es.length = k := by rw [hes, strs, List.length_map, List.length_map, List.length_take]; omega
 refine zc hG [] [1, 0] (decide (((k : Int) : Int) < ((valsD r).length : Int))) aA (fun hc2 => ?_) (fun hc2 => ?_)
 (try simp only [zq3] at hc2)
 refine zD hG [(5, 3, .elem (VlD ((r).getD k Vl.z))), (5, 5, kS (S (aW ((r).getD k Vl.z))))] (k + 1, es ++ [[D.s (S (aW (r.getD k Vl.z)))]]) (aC (by intros; exact aY _ (by omega) (by (try simp only [zq6] at *); omega) : (0 : Int) ≤ (k : Int) ∧ (valsD r)[k]? = some (VlD ((r).getD k Vl.z))) (aC (n9 ((r).getD k Vl.z) (hf _ (bO (by omega))) : SpG g _ _ _ _ _) (aC (by intros; (try simp only [gS] at *); omega : ((es).length + ([[.s (S (aW ((r).getD k Vl.z)))]] : List (List D)).length) * (16 + 1) ≤ 140737488355328) (aB (by intros; (try simp only [gS] at *); omega : inR ((k : Int) + 1)))))) ?_ ?_
 (try dsimp only); omega
 refine ⟨by omega, ?_⟩
 rw [hes, mW Vl.z (by omega)]
 (try simp only [zq3] at hc2)
 refine zE hG [] (.exit 0) (⟨[zN 2, zY 3 9001 0], [(9001, .arr 0 9 1 (es))]⟩) aA rfl ?_
 refine zR hG [] [] (.c (cM 1 (es))) [] aA ?_ ?_
 have : r.take k = r := List.take_of_length_le (by omega)
 rw [hes, this]
 rfl
theorem vU (l : List Vl) (hf : ∀ v, v ∈ l → v.fit) :
  SpG g 21 [.c (cM 7 (valsD l))] [] (.c (cS (S (aD l)))) [] := by
 refine aG 24 Tryz.func21 (by kernel_rfl) fun fr hG => ?_
 refine bN 0 rfl fun hl0 => ?_
 refine zC hG [] [1, 0, 1] (decide ((((valsD l).length : Int) : Int) > 8)) (⟨[zM 0 7 (valsD l), zS 2 (S [])], []⟩) aA (fun hc1 => ?_) (fun hc1 => ?_)
 (try simp only [zq3] at hc1)
 refine zR hG [] [] (.c (cS (S []))) [] aA ?_ ?_
 rw [nS (by omega)]
 rfl
 (try simp only [zq3] at hc1)
 refine zL hG [] [0, 1, 0, 1, 1] (fun (zz : Nat) => match zz with | k => (l.length - k, ⟨[zM 0 7 (valsD l), zS 2 (S []), zI 3 (k : Int)], []⟩, k ≤ l.length ∧ ∀ j, j < k → aU (l.getD j Vl.z) = true)) 0 aA ?_ ?_
 exact ⟨Nat.zero_le _, fun j hj => by omega⟩
 rintro k ⟨hk, hn⟩
 refine zc hG [] [1, 0] (decide (((k : Int) : Int) < ((valsD l).length : Int))) aA (fun hc3 => ?_) (fun hc3 => ?_)
 (try simp only [zq3] at hc3)
 refine zc hG [(6, 2, .elem (VlD ((l).getD k Vl.z))), (6, 4, kB (aU ((l).getD k Vl.z)))] [1, 1, 0, 0, 1] (!(aU ((l).getD k Vl.z))) (aC (by intros; exact aY _ (by omega) (by (try simp only [zq6] at *); omega) : (0 : Int) ≤ (k : Int) ∧ (valsD l)[k]? = some (VlD ((l).getD k Vl.z))) (aB (l4 ((l).getD k Vl.z) (hf _ (bO (by omega))) : SpG g _ _ _ _ _))) (fun hc4 => ?_) (fun hc4 => ?_)
 (try simp only [zq3] at hc4)
 refine zE hG [] .ret (⟨[zM 0 7 (valsD l), zS 2 (S [])], []⟩) aA rfl ?_
 refine zR hG [] [] (.c (cS (S []))) [] aA ?_ ?_
 rw [o4 (k := k) (by omega) (by simpa using hc4)]
 rfl
 (try simp only [zq3] at hc4)
 refine zD hG [] (k + 1) (aB (by intros; (try simp only [gS] at *); omega : inR ((k : Int) + 1))) ?_ ?_
 (try dsimp only); omega
 exact ⟨by omega, cU hn (by simpa using hc4)⟩
 (try simp only [zq3] at hc3)
 refine zE hG [] (.exit 0) (⟨[zM 0 7 (valsD l), zS 2 (S [])], []⟩) aA rfl ?_
 refine zR hG [(9, 1, kC (.c (cM 1 (strs (l.map aW))))), (9, 2, kS (S (joinL [124] (l.map aW))))] [] (.c (cS (S (joinL [124] (l.map aW))))) [] (aC (aBN l (by omega) hf : SpG g _ _ _ _ _) (aB (qV (l.map aW) [124] (wH (by omega)) : SpG g _ _ _ _ _))) ?_ ?_
 rw [lW (by omega) (fun j hj => hn j (by omega))]
 rfl
end Go.Proofs.YtmpgfchkkemngaaGreatDoor
namespace Go.Proofs.YtmpgfchkkemngaaGreatDoor
open Go.RowKit Go.V
open Go.Eng (inR byteAt u8 bH)
variable {g : Gv}
structure CutS where
 out : List (List UInt8)
 from_ : Nat
 quote : Bool
 deep : Int
def sub (s : List UInt8) (a b : Nat) : List UInt8 := (s.take b).drop a
def iG (s : List UInt8) (sep : Int) (k : Nat) (c : CutS) : CutS :=
 if ((s.getD k 0).toNat : Int) = 39 then { c with quote := !c.quote }
 else if c.quote = true then c
 else if ((s.getD k 0).toNat : Int) = 91 then { c with deep := c.deep + 1 }
 else if ((s.getD k 0).toNat : Int) = 93 then { c with deep := c.deep - 1 }
 else if ((s.getD k 0).toNat : Int) = sep ∧ c.deep = 0 then { c with out := c.out ++ [sub s c.from_ k], from_ := k + 1 }
 else c
def gM (s : List UInt8) (sep : Int) : Nat → CutS
 | 0 => ⟨[], 0, false, 0⟩
 | k + 1 => iG s sep k (gM s sep k)
def aE (s : List UInt8) (sep : Int) : List (List UInt8) := (gM s sep s.length).out ++ [sub s (gM s sep s.length).from_ s.length]
def gC (s : List UInt8) (sep : Int) : Bool := !(gM s sep s.length).quote && decide ((gM s sep s.length).deep = 0)
theorem qG (l : List (List UInt8)) (x : List UInt8) : strs (l ++ [x]) = strs l ++ [[D.s (S x)]] := by simp [strs, cH]
def lP := And.intro @List.length_append.{0} (And.intro @List.length_cons.{0} (And.intro @List.length_map.{0, 0} (And.intro @List.length_nil.{0} (And.intro @aF (And.intro @Go.Eng.inR.eq_1 (And.intro @maxLen.eq_1 (@strs.eq_1)))))))
abbrev y16 (a0 : List (List D)) (a1 : Bool) : SV := .tup [(false, [cM 1 a0]), (false, [cB a1])]
theorem u0 (s : List UInt8) (sep : Int) (h : s.length ≤ 100000000) :
  SpG g 64 [.c (cS (S s)), .c (.d (.y sep))] [] (y16 (strs (aE s sep)) (gC s sep)) [] := by
 refine aG 71 Tryz.func64 (by kernel_rfl) fun fr hG => ?_
 refine zA hG [] [0, 1, 0, 1, 1, 1, 1, 1] (⟨[zS 0 (S s), (1, [], .c (.d (.y sep))), zN 4, zB 5 false, zN 6, zI 7 0, zB 8 false, zI 9 0, zI 10 0], []⟩) [(6, 9001, 9, 1)] [] (fun (zz : Nat × List (List D) × List (List UInt8) × Nat × Bool × Int) => match zz with | (k, es, acc, f, q, d) => (s.length - k, ⟨[zS 0 (S s), (1, [], .c (.d (.y sep))), zN 4, zB 5 false, zY 6 9001 0, zI 7 (f : Int), zB 8 q, zI 9 d, zI 10 (k : Int)], [(9001, .arr 0 9 1 (es))]⟩, k ≤ s.length ∧ gM s sep k = ⟨acc, f, q, d⟩ ∧ es = strs acc ∧ f ≤ k ∧ -(k : Int) ≤ d ∧ d ≤ k ∧ acc.length ≤ k)) (0, [], [], 0, false, 0) aA ?_ ?_
 ·exact ⟨Nat.zero_le _, rfl, rfl, by omega, by omega, by omega, by simp⟩
 rintro ⟨k, es, acc, f, q, d⟩ ⟨hk, hC, hes, hf, hd, hd2, ha⟩
 have hlen : es.length = acc.length := by rw [hes, strs, List.length_map]
 refine zc hG [] [1, 0] (decide (((k : Int) : Int) < ((S s).size : Int))) aA (fun hc2 => ?_) (fun hc2 => ?_)
 ·(try simp only [nP, Int.toNat_natCast] at hc2)
  refine zc hG [] [1, 0, 0, 0, 1] (decide ((byteAt (S s) (k : Int) : Int) = 39)) (aB (by intros; (try simp only [lP] at *); omega : (0 : Int) ≤ (k : Int) ∧ (k : Int) < ((S s).size : Int))) (fun hc3 => ?_) (fun hc3 => ?_)
  ·(try simp only [nP, Int.toNat_natCast] at hc3)
   refine zD hG [] (k + 1, es, acc, f, !q, d) (aB (by intros; (try simp only [lP] at *); omega : inR ((k : Int) + 1))) ?_ ?_
   ·(try dsimp only); omega
   ·refine ⟨by omega, ?_, hes, by omega, by omega, by omega, by omega⟩
    rw [gM, hC, iG]; simp [-List.getD_eq_getElem?_getD, *]
  ·(try simp only [nP, Int.toNat_natCast] at hc3)
   refine zc hG [] [1, 1, 1, 0, 0, 0, 1] (q) aA (fun hc4 => ?_) (fun hc4 => ?_)
   ·(try simp only [nP, Int.toNat_natCast] at hc4)
    refine zD hG [] (k + 1, es, acc, f, q, d) (aB (by intros; (try simp only [lP] at *); omega : inR ((k : Int) + 1))) ?_ ?_
    ·(try dsimp only); omega
    ·refine ⟨by omega, ?_, hes, by omega, by omega, by omega, by omega⟩
     rw [gM, hC, iG]; simp [-List.getD_eq_getElem?_getD, *]
   ·(try simp only [nP, Int.toNat_natCast] at hc4)
    refine zc hG [] [1, 1, 1, 1, 1, 0, 0, 0, 1] (decide ((byteAt (S s) (k : Int) : Int) = 91)) (aB (by intros; (try simp only [lP] at *); omega : (0 : Int) ≤ (k : Int) ∧ (k : Int) < ((S s).size : Int))) (fun hc5 => ?_) (fun hc5 => ?_)
    ·(try simp only [nP, Int.toNat_natCast] at hc5)
     refine zD hG [] (k + 1, es, acc, f, q, d + 1) (aC (by intros; (try simp only [lP] at *); omega : inR (d + 1)) (aB (by intros; (try simp only [lP] at *); omega : inR ((k : Int) + 1)))) ?_ ?_
     ·(try dsimp only); omega
     ·refine ⟨by omega, ?_, hes, by omega, by omega, by omega, by omega⟩
      rw [gM, hC, iG]; simp [-List.getD_eq_getElem?_getD, *]
    ·(try simp only [nP, Int.toNat_natCast] at hc5)
     refine zc hG [] [1, 1, 1, 1, 1, 1, 1, 0, 0, 0, 1] (decide ((byteAt (S s) (k : Int) : Int) = 93)) (aB (by intros; (try simp only [lP] at *); omega : (0 : Int) ≤ (k : Int) ∧ (k : Int) < ((S s).size : Int))) (fun hc6 => ?_) (fun hc6 => ?_)
     ·(try simp only [nP, Int.toNat_natCast] at hc6)
      refine zD hG [] (k + 1, es, acc, f, q, d - 1) (aC (by intros; (try simp only [lP] at *); omega : inR (d - 1)) (aB (by intros; (try simp only [lP] at *); omega : inR ((k : Int) + 1)))) ?_ ?_
      ·(try dsimp only); omega
      ·refine ⟨by omega, ?_, hes, by omega, by omega, by omega, by omega⟩
       rw [gM, hC, iG]; simp [-List.getD_eq_getElem?_getD, *]
     ·(try simp only [nP, Int.toNat_natCast] at hc6)
      refine zc hG [] [1, 1, 1, 1, 1, 1, 1, 1, 1, 0, 0, 0, 1] ((decide ((byteAt (S s) (k : Int) : Int) = sep)) && (decide ((d : Int) = 0))) (aB (by intros; (try simp only [lP] at *); omega : (0 : Int) ≤ (k : Int) ∧ (k : Int) < ((S s).size : Int))) (fun hc7 => ?_) (fun hc7 => ?_)
      ·(try simp only [nP, Int.toNat_natCast] at hc7)
       refine zD hG [] (k + 1, es ++ [[D.s ((S s).extract f k)]], acc ++ [sub s f k], k + 1, q, d) (aC (by intros; (try simp only [lP] at *); omega : (0 : Int) ≤ (f : Int) ∧ ((f : Int) : Int) ≤ (k : Int) ∧ (k : Int) ≤ ((S s).size : Int)) (aC (by intros; (try simp only [lP] at *); omega : ((es).length + (([[.s ((S s).extract f k)]] : List (List D))).length) * (16 + 1) ≤ 140737488355328) (aC (by intros; (try simp only [lP] at *); omega : inR ((k : Int) + 1)) (aB (by intros; (try simp only [lP] at *); omega : inR ((k : Int) + 1)))))) ?_ ?_
       ·(try dsimp only); omega
       ·refine ⟨by omega, ?_, by rw [hes, qG, jG]; rfl, by omega, by omega, by omega, by simp only [dB]; omega⟩
        rw [gM, hC, iG, if_neg hc3, if_neg (by simp [hc4]), if_neg hc5, if_neg hc6, if_pos hc7]
      ·(try simp only [nP, Int.toNat_natCast] at hc7)
       refine zD hG [] (k + 1, es, acc, f, q, d) (aB (by intros; (try simp only [lP] at *); omega : inR ((k : Int) + 1))) ?_ ?_
       ·(try dsimp only); omega
       ·refine ⟨by omega, ?_, hes, by omega, by omega, by omega, by omega⟩
        rw [gM, hC, iG, if_neg hc3, if_neg (by simp [hc4]), if_neg hc5, if_neg hc6, if_neg (fun hh => by rcases hc7 with h7 | h7; (· exact h7 hh.1); exact h7 hh.2)]
 ·(try simp only [nP, Int.toNat_natCast] at hc2)
  refine zE hG [] (.exit 0) (⟨[zS 0 (S s), zN 4, zB 5 false, zY 6 9001 0, zI 7 (f : Int), zB 8 q, zI 9 d], [(9001, .arr 0 9 1 (es))]⟩) aA rfl ?_
  refine zR hG [] [] (y16 (es ++ ([[.s ((S s).extract f (S s).size)]] : List (List D))) (!q && (decide ((d : Int) = 0)))) [] (aC (by intros; (try simp only [lP] at *); omega : (0 : Int) ≤ (f : Int) ∧ ((f : Int) : Int) ≤ ((S s).size : Int) ∧ ((S s).size : Int) ≤ ((S s).size : Int)) (aB (by intros; (try simp only [lP] at *); omega : ((es).length + ([[.s ((S s).extract f (S s).size)]] : List (List D)).length) * (16 + 1) ≤ 140737488355328))) ?_ ?_
  ·have e : k = s.length := by omega
   subst e
   rw [aE, gC, hC, hes, jG, qG]; rfl
  ·rfl
end Go.Proofs.YtmpgfchkkemngaaGreatDoor
namespace Go.Proofs.YtmpgfchkkemngaaGreatDoor
open Go.RowKit Go.V
open Go.Eng (inR byteAt u8 bH)
variable {g : Gv}
theorem wY : aD5 Tryz.prog 126 := ⟨_, Tryz.func126, by kernel_rfl, by kernel_rfl, by kernel_rfl, by kernel_rfl⟩
theorem fW {f : FuncId} {ins : List SV} {refs : bL} {out : SV} {post post' : bL} (h : SpG g f ins refs out post) (e : lookO post = lookO post') : SpG g f ins refs out post' := by
 unfold SpG V.Spec at *
 rw [← e]
 exact h
abbrev y17 : Ob := .box 80 [.bx 0 0, .ar 1 0]
theorem u6 (es : List (List D)) :
  SpG g 83 [.c (.bx 0 0)] [(0, y17), (1, .arr 0 5 1 (es))] (.tup []) [(0, y17), (1, .arr 0 5 1 (es))] := by
 refine aG 20 Tryz.func83 (by kernel_rfl) fun fr hG => ?_
 refine zc hG [] [1] (false) aA (fun hc1 => absurd hc1 (by decide)) (fun _ => ?_)
 refine zC hG [] [1, 1, 1] (false) (⟨[], [(0, y17), (1, .arr 0 5 1 (es))]⟩) aA (fun hc2 => absurd hc2 (by decide)) (fun _ => ?_)
 exact zr hG [] [] aA
abbrev y18 : Ob := .box 80 [.d (.v (.pointer none)), cN]
theorem aFS  :
  SpG g 83 [.c (.bx 0 0)] [(0, y18)] (.tup []) [(0, .box 80 [.bx 0 0, cN])] := by
 refine aG 20 Tryz.func83 (by kernel_rfl) fun fr hG => ?_
 refine zc hG [] [1] (true) aA (fun _ => ?_) (fun hc1 => absurd hc1 (by decide))
 exact zr hG [] [] (aB (show aD5 Tryz.prog 126 from wY))
abbrev y19 (a0 : Int) : SV := .tup [(false, [cI a0]), (false, [.d (.v (.nilIface))])]
abbrev y20 (a0 : List (List D)) : Ob := .arr 0 5 1 a0
theorem oU (s : ByteArray) (h : s.size ≤ 1000000000000) :
  SpG g 48 [.c (.bx 0 0), .c (cS s)] [(0, y18)] (y19 (s.size : Int)) [(0, .box 80 [.bx 0 0, .ar 100 0]), (100, y20 (bytesD s.data.toList))] := by
 refine aG 19 Tryz.func48 (by kernel_rfl) fun fr hG => ?_
 exact zr hG [(1, 1, .callG (.tup []) [0] [(0, .box 80 [.bx 0 0, cN])])] [306] (aC (aFS : SpG g _ _ _ _ _) (aB (by intros; first | assumption | omega : (s).size ≤ 1000000000000)))
theorem kK (es : List (List D)) (s : ByteArray) (h : es.length + s.size ≤ 1000000000000) :
  SpG g 48 [.c (.bx 0 0), .c (cS s)] [(0, y17), (1, .arr 0 5 1 (es))] (y19 (s.size : Int)) [(0, y17), (1, y20 (es ++ bytesD s.data.toList))] := by
 refine aG 19 Tryz.func48 (by kernel_rfl) fun fr hG => ?_
 exact zr hG [(1, 1, .callG (.tup []) [0, 1] [(0, y17), (1, .arr 0 5 1 (es))])] [] (aC (u6 (es) : SpG g _ _ _ _ _) (aB (by intros; first | assumption | omega : (es).length + (s).size ≤ 1000000000000)))
theorem vG (es : List (List D)) (r : ByteArray) (h : es = bytesD r.data.toList) :
  SpG g 51 [.c (.bx 0 0)] [(0, y17), (1, .arr 0 5 1 (es))] (.c (cS r)) [(1, .arr 0 5 1 []), (0, .box 80 [.bx 0 0, .any])] := by
 refine aG 14 Tryz.func51 (by kernel_rfl) fun fr hG => ?_
 exact zr hG [(1, 10, kS (r))] [] (aC (show es = bytesD (r).data.toList from h) (aB (by intros; first | assumption | (rw [h, aI]; rfl) : (((es).length : Int) : Int) = ((r).size : Int))))
theorem jR (es : List (List D)) (r : ByteArray) (h : es = bytesD r.data.toList) :
  SpG g 51 [.c (.bx 0 0)] [(0, y17), (1, .arr 0 5 1 es)] (.c (cS r)) [(0, .box 80 [.bx 0 0, .any]), (1, .arr 0 5 1 [])] :=
 fW (vG es r h) (by funext i; match i with | 0 => rfl | 1 => rfl | i + 2 => rfl)
theorem sR (es : List (List D)) (c : Int) (h : es.length ≤ 1000000000000) :
  SpG g 178 [.c (.bx 0 0), .c (.d (.y c))] [(0, y17), (1, .arr 0 5 1 (es))] (.c (.d (.v (.nilIface)))) [(0, y17), (1, y20 (es ++ [[D.y c]]))] := by
 refine aG 17 Tryz.func178 (by kernel_rfl) fun fr hG => ?_
 exact zr hG [(1, 1, .callG (.tup []) [0, 1] [(0, y17), (1, .arr 0 5 1 (es))])] [] (aC (u6 (es) : SpG g _ _ _ _ _) (aB (by intros; (try simp only [List.length_cons, List.length_nil]); omega : ((es).length + ([[.y c]] : List (List D)).length) * (1 + 1) ≤ 140737488355328)))
end Go.Proofs.YtmpgfchkkemngaaGreatDoor
namespace Go.Proofs
open Go.Shelf
def Tryz.lays156_ren : Go.Shelf.Ren := ⟨fun | 156 => 49 | 165 => 84 | 166 => 48 | 169 => 51 | 240 => 83 | 241 => 127 | 276 => 126 | 277 => 174 | n => n, fun | 31 => 27 | 9 => 9 | 3 => 3 | 4 => 4 | 0 => 0 | 20 => 20 | 72 => 80 | 76 => 83 | 70 => 78 | 37 => 41 | 75 => 82 | 127 => 120 | 164 => 160 | 5 => 5 | 80 => 87 | n => n, fun | n => n⟩
theorem Tryz.lays156 : Go.Proofs.Lays.n156 Tryz.prog Tryz.lays156_ren := {
 mixed := by kernel_rfl
 f156 := Tryz.func49.trans (congrArg some (by kernel_rfl))
 f165 := Tryz.func84.trans (congrArg some (by kernel_rfl))
 f166 := Tryz.func48.trans (congrArg some (by kernel_rfl))
 f169 := Tryz.func51.trans (congrArg some (by kernel_rfl))
 f240 := Tryz.func83.trans (congrArg some (by kernel_rfl))
 f241 := Tryz.func127.trans (congrArg some (by kernel_rfl))
 f276 := Tryz.func126.trans (congrArg some (by kernel_rfl))
 f277 := Tryz.func174.trans (congrArg some (by kernel_rfl))
 t0 := Tryz.underlying0
 a0 := Tryz.isAgg0
 z0 := Tryz.sizeOf0
 v0 := Tryz.zeroValue0
 t3 := Tryz.underlying3
 a3 := Tryz.isAgg3
 z3 := Tryz.sizeOf3
 v3 := Tryz.zeroValue3
 t4 := Tryz.underlying4
 a4 := Tryz.isAgg4
 z4 := Tryz.sizeOf4
 v4 := Tryz.zeroValue4
 t9 := Tryz.underlying9
 a9 := Tryz.isAgg9
 z9 := Tryz.sizeOf9
 v9 := Tryz.zeroValue9
 t20 := Tryz.underlying20
 a20 := Tryz.isAgg20
 z20 := Tryz.sizeOf20
 v20 := Tryz.zeroValue20
 t31 := Tryz.underlying27
 a31 := Tryz.isAgg27
 z31 := Tryz.sizeOf27
 v31 := Tryz.zeroValue27
 t37 := Tryz.underlying41
 a37 := Tryz.isAgg41
 z37 := Tryz.sizeOf41
 v37 := Tryz.zeroValue41
 t70 := Tryz.underlying78
 a70 := Tryz.isAgg78
 z70 := Tryz.sizeOf78
 v70 := Tryz.zeroValue78
 t72 := Tryz.underlying80
 a72 := Tryz.isAgg80
 z72 := Tryz.sizeOf80
 v72 := Tryz.zeroValue80
 t75 := Tryz.underlying82
 a75 := Tryz.isAgg82
 z75 := Tryz.sizeOf82
 v75 := Tryz.zeroValue82
 t76 := Tryz.underlying83
 a76 := Tryz.isAgg83
 z76 := Tryz.sizeOf83
 v76 := Tryz.zeroValue83
 t127 := Tryz.underlying120
 a127 := Tryz.isAgg120
 z127 := Tryz.sizeOf120
 v127 := Tryz.zeroValue120
 t164 := Tryz.underlying160
 a164 := Tryz.isAgg160
 z164 := Tryz.sizeOf160
 v164 := Tryz.zeroValue160 }
theorem Tryz.Builder_Extra_156 : Builder.Extra Tryz.prog Tryz.lays156_ren := {
 sizeBuilder := by kernel_rfl
 liesBuilder := by kernel_rfl
 t5 := Tryz.underlying5
 a5 := Tryz.isAgg5
 z5 := Tryz.sizeOf5
 v5 := Tryz.zeroValue5
 infoByte := by kernel_rfl
 cellsByte := by kernel_rfl
 sizeByte := by kernel_rfl
 neB5 := by decide }
open Go.RowKit in
theorem Tryz.strings_Join_none (a : Option Addr) (c : Nat) (sep : ByteArray) (w : World) :
  Calls Tryz.prog 49 #[.slice a 0 c, .string sep] w fun e w' => e = .returned (.string ⟨#[]⟩) ∧ w' = w := Any.strings_Join_none Tryz.lays156 Tryz.Builder_Extra_156 a c sep w
open Go.RowKit in
theorem Tryz.strings_Join (bk o c : Nat) (xs : List ByteArray) (sep : ByteArray) (w : World) (hcells : ∀ (j : Nat) x, xs[j]? = some x → w.cell? ⟨bk, o + j, none⟩ = some (.string x)) (hbk : bk < w.heap.size) (hN : xs.length ≤ 140737488355328) (hcap : xs.length ≤ c) (hlen : (Lib.join (xs.map (·.data.toList)) sep.data.toList).length ≤ 140737488355328) :
  Calls Tryz.prog 49 #[.slice (some ⟨bk, o, none⟩) xs.length c, .string sep] w fun e w' => e = .returned (.string ⟨(Lib.join (xs.map (·.data.toList)) sep.data.toList).toArray⟩) ∧ Below w.heap.size w w' := Any.strings_Join Tryz.lays156 Tryz.Builder_Extra_156 bk o c xs sep w hcells hbk hN hcap hlen
def Tryz.lays137_ren : Go.Shelf.Ren := ⟨fun | 137 => 177 | 217 => 192 | 266 => 211 | n => n, fun | 9 => 9 | 5 => 5 | 3 => 3 | n => n, fun | n => n⟩
theorem Tryz.lays137 : Go.Proofs.Lays.n137 Tryz.prog Tryz.lays137_ren := {
 mixed := by kernel_rfl
 f137 := Tryz.func177.trans (congrArg some (by kernel_rfl))
 f217 := Tryz.func192.trans (congrArg some (by kernel_rfl))
 f266 := Tryz.func211.trans (congrArg some (by kernel_rfl))
 t3 := Tryz.underlying3
 a3 := Tryz.isAgg3
 z3 := Tryz.sizeOf3
 v3 := Tryz.zeroValue3
 t5 := Tryz.underlying5
 a5 := Tryz.isAgg5
 z5 := Tryz.sizeOf5
 v5 := Tryz.zeroValue5
 t9 := Tryz.underlying9
 a9 := Tryz.isAgg9
 z9 := Tryz.sizeOf9
 v9 := Tryz.zeroValue9 }
open Go.RowKit in
theorem Tryz.strings_IndexByte (s : ByteArray) (c : Int) (w : World) :
  Calls Tryz.prog 177 #[.string s, .int .u8 c] w fun e w' => e = .returned (.int .i64 (Lib.indexByte s.data.toList c.toNat.toUInt8)) ∧ w' = w := Any.strings_IndexByte Tryz.lays137 s c w
def Tryz.lays103_ren : Go.Shelf.Ren := ⟨fun | 103 => 205 | 210 => 222 | 206 => 215 | n => n, fun | 9 => 9 | 4 => 4 | 24 => 117 | 3 => 3 | n => n, fun | n => n⟩
theorem Tryz.lays103 : Go.Proofs.Lays.n103 Tryz.prog Tryz.lays103_ren := {
 mixed := by kernel_rfl
 f103 := Tryz.func205.trans (congrArg some (by kernel_rfl))
 f206 := Tryz.func215.trans (congrArg some (by kernel_rfl))
 f210 := Tryz.func222.trans (congrArg some (by kernel_rfl))
 t3 := Tryz.underlying3
 a3 := Tryz.isAgg3
 z3 := Tryz.sizeOf3
 v3 := Tryz.zeroValue3
 t4 := Tryz.underlying4
 a4 := Tryz.isAgg4
 z4 := Tryz.sizeOf4
 v4 := Tryz.zeroValue4
 t9 := Tryz.underlying9
 a9 := Tryz.isAgg9
 z9 := Tryz.sizeOf9
 v9 := Tryz.zeroValue9
 t24 := Tryz.underlying117
 a24 := Tryz.isAgg117
 z24 := Tryz.sizeOf117
 v24 := Tryz.zeroValue117 }
open Go.RowKit in
theorem Tryz.strings_CutPrefix (s p : ByteArray) (w : World) :
  Calls Tryz.prog 205 #[.string s, .string p] w fun e w' => e = .returned (.tuple #[.string ⟨(Lib.trimPrefix s.data.toList p.data.toList).toArray⟩, .bool (Lib.hasPrefix s.data.toList p.data.toList)]) ∧ w' = w := Any.strings_CutPrefix Tryz.lays103 s p w
def Tryz.lays283_ren : Go.Shelf.Ren := ⟨fun | 283 => 159 | n => n, fun | 3 => 3 | 9 => 9 | 4 => 4 | n => n, fun | n => n⟩
theorem Tryz.lays283 : Go.Proofs.Lays.n283 Tryz.prog Tryz.lays283_ren := {
 mixed := by kernel_rfl
 f283 := Tryz.func159.trans (congrArg some (by kernel_rfl))
 t3 := Tryz.underlying3
 a3 := Tryz.isAgg3
 z3 := Tryz.sizeOf3
 v3 := Tryz.zeroValue3
 t4 := Tryz.underlying4
 a4 := Tryz.isAgg4
 z4 := Tryz.sizeOf4
 v4 := Tryz.zeroValue4
 t9 := Tryz.underlying9
 a9 := Tryz.isAgg9
 z9 := Tryz.sizeOf9
 v9 := Tryz.zeroValue9 }
open Go.Lib in
theorem Tryz.internal_strconv_small (i : Nat) (h : i < 100) (w : World) :
  Calls Tryz.prog 159 #[.int .i64 i] w fun e w' => e = .returned (.string ⟨(Lib.decDigits i).toArray⟩) ∧ w' = w := Any.internal_strconv_small Tryz.lays283 i h w
def Tryz.laysM284_ren : Go.Shelf.Ren := ⟨fun | 284 => 160 | 129 => 188 | 317 => 187 | 318 => 189 | n => n, fun | 53 => 115 | 3 => 3 | 212 => 199 | 0 => 0 | 4 => 4 | 46 => 191 | 5 => 5 | 9 => 9 | n => n, fun | 17 => 2 | n => n⟩
theorem Tryz.laysM284 : Go.Proofs.LaysM.n284 Tryz.prog Tryz.laysM284_ren := {
 mixed := by kernel_rfl
 f129 := Tryz.func188.trans (congrArg some (by kernel_rfl))
 f284 := Tryz.func160.trans (congrArg some (by kernel_rfl))
 f317 := Tryz.func187.trans (congrArg some (by kernel_rfl))
 f318 := Tryz.func189.trans (congrArg some (by kernel_rfl))
 t0 := Tryz.underlying0
 a0 := Tryz.isAgg0
 z0 := Tryz.sizeOf0
 v0 := Tryz.zeroValue0
 t3 := Tryz.underlying3
 a3 := Tryz.isAgg3
 z3 := Tryz.sizeOf3
 v3 := Tryz.zeroValue3
 t4 := Tryz.underlying4
 a4 := Tryz.isAgg4
 z4 := Tryz.sizeOf4
 v4 := Tryz.zeroValue4
 t5 := Tryz.underlying5
 a5 := Tryz.isAgg5
 z5 := Tryz.sizeOf5
 v5 := Tryz.zeroValue5
 t9 := Tryz.underlying9
 a9 := Tryz.isAgg9
 z9 := Tryz.sizeOf9
 v9 := Tryz.zeroValue9
 t46 := Tryz.underlying191
 a46 := Tryz.isAgg191
 z46 := Tryz.sizeOf191
 v46 := Tryz.zeroValue191
 t53 := Tryz.underlying115
 a53 := Tryz.isAgg115
 z53 := Tryz.sizeOf115
 v53 := Tryz.zeroValue115
 t212 := Tryz.underlying199
 a212 := Tryz.isAgg199
 z212 := Tryz.sizeOf199
 v212 := Tryz.zeroValue199
 g17 := by kernel_rfl
 i0 := by kernel_rfl
 i3 := by kernel_rfl
 i4 := by kernel_rfl
 i5 := by kernel_rfl
 i9 := by kernel_rfl
 i46 := by kernel_rfl
 i53 := by kernel_rfl
 i212 := by kernel_rfl
 m17 := by kernel_rfl }
open Go.Lib in
theorem Tryz.internal_strconv_numDigits (u : Nat) (h1 : 1 ≤ u) (h2 : u < 18446744073709551616) (w : World) (htab : Lib.TabIs Tryz.prog w "internal/strconv.uint64pow10" .u64 Lib.pow10Tab) :
  Calls Tryz.prog 160 #[.int .u64 u] w fun e w' => e = .returned (.int .i64 (Lib.nDigits u)) ∧ w' = w := Any.internal_strconv_numDigits Tryz.laysM284 u h1 h2 w htab
def Tryz.lays285_ren : Go.Shelf.Ren := ⟨fun | 285 => 161 | n => n, fun | 37 => 41 | 53 => 115 | 3 => 3 | 4 => 4 | 51 => 200 | 9 => 9 | 5 => 5 | 0 => 0 | n => n, fun | n => n⟩
theorem Tryz.lays285 : Go.Proofs.Lays.n285 Tryz.prog Tryz.lays285_ren := {
 mixed := by kernel_rfl
 f285 := Tryz.func161.trans (congrArg some (by kernel_rfl))
 t0 := Tryz.underlying0
 a0 := Tryz.isAgg0
 z0 := Tryz.sizeOf0
 v0 := Tryz.zeroValue0
 t3 := Tryz.underlying3
 a3 := Tryz.isAgg3
 z3 := Tryz.sizeOf3
 v3 := Tryz.zeroValue3
 t4 := Tryz.underlying4
 a4 := Tryz.isAgg4
 z4 := Tryz.sizeOf4
 v4 := Tryz.zeroValue4
 t5 := Tryz.underlying5
 a5 := Tryz.isAgg5
 z5 := Tryz.sizeOf5
 v5 := Tryz.zeroValue5
 t9 := Tryz.underlying9
 a9 := Tryz.isAgg9
 z9 := Tryz.sizeOf9
 v9 := Tryz.zeroValue9
 t37 := Tryz.underlying41
 a37 := Tryz.isAgg41
 z37 := Tryz.sizeOf41
 v37 := Tryz.zeroValue41
 t51 := Tryz.underlying200
 a51 := Tryz.isAgg200
 z51 := Tryz.sizeOf200
 v51 := Tryz.zeroValue200
 t53 := Tryz.underlying115
 a53 := Tryz.isAgg115
 z53 := Tryz.sizeOf115
 v53 := Tryz.zeroValue115 }
open Go.RowKit Go.Sort Go.Lib in
theorem Tryz.internal_strconv_formatBase10 (blk off cap : Nat) (u : Nat) (d : Array UInt8) (w : World) (hH : Holds (fun (b : UInt8) => Value.int .u8 (b.toNat : Int)) w blk off d) (hu : u < 10 ^ d.size) (hu64 : u < 18446744073709551616) (hsz : d.size < 4611686018427387904) :
  Calls Tryz.prog 161 #[.slice (some ⟨blk, off, none⟩) d.size cap, .int .u64 u] w fun e w' =>
   e = .returned (.tuple #[]) ∧ ∃ (n v' : Nat) (dk : Array UInt8), w' = (putRow (fun (b : UInt8) => Value.int .u8 (b.toNat : Int)) w blk off dk).drewN n ∧ FmtInv d.size u 0 v' dk := Any.internal_strconv_formatBase10 Tryz.lays285 blk off cap u d w hH hu hu64 hsz
def Tryz.laysM171_ren : Go.Shelf.Ren := ⟨fun | 171 => 44 | 243 => 77 | 246 => 117 | 283 => 159 | 284 => 160 | 285 => 161 | 286 => 162 | 129 => 188 | 317 => 187 | 318 => 189 | 319 => 190 | 320 => 191 | 337 => 209 | 338 => 210 | n => n, fun | 3 => 3 | 9 => 9 | 2 => 2 | 4 => 4 | 171 => 180 | 0 => 0 | 53 => 115 | 37 => 41 | 5 => 5 | 173 => 183 | 212 => 199 | 51 => 200 | 20 => 20 | 213 => 201 | 46 => 191 | 232 => 236 | 233 => 237 | n => n, fun | 17 => 2 | 18 => 6 | 19 => 7 | n => n⟩
theorem Tryz.laysM171 : Go.Proofs.LaysM.n171 Tryz.prog Tryz.laysM171_ren := {
 mixed := by kernel_rfl
 f129 := Tryz.func188.trans (congrArg some (by kernel_rfl))
 f171 := Tryz.func44.trans (congrArg some (by kernel_rfl))
 f243 := Tryz.func77.trans (congrArg some (by kernel_rfl))
 f246 := Tryz.func117.trans (congrArg some (by kernel_rfl))
 f283 := Tryz.func159.trans (congrArg some (by kernel_rfl))
 f284 := Tryz.func160.trans (congrArg some (by kernel_rfl))
 f285 := Tryz.func161.trans (congrArg some (by kernel_rfl))
 f286 := Tryz.func162.trans (congrArg some (by kernel_rfl))
 f317 := Tryz.func187.trans (congrArg some (by kernel_rfl))
 f318 := Tryz.func189.trans (congrArg some (by kernel_rfl))
 f319 := Tryz.func190.trans (congrArg some (by kernel_rfl))
 f320 := Tryz.func191.trans (congrArg some (by kernel_rfl))
 f337 := Tryz.func209.trans (congrArg some (by kernel_rfl))
 f338 := Tryz.func210.trans (congrArg some (by kernel_rfl))
 t0 := Tryz.underlying0
 a0 := Tryz.isAgg0
 z0 := Tryz.sizeOf0
 v0 := Tryz.zeroValue0
 t2 := Tryz.underlying2
 a2 := Tryz.isAgg2
 z2 := Tryz.sizeOf2
 v2 := Tryz.zeroValue2
 t3 := Tryz.underlying3
 a3 := Tryz.isAgg3
 z3 := Tryz.sizeOf3
 v3 := Tryz.zeroValue3
 t4 := Tryz.underlying4
 a4 := Tryz.isAgg4
 z4 := Tryz.sizeOf4
 v4 := Tryz.zeroValue4
 t5 := Tryz.underlying5
 a5 := Tryz.isAgg5
 z5 := Tryz.sizeOf5
 v5 := Tryz.zeroValue5
 t9 := Tryz.underlying9
 a9 := Tryz.isAgg9
 z9 := Tryz.sizeOf9
 v9 := Tryz.zeroValue9
 t20 := Tryz.underlying20
 a20 := Tryz.isAgg20
 z20 := Tryz.sizeOf20
 v20 := Tryz.zeroValue20
 t37 := Tryz.underlying41
 a37 := Tryz.isAgg41
 z37 := Tryz.sizeOf41
 v37 := Tryz.zeroValue41
 t46 := Tryz.underlying191
 a46 := Tryz.isAgg191
 z46 := Tryz.sizeOf191
 v46 := Tryz.zeroValue191
 t51 := Tryz.underlying200
 a51 := Tryz.isAgg200
 z51 := Tryz.sizeOf200
 v51 := Tryz.zeroValue200
 t53 := Tryz.underlying115
 a53 := Tryz.isAgg115
 z53 := Tryz.sizeOf115
 v53 := Tryz.zeroValue115
 t171 := Tryz.underlying180
 a171 := Tryz.isAgg180
 z171 := Tryz.sizeOf180
 v171 := Tryz.zeroValue180
 t173 := Tryz.underlying183
 a173 := Tryz.isAgg183
 z173 := Tryz.sizeOf183
 v173 := Tryz.zeroValue183
 t212 := Tryz.underlying199
 a212 := Tryz.isAgg199
 z212 := Tryz.sizeOf199
 v212 := Tryz.zeroValue199
 t213 := Tryz.underlying201
 a213 := Tryz.isAgg201
 z213 := Tryz.sizeOf201
 t232 := Tryz.underlying236
 a232 := Tryz.isAgg236
 z232 := Tryz.sizeOf236
 v232 := Tryz.zeroValue236
 t233 := Tryz.underlying237
 a233 := Tryz.isAgg237
 z233 := Tryz.sizeOf237
 v233 := Tryz.zeroValue237
 g17 := by kernel_rfl
 g18 := by kernel_rfl
 g19 := by kernel_rfl
 i0 := by kernel_rfl
 i2 := by kernel_rfl
 i3 := by kernel_rfl
 i4 := by kernel_rfl
 i5 := by kernel_rfl
 i9 := by kernel_rfl
 i20 := by kernel_rfl
 i37 := by kernel_rfl
 i46 := by kernel_rfl
 i51 := by kernel_rfl
 i53 := by kernel_rfl
 i171 := by kernel_rfl
 i173 := by kernel_rfl
 i212 := by kernel_rfl
 i232 := by kernel_rfl
 i233 := by kernel_rfl
 m17 := by kernel_rfl
 m18 := by kernel_rfl
 m19 := by kernel_rfl }
open Go.RowKit Go.Sort Go.Lib in
theorem Tryz.strconv_Itoa (n : Int) (h0 : -9223372036854775808 ≤ n) (h1 : n ≤ 9223372036854775807) (w : World) (htab : Lib.TabIs Tryz.prog w "internal/strconv.uint64pow10" .u64 Lib.pow10Tab) :
  Calls Tryz.prog 44 #[.int .i64 n] w fun e w' => e = .returned (.string ⟨(Lib.itoa n).toArray⟩) ∧ ∃ k os, w' = grow (w.drewN k) os := Any.strconv_Itoa Tryz.laysM171 n h0 h1 w htab
def Tryz.lays171_ren : Go.Shelf.Ren := ⟨fun | 171 => 44 | 243 => 77 | 246 => 117 | 283 => 159 | 284 => 160 | 285 => 161 | 286 => 162 | 129 => 188 | 317 => 187 | 318 => 189 | 319 => 190 | 320 => 191 | 337 => 209 | 338 => 210 | n => n, fun | 3 => 3 | 9 => 9 | 2 => 2 | 4 => 4 | 171 => 180 | 0 => 0 | 53 => 115 | 37 => 41 | 5 => 5 | 173 => 183 | 212 => 199 | 51 => 200 | 20 => 20 | 213 => 201 | 46 => 191 | 232 => 236 | 233 => 237 | n => n, fun | 17 => 2 | 18 => 6 | 19 => 7 | n => n⟩
theorem Tryz.lays171 : Go.Proofs.Lays.n171 Tryz.prog Tryz.lays171_ren := {
 mixed := by kernel_rfl
 f129 := Tryz.func188.trans (congrArg some (by kernel_rfl))
 f171 := Tryz.func44.trans (congrArg some (by kernel_rfl))
 f243 := Tryz.func77.trans (congrArg some (by kernel_rfl))
 f246 := Tryz.func117.trans (congrArg some (by kernel_rfl))
 f283 := Tryz.func159.trans (congrArg some (by kernel_rfl))
 f284 := Tryz.func160.trans (congrArg some (by kernel_rfl))
 f285 := Tryz.func161.trans (congrArg some (by kernel_rfl))
 f286 := Tryz.func162.trans (congrArg some (by kernel_rfl))
 f317 := Tryz.func187.trans (congrArg some (by kernel_rfl))
 f318 := Tryz.func189.trans (congrArg some (by kernel_rfl))
 f319 := Tryz.func190.trans (congrArg some (by kernel_rfl))
 f320 := Tryz.func191.trans (congrArg some (by kernel_rfl))
 f337 := Tryz.func209.trans (congrArg some (by kernel_rfl))
 f338 := Tryz.func210.trans (congrArg some (by kernel_rfl))
 t0 := Tryz.underlying0
 a0 := Tryz.isAgg0
 z0 := Tryz.sizeOf0
 v0 := Tryz.zeroValue0
 t2 := Tryz.underlying2
 a2 := Tryz.isAgg2
 z2 := Tryz.sizeOf2
 v2 := Tryz.zeroValue2
 t3 := Tryz.underlying3
 a3 := Tryz.isAgg3
 z3 := Tryz.sizeOf3
 v3 := Tryz.zeroValue3
 t4 := Tryz.underlying4
 a4 := Tryz.isAgg4
 z4 := Tryz.sizeOf4
 v4 := Tryz.zeroValue4
 t5 := Tryz.underlying5
 a5 := Tryz.isAgg5
 z5 := Tryz.sizeOf5
 v5 := Tryz.zeroValue5
 t9 := Tryz.underlying9
 a9 := Tryz.isAgg9
 z9 := Tryz.sizeOf9
 v9 := Tryz.zeroValue9
 t20 := Tryz.underlying20
 a20 := Tryz.isAgg20
 z20 := Tryz.sizeOf20
 v20 := Tryz.zeroValue20
 t37 := Tryz.underlying41
 a37 := Tryz.isAgg41
 z37 := Tryz.sizeOf41
 v37 := Tryz.zeroValue41
 t46 := Tryz.underlying191
 a46 := Tryz.isAgg191
 z46 := Tryz.sizeOf191
 v46 := Tryz.zeroValue191
 t51 := Tryz.underlying200
 a51 := Tryz.isAgg200
 z51 := Tryz.sizeOf200
 v51 := Tryz.zeroValue200
 t53 := Tryz.underlying115
 a53 := Tryz.isAgg115
 z53 := Tryz.sizeOf115
 v53 := Tryz.zeroValue115
 t171 := Tryz.underlying180
 a171 := Tryz.isAgg180
 z171 := Tryz.sizeOf180
 v171 := Tryz.zeroValue180
 t173 := Tryz.underlying183
 a173 := Tryz.isAgg183
 z173 := Tryz.sizeOf183
 v173 := Tryz.zeroValue183
 t212 := Tryz.underlying199
 a212 := Tryz.isAgg199
 z212 := Tryz.sizeOf199
 v212 := Tryz.zeroValue199
 t213 := Tryz.underlying201
 a213 := Tryz.isAgg201
 z213 := Tryz.sizeOf201
 t232 := Tryz.underlying236
 a232 := Tryz.isAgg236
 z232 := Tryz.sizeOf236
 v232 := Tryz.zeroValue236
 t233 := Tryz.underlying237
 a233 := Tryz.isAgg237
 z233 := Tryz.sizeOf237
 v233 := Tryz.zeroValue237
 g17 := by kernel_rfl
 g18 := by kernel_rfl
 g19 := by kernel_rfl }
open Go.RowKit Go.Sort Go.Lib in
theorem Tryz.strconv_Itoa_small (i : Nat) (hi : i < 100) (w : World) :
  Calls Tryz.prog 44 #[.int .i64 i] w fun e w' => e = .returned (.string ⟨(Lib.decDigits i).toArray⟩) ∧ w' = w := Any.strconv_Itoa_small Tryz.lays171 i hi w
def Tryz.laysC172_ren : Go.Shelf.Ren := ⟨fun | 172 => 176 | 244 => 203 | 245 => 204 | 247 => 217 | 279 => 218 | 280 => 219 | 281 => 220 | 282 => 221 | 287 => 228 | 316 => 229 | 171 => 44 | 205 => 230 | 321 => 233 | 322 => 234 | 243 => 77 | 246 => 117 | 283 => 159 | 284 => 160 | 285 => 161 | 286 => 162 | 129 => 188 | 317 => 187 | 318 => 189 | 319 => 190 | 320 => 191 | 337 => 209 | 338 => 210 | n => n, fun | 9 => 9 | 3 => 3 | 75 => 82 | 76 => 83 | 4 => 4 | 5 => 5 | 167 => 229 | 37 => 41 | 0 => 0 | 85 => 230 | 2 => 2 | 168 => 232 | 53 => 115 | 175 => 241 | 46 => 191 | 210 => 244 | 127 => 120 | 145 => 250 | 143 => 248 | 21 => 21 | 171 => 180 | 173 => 183 | 212 => 199 | 51 => 200 | 20 => 20 | 213 => 201 | 232 => 236 | 233 => 237 | 80 => 87 | n => n, fun | 15 => 8 | 16 => 9 | 17 => 2 | 18 => 6 | 19 => 7 | n => n⟩
theorem Tryz.laysC172 : Go.Proofs.LaysC.n172 Tryz.prog Tryz.laysC172_ren := {
 mixed := by kernel_rfl
 f129 := Tryz.func188.trans (congrArg some (by kernel_rfl))
 f171 := Tryz.func44.trans (congrArg some (by kernel_rfl))
 f172 := Tryz.func176.trans (congrArg some (by kernel_rfl))
 f205 := Tryz.func230.trans (congrArg some (by kernel_rfl))
 f243 := Tryz.func77.trans (congrArg some (by kernel_rfl))
 f244 := Tryz.func203.trans (congrArg some (by kernel_rfl))
 f245 := Tryz.func204.trans (congrArg some (by kernel_rfl))
 f246 := Tryz.func117.trans (congrArg some (by kernel_rfl))
 f247 := Tryz.func217.trans (congrArg some (by kernel_rfl))
 f279 := Tryz.func218.trans (congrArg some (by kernel_rfl))
 f280 := Tryz.func219.trans (congrArg some (by kernel_rfl))
 f281 := Tryz.func220.trans (congrArg some (by kernel_rfl))
 f282 := Tryz.func221.trans (congrArg some (by kernel_rfl))
 f283 := Tryz.func159.trans (congrArg some (by kernel_rfl))
 f284 := Tryz.func160.trans (congrArg some (by kernel_rfl))
 f285 := Tryz.func161.trans (congrArg some (by kernel_rfl))
 f286 := Tryz.func162.trans (congrArg some (by kernel_rfl))
 f287 := Tryz.func228.trans (congrArg some (by kernel_rfl))
 f316 := Tryz.func229.trans (congrArg some (by kernel_rfl))
 f317 := Tryz.func187.trans (congrArg some (by kernel_rfl))
 f318 := Tryz.func189.trans (congrArg some (by kernel_rfl))
 f319 := Tryz.func190.trans (congrArg some (by kernel_rfl))
 f320 := Tryz.func191.trans (congrArg some (by kernel_rfl))
 f321 := Tryz.func233.trans (congrArg some (by kernel_rfl))
 f322 := Tryz.func234.trans (congrArg some (by kernel_rfl))
 f337 := Tryz.func209.trans (congrArg some (by kernel_rfl))
 f338 := Tryz.func210.trans (congrArg some (by kernel_rfl))
 t0 := Tryz.underlying0
 a0 := Tryz.isAgg0
 z0 := Tryz.sizeOf0
 v0 := Tryz.zeroValue0
 t2 := Tryz.underlying2
 a2 := Tryz.isAgg2
 z2 := Tryz.sizeOf2
 v2 := Tryz.zeroValue2
 t3 := Tryz.underlying3
 a3 := Tryz.isAgg3
 z3 := Tryz.sizeOf3
 v3 := Tryz.zeroValue3
 t4 := Tryz.underlying4
 a4 := Tryz.isAgg4
 z4 := Tryz.sizeOf4
 v4 := Tryz.zeroValue4
 t5 := Tryz.underlying5
 a5 := Tryz.isAgg5
 z5 := Tryz.sizeOf5
 v5 := Tryz.zeroValue5
 t9 := Tryz.underlying9
 a9 := Tryz.isAgg9
 z9 := Tryz.sizeOf9
 v9 := Tryz.zeroValue9
 t20 := Tryz.underlying20
 a20 := Tryz.isAgg20
 z20 := Tryz.sizeOf20
 v20 := Tryz.zeroValue20
 t21 := Tryz.underlying21
 a21 := Tryz.isAgg21
 z21 := Tryz.sizeOf21
 v21 := Tryz.zeroValue21
 t37 := Tryz.underlying41
 a37 := Tryz.isAgg41
 z37 := Tryz.sizeOf41
 v37 := Tryz.zeroValue41
 t46 := Tryz.underlying191
 a46 := Tryz.isAgg191
 z46 := Tryz.sizeOf191
 v46 := Tryz.zeroValue191
 t51 := Tryz.underlying200
 a51 := Tryz.isAgg200
 z51 := Tryz.sizeOf200
 v51 := Tryz.zeroValue200
 t53 := Tryz.underlying115
 a53 := Tryz.isAgg115
 z53 := Tryz.sizeOf115
 v53 := Tryz.zeroValue115
 t75 := Tryz.underlying82
 a75 := Tryz.isAgg82
 z75 := Tryz.sizeOf82
 v75 := Tryz.zeroValue82
 t76 := Tryz.underlying83
 a76 := Tryz.isAgg83
 z76 := Tryz.sizeOf83
 v76 := Tryz.zeroValue83
 t85 := Tryz.underlying230
 a85 := Tryz.isAgg230
 z85 := Tryz.sizeOf230
 v85 := Tryz.zeroValue230
 t127 := Tryz.underlying120
 a127 := Tryz.isAgg120
 z127 := Tryz.sizeOf120
 v127 := Tryz.zeroValue120
 t143 := Tryz.underlying248
 a143 := Tryz.isAgg248
 z143 := Tryz.sizeOf248
 v143 := Tryz.zeroValue248
 t145 := Tryz.underlying250
 a145 := Tryz.isAgg250
 z145 := Tryz.sizeOf250
 v145 := Tryz.zeroValue250
 t167 := Tryz.underlying229
 a167 := Tryz.isAgg229
 z167 := Tryz.sizeOf229
 v167 := Tryz.zeroValue229
 t168 := Tryz.underlying232
 a168 := Tryz.isAgg232
 z168 := Tryz.sizeOf232
 v168 := Tryz.zeroValue232
 t171 := Tryz.underlying180
 a171 := Tryz.isAgg180
 z171 := Tryz.sizeOf180
 v171 := Tryz.zeroValue180
 t173 := Tryz.underlying183
 a173 := Tryz.isAgg183
 z173 := Tryz.sizeOf183
 v173 := Tryz.zeroValue183
 t175 := Tryz.underlying241
 a175 := Tryz.isAgg241
 z175 := Tryz.sizeOf241
 v175 := Tryz.zeroValue241
 t210 := Tryz.underlying244
 a210 := Tryz.isAgg244
 z210 := Tryz.sizeOf244
 v210 := Tryz.zeroValue244
 t212 := Tryz.underlying199
 a212 := Tryz.isAgg199
 z212 := Tryz.sizeOf199
 v212 := Tryz.zeroValue199
 t213 := Tryz.underlying201
 a213 := Tryz.isAgg201
 z213 := Tryz.sizeOf201
 t232 := Tryz.underlying236
 a232 := Tryz.isAgg236
 z232 := Tryz.sizeOf236
 v232 := Tryz.zeroValue236
 t233 := Tryz.underlying237
 a233 := Tryz.isAgg237
 z233 := Tryz.sizeOf237
 v233 := Tryz.zeroValue237
 g15 := by kernel_rfl
 g16 := by kernel_rfl
 g17 := by kernel_rfl
 g18 := by kernel_rfl
 g19 := by kernel_rfl
 t80 := Tryz.underlying87
 a80 := Tryz.isAgg87
 z80 := Tryz.sizeOf87
 v80 := Tryz.zeroValue87
 i0 := by kernel_rfl
 i2 := by kernel_rfl
 i3 := by kernel_rfl
 i4 := by kernel_rfl
 i5 := by kernel_rfl
 i9 := by kernel_rfl
 i20 := by kernel_rfl
 i21 := by kernel_rfl
 i37 := by kernel_rfl
 i46 := by kernel_rfl
 i51 := by kernel_rfl
 i53 := by kernel_rfl
 i75 := by kernel_rfl
 i76 := by kernel_rfl
 i80 := by kernel_rfl
 i85 := by kernel_rfl
 i127 := by kernel_rfl
 i143 := by kernel_rfl
 i145 := by kernel_rfl
 i167 := by kernel_rfl
 i168 := by kernel_rfl
 i171 := by kernel_rfl
 i173 := by kernel_rfl
 i175 := by kernel_rfl
 i210 := by kernel_rfl
 i212 := by kernel_rfl
 i232 := by kernel_rfl
 i233 := by kernel_rfl
 m15 := by kernel_rfl
 m16 := by kernel_rfl
 m17 := by kernel_rfl
 m18 := by kernel_rfl
 m19 := by kernel_rfl
 c0 := by kernel_rfl
 c2 := by kernel_rfl
 c3 := by kernel_rfl
 c4 := by kernel_rfl
 c5 := by kernel_rfl
 c9 := by kernel_rfl
 c20 := by kernel_rfl
 c21 := by kernel_rfl
 c37 := by kernel_rfl
 c46 := by kernel_rfl
 c51 := by kernel_rfl
 c53 := by kernel_rfl
 c75 := by kernel_rfl
 c76 := by kernel_rfl
 c80 := by kernel_rfl
 c85 := by kernel_rfl
 c127 := by kernel_rfl
 c143 := by kernel_rfl
 c145 := by kernel_rfl
 c167 := by kernel_rfl
 c168 := by kernel_rfl
 c171 := by kernel_rfl
 c173 := by kernel_rfl
 c175 := by kernel_rfl
 c210 := by kernel_rfl
 c212 := by kernel_rfl
 c213 := by kernel_rfl
 c232 := by kernel_rfl
 c233 := by kernel_rfl }
open Go.RowKit in
theorem Tryz.strconv_Atoi_ok (s : ByteArray) (hmax : s.size ≤ 9223372036854775806) (v : Int) (h : Lib.atoiAll s.data.toList = .ok v) (w : World) :
  Calls Tryz.prog 176 #[.string s] w fun e w' => e = .returned (.tuple #[.int .i64 v, .nilIface]) ∧ (w' = w ∨ ∃ t, w' = Lib.bytesWorld w 5 t) := Any.strconv_Atoi_ok Tryz.laysC172 s hmax v h w
open Go.RowKit in
theorem Tryz.strconv_Atoi_syntax (s : ByteArray) (hlim : s.size ≤ 281474976710656) (h : Lib.atoiAll s.data.toList = Lib.NumEnd.syntax) (ev : Value) (w : World) (hv : w.cell? ⟨8, 0, none⟩ = some ev) (hev : ev = .nilIface ∨ ∃ te pe, ev = .iface te pe) :
  Calls Tryz.prog 176 #[.string s] w fun e w' => ∃ N, e = .returned (.tuple #[.int .i64 (0), .iface 232 (.pointer (some ⟨N, 0, none⟩))]) ∧ w.heap.size ≤ N ∧ w'.heap[N]? = some (.cells #[.string ⟨#[65, 116, 111, 105]⟩, .string s, ev] 244 (0, 0)) ∧ Below w.heap.size w w' := Any.strconv_Atoi_syntax Tryz.laysC172 s hlim h ev w hv hev
open Go.RowKit in
theorem Tryz.strconv_Atoi_range (s : ByteArray) (hlim : s.size ≤ 281474976710656) (h : Lib.atoiAll s.data.toList = .range) (ev : Value) (w : World) (hv : w.cell? ⟨9, 0, none⟩ = some ev) (hev : ev = .nilIface ∨ ∃ te pe, ev = .iface te pe) :
  Calls Tryz.prog 176 #[.string s] w fun e w' => ∃ N, e = .returned (.tuple #[.int .i64 (Lib.atoiSat s.data.toList), .iface 232 (.pointer (some ⟨N, 0, none⟩))]) ∧ w.heap.size ≤ N ∧ w'.heap[N]? = some (.cells #[.string ⟨#[65, 116, 111, 105]⟩, .string s, ev] 244 (0, 0)) ∧ Below w.heap.size w w' := Any.strconv_Atoi_range Tryz.laysC172 s hlim h ev w hv hev
def Tryz.lays143_ren : Go.Shelf.Ren := ⟨fun | 143 => 119 | 219 => 165 | 217 => 192 | 225 => 193 | 224 => 194 | 267 => 195 | 266 => 211 | 314 => 212 | n => n, fun | 9 => 9 | 3 => 3 | 4 => 4 | 5 => 5 | 46 => 191 | 146 => 222 | 51 => 200 | n => n, fun | 1 => 0 | n => n⟩
theorem Tryz.lays143 : Go.Proofs.Lays.n143 Tryz.prog Tryz.lays143_ren := {
 mixed := by kernel_rfl
 f143 := Tryz.func119.trans (congrArg some (by kernel_rfl))
 f217 := Tryz.func192.trans (congrArg some (by kernel_rfl))
 f219 := Tryz.func165.trans (congrArg some (by kernel_rfl))
 f224 := Tryz.func194.trans (congrArg some (by kernel_rfl))
 f225 := Tryz.func193.trans (congrArg some (by kernel_rfl))
 f266 := Tryz.func211.trans (congrArg some (by kernel_rfl))
 f267 := Tryz.func195.trans (congrArg some (by kernel_rfl))
 f314 := Tryz.func212.trans (congrArg some (by kernel_rfl))
 t3 := Tryz.underlying3
 a3 := Tryz.isAgg3
 z3 := Tryz.sizeOf3
 v3 := Tryz.zeroValue3
 t4 := Tryz.underlying4
 a4 := Tryz.isAgg4
 z4 := Tryz.sizeOf4
 v4 := Tryz.zeroValue4
 t5 := Tryz.underlying5
 a5 := Tryz.isAgg5
 z5 := Tryz.sizeOf5
 v5 := Tryz.zeroValue5
 t9 := Tryz.underlying9
 a9 := Tryz.isAgg9
 z9 := Tryz.sizeOf9
 v9 := Tryz.zeroValue9
 t46 := Tryz.underlying191
 a46 := Tryz.isAgg191
 z46 := Tryz.sizeOf191
 v46 := Tryz.zeroValue191
 t51 := Tryz.underlying200
 a51 := Tryz.isAgg200
 z51 := Tryz.sizeOf200
 v51 := Tryz.zeroValue200
 t146 := Tryz.underlying222
 a146 := Tryz.isAgg222
 z146 := Tryz.sizeOf222
 v146 := Tryz.zeroValue222
 g1 := by kernel_rfl }
open Go.RowKit Go.Lib in
theorem Tryz.strings_Index (s sub : ByteArray) (m : Int) (w : World) (hs : s.size < 4294967281) (hm : w.cell? ⟨0, 0, none⟩ = some (.int .i64 m)) :
  Calls Tryz.prog 119 #[.string s, .string sub] w fun e w' => e = .returned (.int .i64 (Lib.index s.data.toList sub.data.toList)) ∧ w' = w := Any.strings_Index Tryz.lays143 s sub m w hs hm
def Tryz.lays145_ren : Go.Shelf.Ren := ⟨fun | 145 => 206 | 220 => 223 | 219 => 165 | 217 => 192 | 225 => 193 | 224 => 194 | 267 => 195 | 266 => 211 | 314 => 212 | n => n, fun | 9 => 9 | 4 => 4 | 59 => 218 | 3 => 3 | 5 => 5 | 46 => 191 | 146 => 222 | 51 => 200 | n => n, fun | 1 => 0 | n => n⟩
theorem Tryz.lays145 : Go.Proofs.Lays.n145 Tryz.prog Tryz.lays145_ren := {
 mixed := by kernel_rfl
 f145 := Tryz.func206.trans (congrArg some (by kernel_rfl))
 f217 := Tryz.func192.trans (congrArg some (by kernel_rfl))
 f219 := Tryz.func165.trans (congrArg some (by kernel_rfl))
 f220 := Tryz.func223.trans (congrArg some (by kernel_rfl))
 f224 := Tryz.func194.trans (congrArg some (by kernel_rfl))
 f225 := Tryz.func193.trans (congrArg some (by kernel_rfl))
 f266 := Tryz.func211.trans (congrArg some (by kernel_rfl))
 f267 := Tryz.func195.trans (congrArg some (by kernel_rfl))
 f314 := Tryz.func212.trans (congrArg some (by kernel_rfl))
 t3 := Tryz.underlying3
 a3 := Tryz.isAgg3
 z3 := Tryz.sizeOf3
 v3 := Tryz.zeroValue3
 t4 := Tryz.underlying4
 a4 := Tryz.isAgg4
 z4 := Tryz.sizeOf4
 v4 := Tryz.zeroValue4
 t5 := Tryz.underlying5
 a5 := Tryz.isAgg5
 z5 := Tryz.sizeOf5
 v5 := Tryz.zeroValue5
 t9 := Tryz.underlying9
 a9 := Tryz.isAgg9
 z9 := Tryz.sizeOf9
 v9 := Tryz.zeroValue9
 t46 := Tryz.underlying191
 a46 := Tryz.isAgg191
 z46 := Tryz.sizeOf191
 v46 := Tryz.zeroValue191
 t51 := Tryz.underlying200
 a51 := Tryz.isAgg200
 z51 := Tryz.sizeOf200
 v51 := Tryz.zeroValue200
 t59 := Tryz.underlying218
 a59 := Tryz.isAgg218
 z59 := Tryz.sizeOf218
 v59 := Tryz.zeroValue218
 t146 := Tryz.underlying222
 a146 := Tryz.isAgg222
 z146 := Tryz.sizeOf222
 v146 := Tryz.zeroValue222
 g1 := by kernel_rfl }
open Go.RowKit Go.Lib in
theorem Tryz.strings_Cut (s sep : ByteArray) (m : Int) (w : World) (hs : s.size < 4294967281) (hm : w.cell? ⟨0, 0, none⟩ = some (.int .i64 m)) :
  Calls Tryz.prog 206 #[.string s, .string sep] w fun e w' => e = .returned (.tuple #[.string ⟨(Lib.cut s.data.toList sep.data.toList).1.toArray⟩, .string ⟨(Lib.cut s.data.toList sep.data.toList).2.1.toArray⟩, .bool (Lib.cut s.data.toList sep.data.toList).2.2]) ∧ ∃ n, w' = w.drewN n := Any.strings_Cut Tryz.lays145 s sep m w hs hm
def Tryz.lays99_ren : Go.Shelf.Ren := ⟨fun | 99 => 198 | 206 => 215 | n => n, fun | 9 => 9 | 4 => 4 | 3 => 3 | n => n, fun | n => n⟩
theorem Tryz.lays99 : Go.Proofs.Lays.n99 Tryz.prog Tryz.lays99_ren := {
 mixed := by kernel_rfl
 f99 := Tryz.func198.trans (congrArg some (by kernel_rfl))
 f206 := Tryz.func215.trans (congrArg some (by kernel_rfl))
 t3 := Tryz.underlying3
 a3 := Tryz.isAgg3
 z3 := Tryz.sizeOf3
 v3 := Tryz.zeroValue3
 t4 := Tryz.underlying4
 a4 := Tryz.isAgg4
 z4 := Tryz.sizeOf4
 v4 := Tryz.zeroValue4
 t9 := Tryz.underlying9
 a9 := Tryz.isAgg9
 z9 := Tryz.sizeOf9
 v9 := Tryz.zeroValue9 }
open Go.RowKit Go.Lib in
theorem Tryz.strings_HasPrefix (s p : ByteArray) (w : World) :
  Calls Tryz.prog 198 #[.string s, .string p] w fun e w' => e = .returned (.bool (Lib.hasPrefix s.data.toList p.data.toList)) ∧ w' = w := Any.strings_HasPrefix Tryz.lays99 s p w
def Tryz.lays155_ren : Go.Shelf.Ren := ⟨fun | 155 => 45 | 154 => 78 | 138 => 118 | 165 => 84 | 143 => 119 | 166 => 48 | 197 => 120 | 169 => 51 | 195 => 163 | 218 => 164 | 240 => 83 | 241 => 127 | 219 => 165 | 260 => 166 | 276 => 126 | 277 => 174 | 217 => 192 | 225 => 193 | 224 => 194 | 267 => 195 | 266 => 211 | 314 => 212 | n => n, fun | 9 => 9 | 3 => 3 | 4 => 4 | 72 => 80 | 0 => 0 | 76 => 83 | 105 => 149 | 21 => 21 | 5 => 5 | 70 => 78 | 20 => 20 | 37 => 41 | 75 => 82 | 127 => 120 | 164 => 160 | 46 => 191 | 119 => 203 | 139 => 206 | 138 => 205 | 146 => 222 | 51 => 200 | 80 => 87 | n => n, fun | 1 => 0 | 3 => 3 | 4 => 4 | n => n⟩
theorem Tryz.lays155 : Go.Proofs.Lays.n155 Tryz.prog Tryz.lays155_ren := {
 mixed := by kernel_rfl
 f138 := Tryz.func118.trans (congrArg some (by kernel_rfl))
 f143 := Tryz.func119.trans (congrArg some (by kernel_rfl))
 f154 := Tryz.func78.trans (congrArg some (by kernel_rfl))
 f155 := Tryz.func45.trans (congrArg some (by kernel_rfl))
 f165 := Tryz.func84.trans (congrArg some (by kernel_rfl))
 f166 := Tryz.func48.trans (congrArg some (by kernel_rfl))
 f169 := Tryz.func51.trans (congrArg some (by kernel_rfl))
 f195 := Tryz.func163.trans (congrArg some (by kernel_rfl))
 f197 := Tryz.func120.trans (congrArg some (by kernel_rfl))
 f217 := Tryz.func192.trans (congrArg some (by kernel_rfl))
 f218 := Tryz.func164.trans (congrArg some (by kernel_rfl))
 f219 := Tryz.func165.trans (congrArg some (by kernel_rfl))
 f224 := Tryz.func194.trans (congrArg some (by kernel_rfl))
 f225 := Tryz.func193.trans (congrArg some (by kernel_rfl))
 f240 := Tryz.func83.trans (congrArg some (by kernel_rfl))
 f241 := Tryz.func127.trans (congrArg some (by kernel_rfl))
 f260 := Tryz.func166.trans (congrArg some (by kernel_rfl))
 f266 := Tryz.func211.trans (congrArg some (by kernel_rfl))
 f267 := Tryz.func195.trans (congrArg some (by kernel_rfl))
 f276 := Tryz.func126.trans (congrArg some (by kernel_rfl))
 f277 := Tryz.func174.trans (congrArg some (by kernel_rfl))
 f314 := Tryz.func212.trans (congrArg some (by kernel_rfl))
 t0 := Tryz.underlying0
 a0 := Tryz.isAgg0
 z0 := Tryz.sizeOf0
 v0 := Tryz.zeroValue0
 t3 := Tryz.underlying3
 a3 := Tryz.isAgg3
 z3 := Tryz.sizeOf3
 v3 := Tryz.zeroValue3
 t4 := Tryz.underlying4
 a4 := Tryz.isAgg4
 z4 := Tryz.sizeOf4
 v4 := Tryz.zeroValue4
 t5 := Tryz.underlying5
 a5 := Tryz.isAgg5
 z5 := Tryz.sizeOf5
 v5 := Tryz.zeroValue5
 t9 := Tryz.underlying9
 a9 := Tryz.isAgg9
 z9 := Tryz.sizeOf9
 v9 := Tryz.zeroValue9
 t20 := Tryz.underlying20
 a20 := Tryz.isAgg20
 z20 := Tryz.sizeOf20
 v20 := Tryz.zeroValue20
 t21 := Tryz.underlying21
 a21 := Tryz.isAgg21
 z21 := Tryz.sizeOf21
 v21 := Tryz.zeroValue21
 t37 := Tryz.underlying41
 a37 := Tryz.isAgg41
 z37 := Tryz.sizeOf41
 v37 := Tryz.zeroValue41
 t46 := Tryz.underlying191
 a46 := Tryz.isAgg191
 z46 := Tryz.sizeOf191
 v46 := Tryz.zeroValue191
 t51 := Tryz.underlying200
 a51 := Tryz.isAgg200
 z51 := Tryz.sizeOf200
 v51 := Tryz.zeroValue200
 t70 := Tryz.underlying78
 a70 := Tryz.isAgg78
 z70 := Tryz.sizeOf78
 v70 := Tryz.zeroValue78
 t72 := Tryz.underlying80
 a72 := Tryz.isAgg80
 z72 := Tryz.sizeOf80
 v72 := Tryz.zeroValue80
 t75 := Tryz.underlying82
 a75 := Tryz.isAgg82
 z75 := Tryz.sizeOf82
 v75 := Tryz.zeroValue82
 t76 := Tryz.underlying83
 a76 := Tryz.isAgg83
 z76 := Tryz.sizeOf83
 v76 := Tryz.zeroValue83
 t105 := Tryz.underlying149
 a105 := Tryz.isAgg149
 z105 := Tryz.sizeOf149
 v105 := Tryz.zeroValue149
 t119 := Tryz.underlying203
 a119 := Tryz.isAgg203
 z119 := Tryz.sizeOf203
 t127 := Tryz.underlying120
 a127 := Tryz.isAgg120
 z127 := Tryz.sizeOf120
 v127 := Tryz.zeroValue120
 t138 := Tryz.underlying205
 a138 := Tryz.isAgg205
 z138 := Tryz.sizeOf205
 v138 := Tryz.zeroValue205
 t139 := Tryz.underlying206
 a139 := Tryz.isAgg206
 z139 := Tryz.sizeOf206
 v139 := Tryz.zeroValue206
 t146 := Tryz.underlying222
 a146 := Tryz.isAgg222
 z146 := Tryz.sizeOf222
 v146 := Tryz.zeroValue222
 t164 := Tryz.underlying160
 a164 := Tryz.isAgg160
 z164 := Tryz.sizeOf160
 v164 := Tryz.zeroValue160
 g1 := by kernel_rfl
 g3 := by kernel_rfl
 g4 := by kernel_rfl }
theorem Tryz.Builder_Extra_155 : Builder.Extra Tryz.prog Tryz.lays155_ren := {
 sizeBuilder := by kernel_rfl
 liesBuilder := by kernel_rfl
 t5 := Tryz.underlying5
 a5 := Tryz.isAgg5
 z5 := Tryz.sizeOf5
 v5 := Tryz.zeroValue5
 infoByte := by kernel_rfl
 cellsByte := by kernel_rfl
 sizeByte := by kernel_rfl
 neB5 := by decide }
open Go.RowKit Go.Lib in
theorem Tryz.strings_ReplaceAll (s old new : ByteArray) (m : Int) (w : World) (hs : s.size < 4294967281) (hm : w.cell? ⟨0, 0, none⟩ = some (.int .i64 m)) (h1 : 1 ≤ old.size) (hlen : s.size + Lib.countB s old * new.size ≤ 140737488355328) :
  Calls Tryz.prog 45 #[.string s, .string old, .string new] w fun e w' =>
   e = .returned (.string ⟨(Lib.replaceAll s.data.toList old.data.toList new.data.toList).toArray⟩) ∧ Below w.heap.size w w' := Any.strings_ReplaceAll Tryz.lays155 Tryz.Builder_Extra_155 s old new m w hs hm h1 hlen
def Tryz.lays153_ren : Go.Shelf.Ren := ⟨fun | 153 => 175 | 152 => 199 | 226 => 200 | 227 => 201 | 228 => 202 | 137 => 177 | 119 => 216 | 224 => 194 | 225 => 193 | 217 => 192 | 266 => 211 | n => n, fun | 9 => 9 | 3 => 3 | 4 => 4 | 5 => 5 | 21 => 21 | 117 => 214 | 116 => 213 | 0 => 0 | 46 => 191 | 124 => 228 | n => n, fun | n => n⟩
theorem Tryz.lays153 : Go.Proofs.Lays.n153 Tryz.prog Tryz.lays153_ren := {
 mixed := by kernel_rfl
 f119 := Tryz.func216.trans (congrArg some (by kernel_rfl))
 f137 := Tryz.func177.trans (congrArg some (by kernel_rfl))
 f152 := Tryz.func199.trans (congrArg some (by kernel_rfl))
 f153 := Tryz.func175.trans (congrArg some (by kernel_rfl))
 f217 := Tryz.func192.trans (congrArg some (by kernel_rfl))
 f224 := Tryz.func194.trans (congrArg some (by kernel_rfl))
 f225 := Tryz.func193.trans (congrArg some (by kernel_rfl))
 f226 := Tryz.func200.trans (congrArg some (by kernel_rfl))
 f227 := Tryz.func201.trans (congrArg some (by kernel_rfl))
 f228 := Tryz.func202.trans (congrArg some (by kernel_rfl))
 f266 := Tryz.func211.trans (congrArg some (by kernel_rfl))
 t0 := Tryz.underlying0
 a0 := Tryz.isAgg0
 z0 := Tryz.sizeOf0
 v0 := Tryz.zeroValue0
 t3 := Tryz.underlying3
 a3 := Tryz.isAgg3
 z3 := Tryz.sizeOf3
 v3 := Tryz.zeroValue3
 t4 := Tryz.underlying4
 a4 := Tryz.isAgg4
 z4 := Tryz.sizeOf4
 v4 := Tryz.zeroValue4
 t5 := Tryz.underlying5
 a5 := Tryz.isAgg5
 z5 := Tryz.sizeOf5
 v5 := Tryz.zeroValue5
 t9 := Tryz.underlying9
 a9 := Tryz.isAgg9
 z9 := Tryz.sizeOf9
 v9 := Tryz.zeroValue9
 t21 := Tryz.underlying21
 a21 := Tryz.isAgg21
 z21 := Tryz.sizeOf21
 v21 := Tryz.zeroValue21
 t46 := Tryz.underlying191
 a46 := Tryz.isAgg191
 z46 := Tryz.sizeOf191
 v46 := Tryz.zeroValue191
 t116 := Tryz.underlying213
 a116 := Tryz.isAgg213
 z116 := Tryz.sizeOf213
 t117 := Tryz.underlying214
 a117 := Tryz.isAgg214
 z117 := Tryz.sizeOf214
 v117 := Tryz.zeroValue214
 t124 := Tryz.underlying228
 a124 := Tryz.isAgg228
 z124 := Tryz.sizeOf228
 v124 := Tryz.zeroValue228 }
def Tryz.lays105_ren : Go.Shelf.Ren := ⟨fun | 105 => 197 | 212 => 213 | 99 => 198 | 165 => 84 | 166 => 48 | 170 => 214 | 169 => 51 | 263 => 226 | 264 => 227 | 206 => 215 | 240 => 83 | 241 => 127 | 276 => 126 | 277 => 174 | n => n, fun | 9 => 9 | 3 => 3 | 4 => 4 | 20 => 20 | 0 => 0 | 46 => 191 | 109 => 224 | 5 => 5 | 72 => 80 | 76 => 83 | 51 => 200 | 146 => 222 | 53 => 115 | 148 => 239 | 70 => 78 | 37 => 41 | 75 => 82 | 127 => 120 | 164 => 160 | 80 => 87 | n => n, fun | n => n⟩
theorem Tryz.lays105 : Go.Proofs.Lays.n105 Tryz.prog Tryz.lays105_ren := {
 mixed := by kernel_rfl
 f99 := Tryz.func198.trans (congrArg some (by kernel_rfl))
 f105 := Tryz.func197.trans (congrArg some (by kernel_rfl))
 f165 := Tryz.func84.trans (congrArg some (by kernel_rfl))
 f166 := Tryz.func48.trans (congrArg some (by kernel_rfl))
 f169 := Tryz.func51.trans (congrArg some (by kernel_rfl))
 f170 := Tryz.func214.trans (congrArg some (by kernel_rfl))
 f206 := Tryz.func215.trans (congrArg some (by kernel_rfl))
 f212 := Tryz.func213.trans (congrArg some (by kernel_rfl))
 f240 := Tryz.func83.trans (congrArg some (by kernel_rfl))
 f241 := Tryz.func127.trans (congrArg some (by kernel_rfl))
 f263 := Tryz.func226.trans (congrArg some (by kernel_rfl))
 f264 := Tryz.func227.trans (congrArg some (by kernel_rfl))
 f276 := Tryz.func126.trans (congrArg some (by kernel_rfl))
 f277 := Tryz.func174.trans (congrArg some (by kernel_rfl))
 t0 := Tryz.underlying0
 a0 := Tryz.isAgg0
 z0 := Tryz.sizeOf0
 v0 := Tryz.zeroValue0
 t3 := Tryz.underlying3
 a3 := Tryz.isAgg3
 z3 := Tryz.sizeOf3
 v3 := Tryz.zeroValue3
 t4 := Tryz.underlying4
 a4 := Tryz.isAgg4
 z4 := Tryz.sizeOf4
 v4 := Tryz.zeroValue4
 t5 := Tryz.underlying5
 a5 := Tryz.isAgg5
 z5 := Tryz.sizeOf5
 v5 := Tryz.zeroValue5
 t9 := Tryz.underlying9
 a9 := Tryz.isAgg9
 z9 := Tryz.sizeOf9
 v9 := Tryz.zeroValue9
 t20 := Tryz.underlying20
 a20 := Tryz.isAgg20
 z20 := Tryz.sizeOf20
 v20 := Tryz.zeroValue20
 t37 := Tryz.underlying41
 a37 := Tryz.isAgg41
 z37 := Tryz.sizeOf41
 v37 := Tryz.zeroValue41
 t46 := Tryz.underlying191
 a46 := Tryz.isAgg191
 z46 := Tryz.sizeOf191
 v46 := Tryz.zeroValue191
 t51 := Tryz.underlying200
 a51 := Tryz.isAgg200
 z51 := Tryz.sizeOf200
 v51 := Tryz.zeroValue200
 t53 := Tryz.underlying115
 a53 := Tryz.isAgg115
 z53 := Tryz.sizeOf115
 v53 := Tryz.zeroValue115
 t70 := Tryz.underlying78
 a70 := Tryz.isAgg78
 z70 := Tryz.sizeOf78
 v70 := Tryz.zeroValue78
 t72 := Tryz.underlying80
 a72 := Tryz.isAgg80
 z72 := Tryz.sizeOf80
 v72 := Tryz.zeroValue80
 t75 := Tryz.underlying82
 a75 := Tryz.isAgg82
 z75 := Tryz.sizeOf82
 v75 := Tryz.zeroValue82
 t76 := Tryz.underlying83
 a76 := Tryz.isAgg83
 z76 := Tryz.sizeOf83
 v76 := Tryz.zeroValue83
 t109 := Tryz.underlying224
 a109 := Tryz.isAgg224
 z109 := Tryz.sizeOf224
 v109 := Tryz.zeroValue224
 t127 := Tryz.underlying120
 a127 := Tryz.isAgg120
 z127 := Tryz.sizeOf120
 v127 := Tryz.zeroValue120
 t146 := Tryz.underlying222
 a146 := Tryz.isAgg222
 z146 := Tryz.sizeOf222
 v146 := Tryz.zeroValue222
 t148 := Tryz.underlying239
 a148 := Tryz.isAgg239
 z148 := Tryz.sizeOf239
 v148 := Tryz.zeroValue239
 t164 := Tryz.underlying160
 a164 := Tryz.isAgg160
 z164 := Tryz.sizeOf160
 v164 := Tryz.zeroValue160 }
theorem Tryz.Builder_Extra_105 : Builder.Extra Tryz.prog Tryz.lays105_ren := {
 sizeBuilder := by kernel_rfl
 liesBuilder := by kernel_rfl
 t5 := Tryz.underlying5
 a5 := Tryz.isAgg5
 z5 := Tryz.sizeOf5
 v5 := Tryz.zeroValue5
 infoByte := by kernel_rfl
 cellsByte := by kernel_rfl
 sizeByte := by kernel_rfl
 neB5 := by decide }
open Go.RowKit Go.Lib in
theorem Tryz.strings_Repeat (s : ByteArray) (c : Nat) (w : World) (hc : c ≤ 9223372036854775807) (hlen : s.size * c ≤ 140737488355328) :
  Calls Tryz.prog 197 #[.string s, .int .i64 c] w fun e w' => e = .returned (.string ⟨(Lib.repeatL s.data.toList c).toArray⟩) ∧ Below w.heap.size w w' := Any.strings_Repeat Tryz.lays105 Tryz.Builder_Extra_105 s c w hc hlen
end Go.Proofs
namespace Go.Proofs.YtmpgfchkkemngaaGreatDoor
open Go.RowKit Go.V
open Go.Eng (inR byteAt u8 bH)
variable {g : Gv}
theorem sZ (k : Nat) : u8 (k : Int) = UInt8.ofNat k := by
 have e : ((k : Int) % 256).toNat = k % 256 := by omega
 rw [u8, e]
 apply UInt8.toNat_inj.1
 simp
theorem aNF {i : Nat} (h : i < 100) : Lib.decDigits i = dec2 (i : Int) := by
 by_cases h1 : i < 10
 rw [Lib.decDigits_one h1, dec2, if_pos (by omega), ← sZ]; rfl
 rw [Lib.decDigits_two h1 h, dec2, if_neg (by omega), ← sZ, ← sZ]; rfl
theorem pN (n : Int) (h0 : 0 ≤ n) (h1 : n ≤ 99) : SpG g 44 [.c (cI n)] [] (.c (cS (S (dec2 n)))) [] := by
 refine tW (args := [.int .i64 n]) rfl rfl rfl fun w => ?_
 have h := Tryz.strconv_Itoa_small n.toNat (by omega) w
 have e : ((n.toNat : Nat) : Int) = n := by omega
 have d := aNF (i := n.toNat) (by omega)
 simp only [e] at d
 rw [e, d] at h
 exact h.mono fun _ _ ⟨a, b⟩ => ⟨a, b.symm⟩
theorem zH (sep : List UInt8) : ∀ l : List (List UInt8), Lib.join l sep = joinL sep l
 | [] => rfl
 | [x] => by simp [Lib.join, joinL, List.intercalate]
 | x :: y :: r => by
  have := zH sep (y :: r)
  simp only [Lib.join, joinL, List.intercalate, List.intersperse, List.flatten_cons] at this ⊢
  rw [this]
  simp
theorem aG8 (l : List (List UInt8)) (sep : List UInt8) (h : iQ sep.length l ≤ 1000000000) (hl : l.length ≤ 1000000) : SpG g 49 [.c (cM 1 (strs l)), .c (cS (S sep))] [] (.c (cS (S (joinL sep l)))) [] := by
 intro fr w pl args hw hG m ha
 obtain ⟨v, r, rfl, h1, h2⟩ := ha.uncons
 obtain ⟨u, r', rfl, h3, h4⟩ := h2.uncons
 rw [h4.unnil]
 have hu : u = .string (S sep) := Rd.exact h3
 subst hu
 have fin : (Calls Tryz.prog 49 #[v, .string (S sep)] w fun e w' => e = .returned (.string (S (joinL sep l))) ∧ Below w.heap.size w w') → Calls Tryz.prog 49 [v, .string (S sep)].toArray w fun e w' => ∃ v pl', e = .returned v ∧ Mem fr (lookO []) w' pl' ∧ bS w' pl' (lookO []) (.c (cS (S (joinL sep l)))) v := by
  intro hc
  refine Calls.mono hc ?_
  rintro e w' ⟨rfl, hb⟩
  obtain ⟨m', L⟩ := m.ext (w' := w') ⟨hb.os, hb.tape, hb.output, hb.size, fun k hk _ => hb.block k hk⟩
  exact ⟨_, pl, rfl, m', Rd.v _ rfl⟩
 refine fin ?_
 have h1 : Rd w (Sh pl (lookO [])) (.sl 1 (strs l)) v := h1
 generalize hes : strs l = es at h1
 cases h1 with
 | nil =>
  have : l = [] := by simpa [strs] using hes
  subst this
  exact (Tryz.strings_Join_none none 0 (S sep) w).mono fun _ _ ⟨a, b⟩ => ⟨a, by rw [b]; exact Below.refl _ _⟩
 | far _ ad =>
  have : l = [] := by simpa [strs] using hes
  subst this
  exact (Tryz.strings_Join_none (some ad) 0 (S sep) w).mono fun _ _ ⟨a, b⟩ => ⟨a, by rw [b]; exact Below.refl _ _⟩
 | sl us hF hb hc hm hs hu hr =>
  rename_i b off c cs e fz
  subst hes
  have hlen : (strs l).length = l.length := by simp [strs]
  have hj := gK sep l
  have e1 : (l.map S).map (fun x : ByteArray => x.data.toList) = l := by
   rw [List.map_map]
   exact (List.map_congr_left fun x _ => by simp [S]).trans (List.map_id l)
  have e2 : (S sep).data.toList = sep := by simp [S]
  have := Tryz.strings_Join b off c (l.map S) (S sep) w (fun j x hx => by
    simp only [List.getElem?_map, Option.map_eq_some_iff] at hx
    obtain ⟨t, ht, rfl⟩ := hx
    have a1 : (strs l)[j]? = some [.s (S t)] := by simp [strs, cH, ht]
    have a2 := hu j 0 _ _ a1 rfl
    have a3 := Rd.exact (hr j 0 _ _ a1 rfl)
    rw [a3] at a2
    rw [Lib.cell_of_heap hb]
    simpa using a2) (Array.getElem?_eq_some_iff.1 hb).1 (by rw [List.length_map]; omega) (by rw [List.length_map, ← hlen]; exact hc) (by rw [e1, e2, zH]; omega)
  rw [e1, e2, zH, List.length_map] at this
  rw [hlen]
  exact this
theorem aGO : ∀ s : List UInt8, Lib.replaceK [39] [39, 39] (Lib.count s [39]) s = bT s
 | [] => by rw [Lib.count_one]; rfl
 | b :: l => by
  have ih := aGO l
  by_cases hb : b = 39
  subst hb
  rw [Lib.count_cons_eq, Nat.add_comm, Lib.replaceK_hit _ _ _ _ 0 (by simp [Lib.index, List.isPrefixOf])]
  simp [ih, bT, mH]
  rw [Lib.count_cons_ne _ _ _ hb]
  have e : bT (b :: l) = b :: bT l := by simp [bT, mH, hb]
  rw [e, ← ih]
  cases hn : Lib.count l [39] with
  | zero => rfl
  | succ k =>
   obtain ⟨i, hi⟩ := Lib.index_of_count (s := l) (old := [39]) (by omega)
   have hne : ¬ (39 : UInt8) = b := fun h => hb h.symm
   have hi2 : Lib.index (b :: l) [39] = ((i + 1 : Nat) : Int) := by
    simp only [Lib.index, List.isPrefixOf, hi]
    rw [if_neg (by simp [hne]), if_neg (by simp)]
    omega
   rw [Lib.replaceK_hit _ _ _ _ _ hi2, Lib.replaceK_hit _ _ _ _ _ hi]
   simp
theorem vR (s : List UInt8) (h : s.length ≤ 1000000) : SpG g 45 [.c (cS (S s)), .c (cS (S [39])), .c (cS (S [39, 39]))] [] (.c (cS (S (bT s)))) [] := by
 refine gP (args := [.string (S s), .string (S [39]), .string (S [39, 39])]) rfl rfl rfl fun w hG => ?_
 obtain ⟨ty, fz, h0⟩ := hG 0 [.int .i64 g.maxLen] (by simp [Gl])
 have hc := Lib.countB_le (S [39]) (by decide) s.length (S s) (by rw [aF]; omega)
 rw [aF] at hc
 have := Tryz.strings_ReplaceAll (S s) (S [39]) (S [39, 39]) g.maxLen w (by rw [aF]; omega) (by rw [Lib.cell_of_heap h0]; rfl) (by decide) (by
  have e : (S [39, 39]).size = 2 := rfl
  rw [aF, e]; omega)
 have e1 : (S s).data.toList = s := by simp [S]
 have e2 : (S [39]).data.toList = [39] := by simp [S]
 have e3 : (S [39, 39]).data.toList = [39, 39] := by simp [S]
 rw [e1, e2, e3, Lib.replaceAll, Lib.replace, if_neg (by decide), Lib.replaceNum, if_pos (by omega), aGO] at this
 exact this
end Go.Proofs.YtmpgfchkkemngaaGreatDoor
namespace Go.Proofs.YtmpgfchkkemngaaGreatDoor
open Go.RowKit Go.V
open Go.Eng (inR byteAt u8 bH)
variable {g : Gv}
theorem aZ (l : List UInt8) : (S l).data.toList = l := by simp [S]
theorem jB (a b : List UInt8) : bytesD (a ++ b) = bytesD a ++ bytesD b := by simp [bytesD]
theorem aG9 {es : List (List D)} {l : List (List UInt8)} (e : es = strs l) (sep : List UInt8) (h : iQ sep.length l ≤ 1000000000) (hl : l.length ≤ 1000000) : SpG g 49 [.c (cM 1 es), .c (cS (S sep))] [] (.c (cS (S (joinL sep l)))) [] := by
 subst e; exact aG8 l sep h hl
def zq29 := And.intro @List.length_append.{0} (And.intro @List.length_cons.{0} (And.intro @List.length_map.{0, 0} (And.intro @List.length_nil.{0} (And.intro @Go.Eng.inR.eq_1 (And.intro @maxLen.eq_1 (And.intro @rowD.eq_1 (@strs.eq_1)))))))
theorem aA2 (r : List Cl) (sep : List UInt8) (hl : r.length ≤ 1000) (hs : iQ sep.length (r.map bB) ≤ 1000000000) (hT : ∀ c, c ∈ r → SpG g 15 [lJ c] [] (.c (cS (S (bB c)))) []) :
  SpG g 50 [.c (cM 7 (rowD r)), .c (cS (S sep))] [] (.c (cS (S (joinL sep (r.map bB))))) [] := by
 refine aG 26 Tryz.func50 (by kernel_rfl) fun fr hG => ?_
 refine bN 0 rfl fun hl0 => ?_
 refine zL hG [] [0, 1, 0, 1, 1] (fun (zz : Nat × List (List D)) => match zz with | (k, es) => (r.length - k, ⟨[zS 1 (S sep), zS 4 (S []), zY 5 202 0, zM 11 7 (rowD r), zI 12 ((rowD r).length : Int), zI 13 (k : Int)], [(202, .arr 0 9 1 (es))]⟩, k ≤ r.length ∧ es = strs ((r.take k).map bB))) (0, []) (aB (by intros; (try simp only [zq29] at *); omega : (0 : Int) ≤ ((rowD r).length : Int) ∧ ((16 : Nat) : Int) * ((rowD r).length : Int) ≤ 281474976710656 ∧ ((rowD r).length : Int) ≤ 9223372036854775807)) ?_ ?_
 exact ⟨Nat.zero_le _, rfl⟩
 rintro ⟨k, es⟩ ⟨hk, hes⟩
 have hlen : es.length = k := by rw [hes, strs, List.length_map, List.length_map, List.length_take]; omega
 refine zc hG [] [0, 1] (decide (((k : Int) : Int) < ((rowD r).length : Int))) aA (fun hc2 => ?_) (fun hc2 => ?_)
 (try simp only [zq3] at hc2)
 refine zD hG [(4, 0, .elem (ClD ((r).getD k Cl.z))), (5, 2, kS (S (bB ((r).getD k Cl.z))))] (k + 1, es ++ [[D.s (S (bB (r.getD k Cl.z)))]]) (aC (by intros; exact aY _ (by omega) (by (try simp only [zq6] at *); omega) : (0 : Int) ≤ (k : Int) ∧ (rowD r)[k]? = some (ClD ((r).getD k Cl.z))) (aC (hT ((r).getD k Cl.z) (bO (by omega)) : SpG g _ _ _ _ _) (aC (by intros; (try simp only [zq29] at *); omega : ((es).length + ([[.s (S (bB ((r).getD k Cl.z)))]] : List (List D)).length) * (16 + 1) ≤ 140737488355328) (aB (by intros; (try simp only [zq29] at *); omega : inR ((k : Int) + 1)))))) ?_ ?_
 (try dsimp only); omega
 refine ⟨by omega, ?_⟩
 rw [hes, mW Cl.z (by omega)]
 (try simp only [zq3] at hc2)
 refine zE hG [] (.exit 0) (⟨[zS 1 (S sep), zS 4 (S []), zY 5 202 0], [(202, .arr 0 9 1 (es))]⟩) aA rfl ?_
 exact zr hG [(7, 2, kS (S (joinL sep (r.map bB))))] [] (aB (aG9 (es := es) (l := r.map bB) (by rw [hes, List.take_of_length_le (by omega)]) sep hs (by rw [List.length_map]; omega) : SpG g _ _ _ _ _))
theorem n0 (v : Vl) (hr : aU v = true) (hf : v.fit) (hD : ∀ n s : Int, cZ n s = true → SpG g 46 [.agg [cI n, cI s]] [] (.c (cS (S (bU n s)))) []) (hN : ∀ n : Int, 0 ≤ n → n ≤ 3652058 → SpG g 47 [.c (cI n)] [] (.c (cS (S (aR n)))) []) (hX : ∀ r, r ∈ v.rows → SpG g 50 [.c (cM 7 (rowD r)), .c (cS (S [44]))] [] (.c (cS (S (joinL [44] (r.map bB))))) []) :
  SpG g 15 [.agg (zV v)] [] (.c (cS (S (cG v)))) [] := by
 obtain ⟨h0, h1, h2, h3, h4⟩ := tF hr
 have hkd := lZ hr
 have hfs := hf.s
 have a1 := uY v.n
 have a2 := lE v.n
 have a3 : v.kind = 2 → (bU v.dn v.ds).length ≤ 30 := fun k => uW (h2 k)
 have a4 : v.kind = 5 → (joinL [44] v.cols).length ≤ 168 := fun k => (i7 (bV hr k)).2
 have a5 := pR v.s
 refine aG 61 Tryz.func15 (by kernel_rfl) fun fr hG => ?_
 refine zC hG [(1, 1, kB (aU v))] [1, 0, 1] (!(aU v)) (⟨[zX 1 100 0, zS 2 (S [])], [(100, .box 30 (zV v))]⟩) (aB (o7 v hf : SpG g _ _ _ _ _)) (fun hc1 => ?_) (fun hc1 => ?_)
 (try simp only [zq3, hr] at hc1)
 exact absurd hc1 (by simp [hr])
 (try simp only [zq3, hr] at hc1)
 refine zC hG [] [1, 0, 1, 0, 1, 1] (decide ((v.kind : Int) = 0)) (⟨[zX 1 100 0, zS 2 (S []), zI 10 v.kind], [(100, .box 30 (zV v))]⟩) aA (fun hc2 => ?_) (fun hc2 => ?_)
 (try simp only [zq3, hr] at hc2)
 refine zR hG [(5, 2, kS (S (dec2 (v.n))))] [] (.c (cS ((S [33]) ++ (S (dec2 (v.n)))))) [] (aC (pN (v.n) (by omega) (by omega) : SpG g _ _ _ _ _) (aB (by intros; (try simp only [gS] at *); omega : (S [33]).size + (S (dec2 (v.n))).size ≤ maxLen))) ?_ ?_
 rw [bI]; simp [cG, gD, hc2]
 rfl
 (try simp only [zq3, hr] at hc2)
 refine zc hG [] [1, 1, 1, 0, 1, 0, 1, 1] (decide ((v.kind : Int) = 1)) aA (fun hc3 => ?_) (fun hc3 => ?_)
 (try simp only [zq3, hr] at hc3)
 refine zR hG [(7, 2, kS (S (bT (v.s))))] [] (.c (cS (((S [39]) ++ (S (bT (v.s)))) ++ (S [39])))) [] (aC (vR (v.s) (by omega) : SpG g _ _ _ _ _) (aC (by intros; (try simp only [gS] at *); omega : (S [39]).size + (S (bT (v.s))).size ≤ maxLen) (aB (by intros; (try simp only [gS] at *); omega : ((S [39]) ++ (S (bT (v.s)))).size + (S [39]).size ≤ maxLen)))) ?_ ?_
 rw [bI, bI]; simp [cG, gD, oA, hc3]
 rfl
 (try simp only [zq3, hr] at hc3)
 refine zc hG [] [1, 1, 1, 1, 1, 0, 1, 0, 1, 1] (decide ((v.kind : Int) = 2)) aA (fun hc4 => ?_) (fun hc4 => ?_)
 (try simp only [zq3, hr] at hc4)
 refine zR hG [(9, 2, kS (S (bU v.dn v.ds)))] [] (.c (cS ((S [35]) ++ (S (bU v.dn v.ds))))) [] (aC (hD v.dn v.ds (h2 (by omega)) : SpG g _ _ _ _ _) (aB (by intros; (try simp only [gS] at *); omega : (S [35]).size + (S (bU v.dn v.ds)).size ≤ maxLen))) ?_ ?_
 rw [bI]; simp [cG, gD, hc4]
 rfl
 (try simp only [zq3, hr] at hc4)
 refine zc hG [] [1, 1, 1, 1, 1, 1, 1, 0, 1, 0, 1, 1] (decide ((v.kind : Int) = 3)) aA (fun hc5 => ?_) (fun hc5 => ?_)
 (try simp only [zq3, hr] at hc5)
 refine zR hG [(11, 2, kS (S (aR (v.n))))] [] (.c (cS ((S [64]) ++ (S (aR (v.n)))))) [] (aC (hN (v.n) (by omega) (by omega) : SpG g _ _ _ _ _) (aB (by intros; (try simp only [gS] at *); omega : (S [64]).size + (S (aR (v.n))).size ≤ maxLen))) ?_ ?_
 rw [bI]; simp [cG, gD, hc5]
 rfl
 (try simp only [zq3, hr] at hc5)
 refine zC hG [] [1, 1, 1, 1, 1, 1, 1, 1, 1, 0, 1, 0, 1, 1] (decide ((v.kind : Int) = 4)) (⟨[zX 1 100 0, zS 2 (S [])], [(100, .box 30 (zV v))]⟩) aA (fun hc6 => ?_) (fun hc6 => ?_)
 (try simp only [zq3, hr] at hc6)
 refine zR hG [(13, 2, kS (S (dec2 (v.n))))] [] (.c (cS ((S [63]) ++ (S (dec2 (v.n)))))) [] (aC (pN (v.n) (by omega) (by omega) : SpG g _ _ _ _ _) (aB (by intros; (try simp only [gS] at *); omega : (S [63]).size + (S (dec2 (v.n))).size ≤ maxLen))) ?_ ?_
 rw [bI]; simp [cG, gD, hc6]
 rfl
 (try simp only [zq3, hr] at hc6)
 refine zL hG [(15, 2, kS (S (joinL [44] v.cols))), (15, 4, .callG (y19 (((S [91]) ++ (S (joinL [44] v.cols))).size : Int)) [1500] [(0, .box 80 [.bx 0 0, .ar 100 0]), (100, y20 (bytesD ((S [91]) ++ (S (joinL [44] v.cols))).data.toList))])] [0, 1, 0, 1, 1, 1, 1, 1] (fun (zz : Nat × List (List D)) => match zz with | (k, es) => (v.rows.length - k, ⟨[zS 2 (S []), zX 3 1500 0, zM 48 1 (rowsD v.rows), zI 49 ((rowsD v.rows).length : Int), zI 50 (k : Int)], [(1500, .box 80 [.bx 1500 0, .ar 1604 0]), (1604, .arr 0 5 1 (es))]⟩, k ≤ v.rows.length ∧ es = bytesD ([91] ++ joinL [44] v.cols ++ (v.rows.take k).flatMap fP))) (0, bytesD (S [91] ++ S (joinL [44] v.cols)).data.toList) (aC (aG8 v.cols [44] (Nat.le_trans (i7 (bV hr (by omega))).1 (by decide)) (Nat.le_trans (eC (bV hr (by omega))).1 (by decide)) : SpG g _ _ _ _ _) (aC (by intros; (try simp only [gS] at *); omega : (S [91]).size + (S (joinL [44] v.cols)).size ≤ maxLen) (aB (oU ((S [91]) ++ (S (joinL [44] v.cols))) (by (try rw [hes]); (try simp only [gS, aI, aZ] at *); omega) : SpG g _ _ _ _ _)))) ?_ ?_
 exact ⟨Nat.zero_le _, by rw [bI, aZ]; simp⟩
 rintro ⟨k, es⟩ ⟨hk, hes⟩
 have hT := bV hr (by omega)
 have b1 := (i7 hT).2
 have b2 := qX hT k
 have b3 := (eC hT).2.1
 have b4 : k < v.rows.length → (joinL [44] ((v.rows.getD k []).map bB)).length ≤ 3300 := fun hk => by have := (lX hT (bO (z := []) hk)).2; simp only [fP, List.length_cons] at this; omega
 have hlen : es.length = 1 + (joinL [44] v.cols).length + ((v.rows.take k).flatMap fP).length := by rw [hes, aI]; simp only [dB]
 refine zc hG [] [0, 1] (decide (((k : Int) : Int) < ((rowsD v.rows).length : Int))) aA (fun hc8 => ?_) (fun hc8 => ?_)
 (try simp only [zq3, hr] at hc8)
 refine zD hG [(18, 0, .elem (fK ((v.rows).getD k []))), (19, 1, kS (S (joinL [44] (((v.rows).getD k []).map bB)))), (19, 3, .callG (y19 (((S [59]) ++ (S (joinL [44] (((v.rows).getD k []).map bB)))).size : Int)) [1500, 1604] [(0, y17), (1, y20 ((es) ++ bytesD ((S [59]) ++ (S (joinL [44] (((v.rows).getD k []).map bB)))).data.toList))])] (k + 1, (es) ++ bytesD ((S [59]) ++ (S (joinL [44] (((v.rows).getD k []).map bB)))).data.toList) (aC (by intros; exact aY _ (by omega) (by (try simp only [zq6] at *); omega) : (0 : Int) ≤ (k : Int) ∧ (rowsD v.rows)[k]? = some (fK ((v.rows).getD k []))) (aC (hX ((v.rows).getD k []) (bO (by omega)) : SpG g _ _ _ _ _) (aC (by intros; (try simp only [gS] at *); omega : (S [59]).size + (S (joinL [44] (((v.rows).getD k []).map bB))).size ≤ maxLen) (aC (kK (es) ((S [59]) ++ (S (joinL [44] (((v.rows).getD k []).map bB)))) (by (try rw [hes]); (try simp only [gS, aI, aZ] at *); omega) : SpG g _ _ _ _ _) (aB (by intros; (try simp only [gS] at *); omega : inR ((k : Int) + 1))))))) ?_ ?_
 (try dsimp only); omega
 refine ⟨by omega, ?_⟩
 rw [hes, xE (by omega), bI, aZ]
 simp only [← jB]
 congr 1
 simp
 (try simp only [zq3, hr] at hc8)
 refine zE hG [] (.exit 1) (⟨[zS 2 (S []), zX 3 1500 0], [(1500, .box 80 [.bx 1500 0, .ar 1604 0]), (1604, .arr 0 5 1 (es))]⟩) aA rfl ?_
 exact zr hG [(21, 0, .callG (y19 ((S [93]).size : Int)) [1500, 1604] [(0, y17), (1, y20 ((es) ++ bytesD (S [93]).data.toList))]), (22, 0, .callG (.c (cS (S (cG v)))) [1500, 1604] [(0, .box 80 [.bx 0 0, .any]), (1, y20 ([] : List (List D)))])] [] (aC (kK (es) (S [93]) (by (try rw [hes]); (try simp only [gS, aI, aZ] at *); omega) : SpG g _ _ _ _ _) (aB (jR ((es) ++ bytesD (S [93]).data.toList) (S (cG v)) (by rw [hes, aZ, aZ, ← jB]; congr 1; rw [cG, if_pos (by omega), List.take_of_length_le (by omega)]) : SpG g _ _ _ _ _)))
theorem aD9 (v : Vl) (hr : aU v = false) (hf : v.fit) :
  SpG g 15 [.agg (zV v)] [] (.c (cS (S []))) [] := by
 refine aG 61 Tryz.func15 (by kernel_rfl) fun fr hG => ?_
 refine zC hG [(1, 1, kB (aU v))] [1, 0, 1] (!(aU v)) (⟨[zX 1 100 0, zS 2 (S [])], [(100, .box 30 (zV v))]⟩) (aB (o7 v hf : SpG g _ _ _ _ _)) (fun hc1 => ?_) (fun hc1 => ?_)
 (try simp only [zq3, hr] at hc1)
 exact zr hG [] [] aA
 (try simp only [zq3, hr] at hc1)
 exact absurd hc1 (by simp [hr])
theorem aA1 (hD : ∀ n s : Int, cZ n s = true → SpG g 46 [.agg [cI n, cI s]] [] (.c (cS (S (bU n s)))) []) (hN : ∀ n : Int, 0 ≤ n → n ≤ 3652058 → SpG g 47 [.c (cI n)] [] (.c (cS (S (aR n)))) []) (c : Cl) (hs : c.s.length ≤ maxLen) (hk : ¬ c.kind = 5) (h : aV false c.toV = true) : SpG g 15 [lJ c] [] (.c (cS (S (bB c)))) [] := by
 have := n0 (g := g) c.toV (xX hk h) (Cl.fit hs) hD hN (fun r hr => by cases hr)
 have e : cG c.toV = bB c := by
  have : c.toV.kind = c.kind := rfl
  simp only [cG, this, if_neg hk]; rfl
 rw [e] at this
 exact this
theorem aA0 (hD : ∀ n s : Int, cZ n s = true → SpG g 46 [.agg [cI n, cI s]] [] (.c (cS (S (bU n s)))) []) (hN : ∀ n : Int, 0 ≤ n → n ≤ 3652058 → SpG g 47 [.c (cI n)] [] (.c (cS (S (aR n)))) []) (v : Vl) (hr : aU v = true) (hf : v.fit) : SpG g 15 [qB v] [] (.c (cS (S (cG v)))) [] := by
 by_cases hk : v.kind = 5
 have hT := bV hr hk
 obtain ⟨h1, h2, h3, h4⟩ := eC hT
 exact n0 v hr hf hD hN fun r hr2 => aA2 r [44] (by have := (h4 r hr2).1; omega) (Nat.le_trans (lX hT hr2).1 (by decide)) fun c hc => aA1 hD hN c (hf.cells r hr2 c hc) ((h4 r hr2).2 c hc).1 ((h4 r hr2).2 c hc).2
 have hrow : v.rows = [] := lY hr hk
 exact n0 v hr hf hD hN fun r hr2 => by rw [hrow] at hr2; cases hr2
theorem sU (hD : ∀ n s : Int, cZ n s = true → SpG g 46 [.agg [cI n, cI s]] [] (.c (cS (S (bU n s)))) []) (hN : ∀ n : Int, 0 ≤ n → n ≤ 3652058 → SpG g 47 [.c (cI n)] [] (.c (cS (S (aR n)))) []) (v : Vl) (hf : v.fit) : SpG g 15 [qB v] [] (.c (cS (S (aW v)))) [] := by
 cases hr : aU v with
 | true => have := aA0 hD hN v hr hf; rw [aW, hr]; exact this
 | false => have := aD9 (g := g) v hr hf; rw [aW, hr]; exact this
def zq30 := And.intro @List.length_append.{0} (And.intro @List.length_cons.{0} (And.intro @List.length_map.{0, 0} (And.intro @List.length_nil.{0} (And.intro @Go.Eng.inR.eq_1 (And.intro @maxLen.eq_1 (And.intro @strs.eq_1 (@valsD.eq_1)))))))
theorem aEA (r : List Vl) (sep : List UInt8) (hl : r.length ≤ 1000) (hs : iQ sep.length (r.map aW) ≤ 1000000000) (hf : ∀ v, v ∈ r → v.fit) (hD : ∀ n s : Int, cZ n s = true → SpG g 46 [.agg [cI n, cI s]] [] (.c (cS (S (bU n s)))) []) (hN : ∀ n : Int, 0 ≤ n → n ≤ 3652058 → SpG g 47 [.c (cI n)] [] (.c (cS (S (aR n)))) []) :
  SpG g 50 [.c (cM 7 (valsD r)), .c (cS (S sep))] [] (.c (cS (S (joinL sep (r.map aW))))) [] := by
 refine aG 26 Tryz.func50 (by kernel_rfl) fun fr hG => ?_
 refine bN 0 rfl fun hl0 => ?_
 refine zL hG [] [0, 1, 0, 1, 1] (fun (zz : Nat × List (List D)) => match zz with | (k, es) => (r.length - k, ⟨[zS 1 (S sep), zS 4 (S []), zY 5 202 0, zM 11 7 (valsD r), zI 12 ((valsD r).length : Int), zI 13 (k : Int)], [(202, .arr 0 9 1 (es))]⟩, k ≤ r.length ∧ es = strs ((r.take k).map aW))) (0, []) (aB (by intros; (try simp only [zq30] at *); omega : (0 : Int) ≤ ((valsD r).length : Int) ∧ ((16 : Nat) : Int) * ((valsD r).length : Int) ≤ 281474976710656 ∧ ((valsD r).length : Int) ≤ 9223372036854775807)) ?_ ?_
 exact ⟨Nat.zero_le _, rfl⟩
 rintro ⟨k, es⟩ ⟨hk, hes⟩
 have hlen : es.length = k := by rw [hes, strs, List.length_map, List.length_map, List.length_take]; omega
 refine zc hG [] [0, 1] (decide (((k : Int) : Int) < ((valsD r).length : Int))) aA (fun hc2 => ?_) (fun hc2 => ?_)
 (try simp only [zq3] at hc2)
 refine zD hG [(4, 0, .elem (VlD ((r).getD k Vl.z))), (5, 2, kS (S (aW ((r).getD k Vl.z))))] (k + 1, es ++ [[D.s (S (aW (r.getD k Vl.z)))]]) (aC (by intros; exact aY _ (by omega) (by (try simp only [zq6] at *); omega) : (0 : Int) ≤ (k : Int) ∧ (valsD r)[k]? = some (VlD ((r).getD k Vl.z))) (aC (sU hD hN ((r).getD k Vl.z) (hf _ (bO (by omega))) : SpG g _ _ _ _ _) (aC (by intros; (try simp only [zq30] at *); omega : ((es).length + ([[.s (S (aW ((r).getD k Vl.z)))]] : List (List D)).length) * (16 + 1) ≤ 140737488355328) (aB (by intros; (try simp only [zq30] at *); omega : inR ((k : Int) + 1)))))) ?_ ?_
 (try dsimp only); omega
 refine ⟨by omega, ?_⟩
 rw [hes, mW Vl.z (by omega)]
 (try simp only [zq3] at hc2)
 refine zE hG [] (.exit 0) (⟨[zS 1 (S sep), zS 4 (S []), zY 5 202 0], [(202, .arr 0 9 1 (es))]⟩) aA rfl ?_
 exact zr hG [(7, 2, kS (S (joinL sep (r.map aW))))] [] (aB (aG9 (es := es) (l := r.map aW) (by rw [hes, List.take_of_length_le (by omega)]) sep hs (by rw [List.length_map]; omega) : SpG g _ _ _ _ _))
end Go.Proofs.YtmpgfchkkemngaaGreatDoor
namespace Go.Proofs.YtmpgfchkkemngaaGreatDoor
open Go.RowKit Go.V
open Go.Eng (inR byteAt u8 bH)
variable {g : Gv}
theorem of_same {f : FuncId} {ins : List SV} {out : SV} {args : List Value} {v : Value} (hi : rV ins = some args) (ho : exT out = some v) (hk : okS out = true) (h : ∀ w : World, Calls Tryz.prog f args.toArray w fun e w' => e = .returned v ∧ w' = w) : SpG g f ins [] out [] :=
 gP hi ho hk fun w _ => (h w).mono fun _ _ ⟨a, b⟩ => ⟨a, by rw [b]; exact Below.refl _ _⟩
theorem bE (s p : List UInt8) (r : Bool) (h : Lib.hasPrefix s p = r) : SpG g 198 [.c (cS (S s)), .c (cS (S p))] [] (.c (cB r)) [] := by
 refine of_same (args := [.string (S s), .string (S p)]) rfl rfl rfl fun w => ?_
 have := Tryz.strings_HasPrefix (S s) (S p) w
 rw [aZ, aZ, h] at this
 exact this
def layF : Nat → List UInt8
 | 0 => [89, 89, 89, 89, 45, 77, 77, 45, 68, 68]
 | 1 => [45, 77, 77, 45, 68, 68]
 | 2 => [77, 77, 45, 68, 68]
 | 3 => [45, 68, 68]
 | 4 => [68, 68]
 | _ => []
def rY (k : Nat) : Int := if k = 0 then 0 else 1
def rM (k : Nat) : Int := if k ≤ 2 then 0 else 1
def rD (k : Nat) : Int := if k ≤ 4 then 0 else 1
abbrev y21 : SV := .agg [cS (S [89, 89, 89, 89]), cB true]
abbrev y22 : SV := .agg [cS (S [89, 89, 89, 89]), cS (S [77, 77]), cS (S [77]), cS (S [68, 68]), cS (S [68])]
abbrev y23 : Ob := .box 159 [cS (S []), cB false]
abbrev y24 : Ob := .box 159 [cS (S [89, 89, 89, 89]), cB true]
theorem uR  :
  SpG g 173 [.c (cS (S [89, 89, 89, 89, 45, 77, 77, 45, 68, 68]))] [] (y21) [] := by
 refine aG 18 Tryz.func173 (by kernel_rfl) fun fr hG => ?_
 refine zL hG [] [0, 1, 0, 1] (fun (zz : Nat) => match zz with | i => (6 - i, ⟨[zS 0 (S [89, 89, 89, 89, 45, 77, 77, 45, 68, 68]), zX 2 100 0, (5, [], y22), zI 6 (i : Int)], [(100, y23)]⟩, i ≤ 0)) 0 aA ?_ ?_
 exact Nat.zero_le _
 rintro i hI
 rcases (by omega : i = 0) with rfl
 skip
 refine zc hG [] [0, 1] (true) aA (fun _ => ?_) (fun hc2 => absurd hc2 (by decide))
 refine zC hG [(4, 2, kB true)] [1, 1, 0, 0, 1, 1] (true) (⟨[zS 0 (S [89, 89, 89, 89, 45, 77, 77, 45, 68, 68]), zX 2 100 0, zS 4 (S [89, 89, 89, 89]), (5, [], y22), zI 6 0], [(100, y23)]⟩) (aB (bE [89, 89, 89, 89, 45, 77, 77, 45, 68, 68] [89, 89, 89, 89] true (by decide) : SpG g _ _ _ _ _)) (fun _ => ?_) (fun hc3 => absurd hc3 (by decide))
 refine zE hG [] .ret (⟨[zS 0 (S [89, 89, 89, 89, 45, 77, 77, 45, 68, 68]), zX 2 100 0], [(100, y24)]⟩) aA rfl ?_
 exact zr hG [] [] aA
abbrev y25 : SV := .agg [cS (S [45]), cB false]
theorem uQ  :
  SpG g 173 [.c (cS (S [45, 77, 77, 45, 68, 68]))] [] (y25) [] := by
 refine aG 18 Tryz.func173 (by kernel_rfl) fun fr hG => ?_
 refine zL hG [] [0, 1, 0, 1] (fun (zz : Nat) => match zz with | i => (6 - i, ⟨[zS 0 (S [45, 77, 77, 45, 68, 68]), zX 2 100 0, (5, [], y22), zI 6 (i : Int)], [(100, y23)]⟩, i ≤ 5)) 0 aA ?_ ?_
 exact Nat.zero_le _
 rintro i hI
 rcases (by omega : i = 0 ∨ i = 1 ∨ i = 2 ∨ i = 3 ∨ i = 4 ∨ i = 5) with rfl | rfl | rfl | rfl | rfl | rfl
 skip
 refine zc hG [] [0, 1] (true) aA (fun _ => ?_) (fun hc2 => absurd hc2 (by decide))
 refine zC hG [(4, 2, kB false)] [1, 1, 0, 0, 1, 1] (false) (⟨[zS 0 (S [45, 77, 77, 45, 68, 68]), zX 2 100 0, zS 4 (S [89, 89, 89, 89]), (5, [], y22), zI 6 0], [(100, y23)]⟩) (aB (bE [45, 77, 77, 45, 68, 68] [89, 89, 89, 89] false (by decide) : SpG g _ _ _ _ _)) (fun hc3 => absurd hc3 (by decide)) (fun _ => ?_)
 refine zD hG [] 1 (aB (by unfold inR; decide : inR (0 + 1))) ?_ ?_
 (try dsimp only); decide
 (try dsimp only); decide
 skip
 refine zc hG [] [0, 1] (true) aA (fun _ => ?_) (fun hc4 => absurd hc4 (by decide))
 refine zC hG [(4, 2, kB false)] [1, 1, 0, 0, 1, 1] (false) (⟨[zS 0 (S [45, 77, 77, 45, 68, 68]), zX 2 100 0, zS 4 (S [77, 77]), (5, [], y22), zI 6 1], [(100, y23)]⟩) (aB (bE [45, 77, 77, 45, 68, 68] [77, 77] false (by decide) : SpG g _ _ _ _ _)) (fun hc5 => absurd hc5 (by decide)) (fun _ => ?_)
 refine zD hG [] 2 (aB (by unfold inR; decide : inR (1 + 1))) ?_ ?_
 (try dsimp only); decide
 (try dsimp only); decide
 skip
 refine zc hG [] [0, 1] (true) aA (fun _ => ?_) (fun hc6 => absurd hc6 (by decide))
 refine zC hG [(4, 2, kB false)] [1, 1, 0, 0, 1, 1] (false) (⟨[zS 0 (S [45, 77, 77, 45, 68, 68]), zX 2 100 0, zS 4 (S [77]), (5, [], y22), zI 6 2], [(100, y23)]⟩) (aB (bE [45, 77, 77, 45, 68, 68] [77] false (by decide) : SpG g _ _ _ _ _)) (fun hc7 => absurd hc7 (by decide)) (fun _ => ?_)
 refine zD hG [] 3 (aB (by unfold inR; decide : inR (2 + 1))) ?_ ?_
 (try dsimp only); decide
 (try dsimp only); decide
 skip
 refine zc hG [] [0, 1] (true) aA (fun _ => ?_) (fun hc8 => absurd hc8 (by decide))
 refine zC hG [(4, 2, kB false)] [1, 1, 0, 0, 1, 1] (false) (⟨[zS 0 (S [45, 77, 77, 45, 68, 68]), zX 2 100 0, zS 4 (S [68, 68]), (5, [], y22), zI 6 3], [(100, y23)]⟩) (aB (bE [45, 77, 77, 45, 68, 68] [68, 68] false (by decide) : SpG g _ _ _ _ _)) (fun hc9 => absurd hc9 (by decide)) (fun _ => ?_)
 refine zD hG [] 4 (aB (by unfold inR; decide : inR (3 + 1))) ?_ ?_
 (try dsimp only); decide
 (try dsimp only); decide
 skip
 refine zc hG [] [0, 1] (true) aA (fun _ => ?_) (fun hc10 => absurd hc10 (by decide))
 refine zC hG [(4, 2, kB false)] [1, 1, 0, 0, 1, 1] (false) (⟨[zS 0 (S [45, 77, 77, 45, 68, 68]), zX 2 100 0, zS 4 (S [68]), (5, [], y22), zI 6 4], [(100, y23)]⟩) (aB (bE [45, 77, 77, 45, 68, 68] [68] false (by decide) : SpG g _ _ _ _ _)) (fun hc11 => absurd hc11 (by decide)) (fun _ => ?_)
 refine zD hG [] 5 (aB (by unfold inR; decide : inR (4 + 1))) ?_ ?_
 (try dsimp only); decide
 (try dsimp only); decide
 skip
 refine zc hG [] [0, 1] (false) aA (fun hc12 => absurd hc12 (by decide)) (fun _ => ?_)
 refine zE hG [] (.exit 0) (⟨[zS 0 (S [45, 77, 77, 45, 68, 68]), zX 2 100 0], [(100, y23)]⟩) aA rfl ?_
 exact zr hG [] [] (aB (by decide : (0 : Int) ≤ 0 ∧ (0 : Int) ≤ 1 ∧ 1 ≤ ((S [45, 77, 77, 45, 68, 68]).size : Int)))
abbrev y26 : SV := .agg [cS (S [77, 77]), cB true]
abbrev y27 : Ob := .box 159 [cS (S [77, 77]), cB true]
theorem aAD  :
  SpG g 173 [.c (cS (S [77, 77, 45, 68, 68]))] [] (y26) [] := by
 refine aG 18 Tryz.func173 (by kernel_rfl) fun fr hG => ?_
 refine zL hG [] [0, 1, 0, 1] (fun (zz : Nat) => match zz with | i => (6 - i, ⟨[zS 0 (S [77, 77, 45, 68, 68]), zX 2 100 0, (5, [], y22), zI 6 (i : Int)], [(100, y23)]⟩, i ≤ 1)) 0 aA ?_ ?_
 exact Nat.zero_le _
 rintro i hI
 rcases (by omega : i = 0 ∨ i = 1) with rfl | rfl
 skip
 refine zc hG [] [0, 1] (true) aA (fun _ => ?_) (fun hc2 => absurd hc2 (by decide))
 refine zC hG [(4, 2, kB false)] [1, 1, 0, 0, 1, 1] (false) (⟨[zS 0 (S [77, 77, 45, 68, 68]), zX 2 100 0, zS 4 (S [89, 89, 89, 89]), (5, [], y22), zI 6 0], [(100, y23)]⟩) (aB (bE [77, 77, 45, 68, 68] [89, 89, 89, 89] false (by decide) : SpG g _ _ _ _ _)) (fun hc3 => absurd hc3 (by decide)) (fun _ => ?_)
 refine zD hG [] 1 (aB (by unfold inR; decide : inR (0 + 1))) ?_ ?_
 (try dsimp only); decide
 (try dsimp only); decide
 skip
 refine zc hG [] [0, 1] (true) aA (fun _ => ?_) (fun hc4 => absurd hc4 (by decide))
 refine zC hG [(4, 2, kB true)] [1, 1, 0, 0, 1, 1] (true) (⟨[zS 0 (S [77, 77, 45, 68, 68]), zX 2 100 0, zS 4 (S [77, 77]), (5, [], y22), zI 6 1], [(100, y23)]⟩) (aB (bE [77, 77, 45, 68, 68] [77, 77] true (by decide) : SpG g _ _ _ _ _)) (fun _ => ?_) (fun hc5 => absurd hc5 (by decide))
 refine zE hG [] .ret (⟨[zS 0 (S [77, 77, 45, 68, 68]), zX 2 100 0], [(100, y27)]⟩) aA rfl ?_
 exact zr hG [] [] aA
theorem aAC  :
  SpG g 173 [.c (cS (S [45, 68, 68]))] [] (y25) [] := by
 refine aG 18 Tryz.func173 (by kernel_rfl) fun fr hG => ?_
 refine zL hG [] [0, 1, 0, 1] (fun (zz : Nat) => match zz with | i => (6 - i, ⟨[zS 0 (S [45, 68, 68]), zX 2 100 0, (5, [], y22), zI 6 (i : Int)], [(100, y23)]⟩, i ≤ 5)) 0 aA ?_ ?_
 exact Nat.zero_le _
 rintro i hI
 rcases (by omega : i = 0 ∨ i = 1 ∨ i = 2 ∨ i = 3 ∨ i = 4 ∨ i = 5) with rfl | rfl | rfl | rfl | rfl | rfl
 skip
 refine zc hG [] [0, 1] (true) aA (fun _ => ?_) (fun hc2 => absurd hc2 (by decide))
 refine zC hG [(4, 2, kB false)] [1, 1, 0, 0, 1, 1] (false) (⟨[zS 0 (S [45, 68, 68]), zX 2 100 0, zS 4 (S [89, 89, 89, 89]), (5, [], y22), zI 6 0], [(100, y23)]⟩) (aB (bE [45, 68, 68] [89, 89, 89, 89] false (by decide) : SpG g _ _ _ _ _)) (fun hc3 => absurd hc3 (by decide)) (fun _ => ?_)
 refine zD hG [] 1 (aB (by unfold inR; decide : inR (0 + 1))) ?_ ?_
 (try dsimp only); decide
 (try dsimp only); decide
 skip
 refine zc hG [] [0, 1] (true) aA (fun _ => ?_) (fun hc4 => absurd hc4 (by decide))
 refine zC hG [(4, 2, kB false)] [1, 1, 0, 0, 1, 1] (false) (⟨[zS 0 (S [45, 68, 68]), zX 2 100 0, zS 4 (S [77, 77]), (5, [], y22), zI 6 1], [(100, y23)]⟩) (aB (bE [45, 68, 68] [77, 77] false (by decide) : SpG g _ _ _ _ _)) (fun hc5 => absurd hc5 (by decide)) (fun _ => ?_)
 refine zD hG [] 2 (aB (by unfold inR; decide : inR (1 + 1))) ?_ ?_
 (try dsimp only); decide
 (try dsimp only); decide
 skip
 refine zc hG [] [0, 1] (true) aA (fun _ => ?_) (fun hc6 => absurd hc6 (by decide))
 refine zC hG [(4, 2, kB false)] [1, 1, 0, 0, 1, 1] (false) (⟨[zS 0 (S [45, 68, 68]), zX 2 100 0, zS 4 (S [77]), (5, [], y22), zI 6 2], [(100, y23)]⟩) (aB (bE [45, 68, 68] [77] false (by decide) : SpG g _ _ _ _ _)) (fun hc7 => absurd hc7 (by decide)) (fun _ => ?_)
 refine zD hG [] 3 (aB (by unfold inR; decide : inR (2 + 1))) ?_ ?_
 (try dsimp only); decide
 (try dsimp only); decide
 skip
 refine zc hG [] [0, 1] (true) aA (fun _ => ?_) (fun hc8 => absurd hc8 (by decide))
 refine zC hG [(4, 2, kB false)] [1, 1, 0, 0, 1, 1] (false) (⟨[zS 0 (S [45, 68, 68]), zX 2 100 0, zS 4 (S [68, 68]), (5, [], y22), zI 6 3], [(100, y23)]⟩) (aB (bE [45, 68, 68] [68, 68] false (by decide) : SpG g _ _ _ _ _)) (fun hc9 => absurd hc9 (by decide)) (fun _ => ?_)
 refine zD hG [] 4 (aB (by unfold inR; decide : inR (3 + 1))) ?_ ?_
 (try dsimp only); decide
 (try dsimp only); decide
 skip
 refine zc hG [] [0, 1] (true) aA (fun _ => ?_) (fun hc10 => absurd hc10 (by decide))
 refine zC hG [(4, 2, kB false)] [1, 1, 0, 0, 1, 1] (false) (⟨[zS 0 (S [45, 68, 68]), zX 2 100 0, zS 4 (S [68]), (5, [], y22), zI 6 4], [(100, y23)]⟩) (aB (bE [45, 68, 68] [68] false (by decide) : SpG g _ _ _ _ _)) (fun hc11 => absurd hc11 (by decide)) (fun _ => ?_)
 refine zD hG [] 5 (aB (by unfold inR; decide : inR (4 + 1))) ?_ ?_
 (try dsimp only); decide
 (try dsimp only); decide
 skip
 refine zc hG [] [0, 1] (false) aA (fun hc12 => absurd hc12 (by decide)) (fun _ => ?_)
 refine zE hG [] (.exit 0) (⟨[zS 0 (S [45, 68, 68]), zX 2 100 0], [(100, y23)]⟩) aA rfl ?_
 exact zr hG [] [] (aB (by decide : (0 : Int) ≤ 0 ∧ (0 : Int) ≤ 1 ∧ 1 ≤ ((S [45, 68, 68]).size : Int)))
abbrev y28 : SV := .agg [cS (S [68, 68]), cB true]
abbrev y29 : Ob := .box 159 [cS (S [68, 68]), cB true]
theorem aFG  :
  SpG g 173 [.c (cS (S [68, 68]))] [] (y28) [] := by
 refine aG 18 Tryz.func173 (by kernel_rfl) fun fr hG => ?_
 refine zL hG [] [0, 1, 0, 1] (fun (zz : Nat) => match zz with | i => (6 - i, ⟨[zS 0 (S [68, 68]), zX 2 100 0, (5, [], y22), zI 6 (i : Int)], [(100, y23)]⟩, i ≤ 3)) 0 aA ?_ ?_
 exact Nat.zero_le _
 rintro i hI
 rcases (by omega : i = 0 ∨ i = 1 ∨ i = 2 ∨ i = 3) with rfl | rfl | rfl | rfl
 skip
 refine zc hG [] [0, 1] (true) aA (fun _ => ?_) (fun hc2 => absurd hc2 (by decide))
 refine zC hG [(4, 2, kB false)] [1, 1, 0, 0, 1, 1] (false) (⟨[zS 0 (S [68, 68]), zX 2 100 0, zS 4 (S [89, 89, 89, 89]), (5, [], y22), zI 6 0], [(100, y23)]⟩) (aB (bE [68, 68] [89, 89, 89, 89] false (by decide) : SpG g _ _ _ _ _)) (fun hc3 => absurd hc3 (by decide)) (fun _ => ?_)
 refine zD hG [] 1 (aB (by unfold inR; decide : inR (0 + 1))) ?_ ?_
 (try dsimp only); decide
 (try dsimp only); decide
 skip
 refine zc hG [] [0, 1] (true) aA (fun _ => ?_) (fun hc4 => absurd hc4 (by decide))
 refine zC hG [(4, 2, kB false)] [1, 1, 0, 0, 1, 1] (false) (⟨[zS 0 (S [68, 68]), zX 2 100 0, zS 4 (S [77, 77]), (5, [], y22), zI 6 1], [(100, y23)]⟩) (aB (bE [68, 68] [77, 77] false (by decide) : SpG g _ _ _ _ _)) (fun hc5 => absurd hc5 (by decide)) (fun _ => ?_)
 refine zD hG [] 2 (aB (by unfold inR; decide : inR (1 + 1))) ?_ ?_
 (try dsimp only); decide
 (try dsimp only); decide
 skip
 refine zc hG [] [0, 1] (true) aA (fun _ => ?_) (fun hc6 => absurd hc6 (by decide))
 refine zC hG [(4, 2, kB false)] [1, 1, 0, 0, 1, 1] (false) (⟨[zS 0 (S [68, 68]), zX 2 100 0, zS 4 (S [77]), (5, [], y22), zI 6 2], [(100, y23)]⟩) (aB (bE [68, 68] [77] false (by decide) : SpG g _ _ _ _ _)) (fun hc7 => absurd hc7 (by decide)) (fun _ => ?_)
 refine zD hG [] 3 (aB (by unfold inR; decide : inR (2 + 1))) ?_ ?_
 (try dsimp only); decide
 (try dsimp only); decide
 skip
 refine zc hG [] [0, 1] (true) aA (fun _ => ?_) (fun hc8 => absurd hc8 (by decide))
 refine zC hG [(4, 2, kB true)] [1, 1, 0, 0, 1, 1] (true) (⟨[zS 0 (S [68, 68]), zX 2 100 0, zS 4 (S [68, 68]), (5, [], y22), zI 6 3], [(100, y23)]⟩) (aB (bE [68, 68] [68, 68] true (by decide) : SpG g _ _ _ _ _)) (fun _ => ?_) (fun hc9 => absurd hc9 (by decide))
 refine zE hG [] .ret (⟨[zS 0 (S [68, 68]), zX 2 100 0], [(100, y29)]⟩) aA rfl ?_
 exact zr hG [] [] aA
theorem aGV  :
  SpG g 170 [.c (.d (.y 45))] [] (.c (cB true)) [] := by
 refine aG 27 Tryz.func170 (by kernel_rfl) fun fr hG => ?_
 refine zC hG [] [1, 0, 1] (false) (⟨[(0, [], .c (.d (.y 45))), zB 2 false], []⟩) aA (fun hc1 => absurd hc1 (by decide)) (fun _ => ?_)
 exact zr hG [] [] aA
theorem qC (s : ByteArray) :
  SpG g 125 [.c (cS s)] [] (.c (.fn 172 [] [(100, 0)])) [(100, .box 9 [cS s])] := by
 refine aG 4 Tryz.func125 (by kernel_rfl) fun fr hG => ?_
 exact zr hG [] [100] aA
theorem rightY0 (b3 b4 b5 b6 D l : Nat) (fn : FuncId) (tm : Array Value) (h3 : tm.getD 3 undef = .pointer (some ⟨b3, 0, none⟩)) (h4 : tm.getD 4 undef = .pointer (some ⟨b4, 0, none⟩)) (h5 : tm.getD 5 undef = .pointer (some ⟨b5, 0, none⟩)) (h6 : tm.getD 6 undef = .pointer (some ⟨b6, 0, none⟩)) (hn : tm.size = 69) :
  cC Tryz.prog (Gl g) l [y21] [(0, zK Tryz.f123 [0, 1, 0, 1, 1, 1, 1] fn tm D l), (1, .box ⟨.c 3, some b3⟩ [cI 0]), (2, .box ⟨.c 3, some b4⟩ [cI 0]), (3, .box ⟨.c 3, some b5⟩ [cI 0]), (4, .box ⟨.c 4, some b6⟩ [cB false])] (.c (cB true)) [(0, zK Tryz.f123 [0, 1, 0, 1, 1, 1, 1] fn tm D l), (1, .box ⟨.c 3, some b3⟩ [cI 1]), (2, .box ⟨.c 3, some b4⟩ [cI 0]), (3, .box ⟨.c 3, some b5⟩ [cI 0]), (4, .box ⟨.c 4, some b6⟩ [cB false])] := by
 refine fS (iL := 0) (p := 13) (env0 := [zX 3 1 0, zX 4 2 0, zX 5 3 0, zX 6 4 0]) (n := 69) (r := (aX (aM Tryz.f123) [0, 1, 0, 1, 1, 1, 1] fn tm D)) rfl (by kernel_rfl) hn (by decide) ⟨rfl, ⟨_, _, _, rfl, rfl, h3⟩, ⟨rfl, ⟨_, _, _, rfl, rfl, h4⟩, ⟨rfl, ⟨_, _, _, rfl, rfl, h5⟩, ⟨rfl, ⟨_, _, _, rfl, rfl, h6⟩, trivial⟩⟩⟩⟩ rfl fun fr hG => ?_
 refine iS hG cW [] (⟨[zX 3 1 0, zX 4 2 0, zX 5 3 0, zX 6 4 0, zX 7 700 0], [(0, zK Tryz.f123 [0, 1, 0, 1, 1, 1, 1] fn tm D l), (1, .box ⟨.c 3, some b3⟩ [cI 0]), (2, .box ⟨.c 3, some b4⟩ [cI 0]), (3, .box ⟨.c 3, some b5⟩ [cI 0]), (4, .box ⟨.c 4, some b6⟩ [cB false]), (700, y24)]⟩) 0 (r := (aX (aM Tryz.f123) [0, 1, 0, 1, 1, 1, 1] fn tm D)) (by kernel_rfl) aA rfl rfl ?_
 refine fU hG (⟨[zX 3 1 0, zX 4 2 0, zX 5 3 0, zX 6 4 0, zX 7 700 0], [(0, .box ⟨.raw (.loop { (aX (aM Tryz.f123) [0, 1, 0, 1, 1, 1, 1] fn tm D) with state := .busy }), some l⟩ []), (1, .box ⟨.c 3, some b3⟩ [cI 0]), (2, .box ⟨.c 3, some b4⟩ [cI 0]), (3, .box ⟨.c 3, some b5⟩ [cI 0]), (4, .box ⟨.c 4, some b6⟩ [cB false]), (700, y24)]⟩) (by kernel_rfl) ?_
 refine zc hG [(7, 13, kB true)] [1, 0, 0] (false) (aC (show false = true → false = false → (0 : Int) ≤ 0 ∧ 0 < ((S [89, 89, 89, 89]).size : Int) from fun hg1 hg2 => absurd hg1 (by decide)) (aB (show false = true → false = false → SpG g 170 [.c (.d (.y 89))] [] (.c (cB true)) [] from fun hg1 hg2 => absurd hg1 (by decide)))) (fun hc1 => absurd hc1 (by decide)) (fun _ => ?_)
 refine zC hG [] [1, 0, 1, 1, 0] (false) (⟨[zX 3 1 0, zX 4 2 0, zX 5 3 0, zX 7 700 0], [(0, .box ⟨.raw (.loop { (aX (aM Tryz.f123) [0, 1, 0, 1, 1, 1, 1] fn tm D) with state := .busy }), some l⟩ []), (1, .box ⟨.c 3, some b3⟩ [cI 0]), (2, .box ⟨.c 3, some b4⟩ [cI 0]), (3, .box ⟨.c 3, some b5⟩ [cI 0]), (4, .box ⟨.c 4, some b6⟩ [cB false]), (700, y24)]⟩) aA (fun hc2 => absurd hc2 (by decide)) (fun _ => ?_)
 refine zc hG [] [1, 1, 1, 0, 1, 1, 0] (true) (aB (by decide : (0 : Int) ≤ 0 ∧ 0 < ((S [89, 89, 89, 89]).size : Int))) (fun _ => ?_) (fun hc3 => absurd hc3 (by decide))
 refine iR hG cW [] [] 0 .normal [(0, .box ⟨.raw (jQ { (aX (aM Tryz.f123) [0, 1, 0, 1, 1, 1, 1] fn tm D) with state := .busy } .normal), some l⟩ []), (1, .box ⟨.c 3, some b3⟩ [cI 1]), (2, .box ⟨.c 3, some b4⟩ [cI 0]), (3, .box ⟨.c 3, some b5⟩ [cI 0]), (4, .box ⟨.c 4, some b6⟩ [cB false])] (by kernel_rfl) (aB (by unfold inR; decide : inR (0 + 1))) ?_ ?_
 rfl
 rfl
abbrev y30 : Ob := .box 159 [cS (S [45]), cB false]
theorem rightY1 (b3 b4 b5 b6 D l : Nat) (fn : FuncId) (tm : Array Value) (h3 : tm.getD 3 undef = .pointer (some ⟨b3, 0, none⟩)) (h4 : tm.getD 4 undef = .pointer (some ⟨b4, 0, none⟩)) (h5 : tm.getD 5 undef = .pointer (some ⟨b5, 0, none⟩)) (h6 : tm.getD 6 undef = .pointer (some ⟨b6, 0, none⟩)) (hn : tm.size = 69) :
  cC Tryz.prog (Gl g) l [y25] [(0, zK Tryz.f123 [0, 1, 0, 1, 1, 1, 1] fn tm D l), (1, .box ⟨.c 3, some b3⟩ [cI 1]), (2, .box ⟨.c 3, some b4⟩ [cI 0]), (3, .box ⟨.c 3, some b5⟩ [cI 0]), (4, .box ⟨.c 4, some b6⟩ [cB false])] (.c (cB true)) [(0, zK Tryz.f123 [0, 1, 0, 1, 1, 1, 1] fn tm D l), (1, .box ⟨.c 3, some b3⟩ [cI 1]), (2, .box ⟨.c 3, some b4⟩ [cI 0]), (3, .box ⟨.c 3, some b5⟩ [cI 0]), (4, .box ⟨.c 4, some b6⟩ [cB false])] := by
 refine fS (iL := 0) (p := 13) (env0 := [zX 3 1 0, zX 4 2 0, zX 5 3 0, zX 6 4 0]) (n := 69) (r := (aX (aM Tryz.f123) [0, 1, 0, 1, 1, 1, 1] fn tm D)) rfl (by kernel_rfl) hn (by decide) ⟨rfl, ⟨_, _, _, rfl, rfl, h3⟩, ⟨rfl, ⟨_, _, _, rfl, rfl, h4⟩, ⟨rfl, ⟨_, _, _, rfl, rfl, h5⟩, ⟨rfl, ⟨_, _, _, rfl, rfl, h6⟩, trivial⟩⟩⟩⟩ rfl fun fr hG => ?_
 refine iS hG cW [] (⟨[zX 3 1 0, zX 4 2 0, zX 5 3 0, zX 6 4 0, zX 7 700 0], [(0, zK Tryz.f123 [0, 1, 0, 1, 1, 1, 1] fn tm D l), (1, .box ⟨.c 3, some b3⟩ [cI 1]), (2, .box ⟨.c 3, some b4⟩ [cI 0]), (3, .box ⟨.c 3, some b5⟩ [cI 0]), (4, .box ⟨.c 4, some b6⟩ [cB false]), (700, y30)]⟩) 0 (r := (aX (aM Tryz.f123) [0, 1, 0, 1, 1, 1, 1] fn tm D)) (by kernel_rfl) aA rfl rfl ?_
 refine fU hG (⟨[zX 3 1 0, zX 4 2 0, zX 5 3 0, zX 6 4 0, zX 7 700 0], [(0, .box ⟨.raw (.loop { (aX (aM Tryz.f123) [0, 1, 0, 1, 1, 1, 1] fn tm D) with state := .busy }), some l⟩ []), (1, .box ⟨.c 3, some b3⟩ [cI 1]), (2, .box ⟨.c 3, some b4⟩ [cI 0]), (3, .box ⟨.c 3, some b5⟩ [cI 0]), (4, .box ⟨.c 4, some b6⟩ [cB false]), (700, y30)]⟩) (by kernel_rfl) ?_
 refine zc hG [(7, 13, kB true)] [1, 0, 0] (false) (aC (by decide : true = true → false = false → (0 : Int) ≤ 0 ∧ 0 < ((S [45]).size : Int)) (aB (fun (hg1 : true = true) => (fun (hg2 : false = false) => (aGV : SpG g _ _ _ _ _))))) (fun hc1 => absurd hc1 (by decide)) (fun _ => ?_)
 refine zC hG [] [1, 0, 1, 1, 0] (true) (⟨[zX 3 1 0, zX 4 2 0, zX 5 3 0, zX 7 700 0], [(0, .box ⟨.raw (.loop { (aX (aM Tryz.f123) [0, 1, 0, 1, 1, 1, 1] fn tm D) with state := .busy }), some l⟩ []), (1, .box ⟨.c 3, some b3⟩ [cI 1]), (2, .box ⟨.c 3, some b4⟩ [cI 0]), (3, .box ⟨.c 3, some b5⟩ [cI 0]), (4, .box ⟨.c 4, some b6⟩ [cB false]), (700, y30)]⟩) aA (fun _ => ?_) (fun hc2 => absurd hc2 (by decide))
 refine iR hG cW [] [] 0 .normal [(0, .box ⟨.raw (jQ { (aX (aM Tryz.f123) [0, 1, 0, 1, 1, 1, 1] fn tm D) with state := .busy } .normal), some l⟩ []), (1, .box ⟨.c 3, some b3⟩ [cI 1]), (2, .box ⟨.c 3, some b4⟩ [cI 0]), (3, .box ⟨.c 3, some b5⟩ [cI 0]), (4, .box ⟨.c 4, some b6⟩ [cB false])] (by kernel_rfl) aA ?_ ?_
 rfl
 rfl
theorem rightY2 (b3 b4 b5 b6 D l : Nat) (fn : FuncId) (tm : Array Value) (h3 : tm.getD 3 undef = .pointer (some ⟨b3, 0, none⟩)) (h4 : tm.getD 4 undef = .pointer (some ⟨b4, 0, none⟩)) (h5 : tm.getD 5 undef = .pointer (some ⟨b5, 0, none⟩)) (h6 : tm.getD 6 undef = .pointer (some ⟨b6, 0, none⟩)) (hn : tm.size = 69) :
  cC Tryz.prog (Gl g) l [y26] [(0, zK Tryz.f123 [0, 1, 0, 1, 1, 1, 1] fn tm D l), (1, .box ⟨.c 3, some b3⟩ [cI 1]), (2, .box ⟨.c 3, some b4⟩ [cI 0]), (3, .box ⟨.c 3, some b5⟩ [cI 0]), (4, .box ⟨.c 4, some b6⟩ [cB false])] (.c (cB true)) [(0, zK Tryz.f123 [0, 1, 0, 1, 1, 1, 1] fn tm D l), (1, .box ⟨.c 3, some b3⟩ [cI 1]), (2, .box ⟨.c 3, some b4⟩ [cI 1]), (3, .box ⟨.c 3, some b5⟩ [cI 0]), (4, .box ⟨.c 4, some b6⟩ [cB false])] := by
 refine fS (iL := 0) (p := 13) (env0 := [zX 3 1 0, zX 4 2 0, zX 5 3 0, zX 6 4 0]) (n := 69) (r := (aX (aM Tryz.f123) [0, 1, 0, 1, 1, 1, 1] fn tm D)) rfl (by kernel_rfl) hn (by decide) ⟨rfl, ⟨_, _, _, rfl, rfl, h3⟩, ⟨rfl, ⟨_, _, _, rfl, rfl, h4⟩, ⟨rfl, ⟨_, _, _, rfl, rfl, h5⟩, ⟨rfl, ⟨_, _, _, rfl, rfl, h6⟩, trivial⟩⟩⟩⟩ rfl fun fr hG => ?_
 refine iS hG cW [] (⟨[zX 3 1 0, zX 4 2 0, zX 5 3 0, zX 6 4 0, zX 7 700 0], [(0, zK Tryz.f123 [0, 1, 0, 1, 1, 1, 1] fn tm D l), (1, .box ⟨.c 3, some b3⟩ [cI 1]), (2, .box ⟨.c 3, some b4⟩ [cI 0]), (3, .box ⟨.c 3, some b5⟩ [cI 0]), (4, .box ⟨.c 4, some b6⟩ [cB false]), (700, y27)]⟩) 0 (r := (aX (aM Tryz.f123) [0, 1, 0, 1, 1, 1, 1] fn tm D)) (by kernel_rfl) aA rfl rfl ?_
 refine fU hG (⟨[zX 3 1 0, zX 4 2 0, zX 5 3 0, zX 6 4 0, zX 7 700 0], [(0, .box ⟨.raw (.loop { (aX (aM Tryz.f123) [0, 1, 0, 1, 1, 1, 1] fn tm D) with state := .busy }), some l⟩ []), (1, .box ⟨.c 3, some b3⟩ [cI 1]), (2, .box ⟨.c 3, some b4⟩ [cI 0]), (3, .box ⟨.c 3, some b5⟩ [cI 0]), (4, .box ⟨.c 4, some b6⟩ [cB false]), (700, y27)]⟩) (by kernel_rfl) ?_
 refine zc hG [(7, 13, kB true)] [1, 0, 0] (false) (aC (show false = true → false = false → (0 : Int) ≤ 0 ∧ 0 < ((S [77, 77]).size : Int) from fun hg1 hg2 => absurd hg1 (by decide)) (aB (show false = true → false = false → SpG g 170 [.c (.d (.y 77))] [] (.c (cB true)) [] from fun hg1 hg2 => absurd hg1 (by decide)))) (fun hc1 => absurd hc1 (by decide)) (fun _ => ?_)
 refine zC hG [] [1, 0, 1, 1, 0] (false) (⟨[zX 3 1 0, zX 4 2 0, zX 5 3 0, zX 7 700 0], [(0, .box ⟨.raw (.loop { (aX (aM Tryz.f123) [0, 1, 0, 1, 1, 1, 1] fn tm D) with state := .busy }), some l⟩ []), (1, .box ⟨.c 3, some b3⟩ [cI 1]), (2, .box ⟨.c 3, some b4⟩ [cI 0]), (3, .box ⟨.c 3, some b5⟩ [cI 0]), (4, .box ⟨.c 4, some b6⟩ [cB false]), (700, y27)]⟩) aA (fun hc2 => absurd hc2 (by decide)) (fun _ => ?_)
 refine zc hG [] [1, 1, 1, 0, 1, 1, 0] (false) (aB (by decide : (0 : Int) ≤ 0 ∧ 0 < ((S [77, 77]).size : Int))) (fun hc3 => absurd hc3 (by decide)) (fun _ => ?_)
 refine zC hG [] [1, 1, 1, 1, 1, 0, 1, 1, 0] (true) (⟨[zX 4 2 0, zX 5 3 0], [(0, .box ⟨.raw (.loop { (aX (aM Tryz.f123) [0, 1, 0, 1, 1, 1, 1] fn tm D) with state := .busy }), some l⟩ []), (1, .box ⟨.c 3, some b3⟩ [cI 1]), (2, .box ⟨.c 3, some b4⟩ [cI 0]), (3, .box ⟨.c 3, some b5⟩ [cI 0]), (4, .box ⟨.c 4, some b6⟩ [cB false])]⟩) (aB (by decide : (0 : Int) ≤ 0 ∧ 0 < ((S [77, 77]).size : Int))) (fun _ => ?_) (fun hc4 => absurd hc4 (by decide))
 refine iR hG cW [] [] 0 .normal [(0, .box ⟨.raw (jQ { (aX (aM Tryz.f123) [0, 1, 0, 1, 1, 1, 1] fn tm D) with state := .busy } .normal), some l⟩ []), (2, .box ⟨.c 3, some b4⟩ [cI 1]), (1, .box ⟨.c 3, some b3⟩ [cI 1]), (3, .box ⟨.c 3, some b5⟩ [cI 0]), (4, .box ⟨.c 4, some b6⟩ [cB false])] (by kernel_rfl) (aB (by unfold inR; decide : inR (0 + 1))) ?_ ?_
 rfl
 funext i; simp only [bG, upd]; (repeat' split) <;> first | rfl | (exfalso; omega)
theorem rightY3 (b3 b4 b5 b6 D l : Nat) (fn : FuncId) (tm : Array Value) (h3 : tm.getD 3 undef = .pointer (some ⟨b3, 0, none⟩)) (h4 : tm.getD 4 undef = .pointer (some ⟨b4, 0, none⟩)) (h5 : tm.getD 5 undef = .pointer (some ⟨b5, 0, none⟩)) (h6 : tm.getD 6 undef = .pointer (some ⟨b6, 0, none⟩)) (hn : tm.size = 69) :
  cC Tryz.prog (Gl g) l [y25] [(0, zK Tryz.f123 [0, 1, 0, 1, 1, 1, 1] fn tm D l), (1, .box ⟨.c 3, some b3⟩ [cI 1]), (2, .box ⟨.c 3, some b4⟩ [cI 1]), (3, .box ⟨.c 3, some b5⟩ [cI 0]), (4, .box ⟨.c 4, some b6⟩ [cB false])] (.c (cB true)) [(0, zK Tryz.f123 [0, 1, 0, 1, 1, 1, 1] fn tm D l), (1, .box ⟨.c 3, some b3⟩ [cI 1]), (2, .box ⟨.c 3, some b4⟩ [cI 1]), (3, .box ⟨.c 3, some b5⟩ [cI 0]), (4, .box ⟨.c 4, some b6⟩ [cB false])] := by
 refine fS (iL := 0) (p := 13) (env0 := [zX 3 1 0, zX 4 2 0, zX 5 3 0, zX 6 4 0]) (n := 69) (r := (aX (aM Tryz.f123) [0, 1, 0, 1, 1, 1, 1] fn tm D)) rfl (by kernel_rfl) hn (by decide) ⟨rfl, ⟨_, _, _, rfl, rfl, h3⟩, ⟨rfl, ⟨_, _, _, rfl, rfl, h4⟩, ⟨rfl, ⟨_, _, _, rfl, rfl, h5⟩, ⟨rfl, ⟨_, _, _, rfl, rfl, h6⟩, trivial⟩⟩⟩⟩ rfl fun fr hG => ?_
 refine iS hG cW [] (⟨[zX 3 1 0, zX 4 2 0, zX 5 3 0, zX 6 4 0, zX 7 700 0], [(0, zK Tryz.f123 [0, 1, 0, 1, 1, 1, 1] fn tm D l), (1, .box ⟨.c 3, some b3⟩ [cI 1]), (2, .box ⟨.c 3, some b4⟩ [cI 1]), (3, .box ⟨.c 3, some b5⟩ [cI 0]), (4, .box ⟨.c 4, some b6⟩ [cB false]), (700, y30)]⟩) 0 (r := (aX (aM Tryz.f123) [0, 1, 0, 1, 1, 1, 1] fn tm D)) (by kernel_rfl) aA rfl rfl ?_
 refine fU hG (⟨[zX 3 1 0, zX 4 2 0, zX 5 3 0, zX 6 4 0, zX 7 700 0], [(0, .box ⟨.raw (.loop { (aX (aM Tryz.f123) [0, 1, 0, 1, 1, 1, 1] fn tm D) with state := .busy }), some l⟩ []), (1, .box ⟨.c 3, some b3⟩ [cI 1]), (2, .box ⟨.c 3, some b4⟩ [cI 1]), (3, .box ⟨.c 3, some b5⟩ [cI 0]), (4, .box ⟨.c 4, some b6⟩ [cB false]), (700, y30)]⟩) (by kernel_rfl) ?_
 refine zc hG [(7, 13, kB true)] [1, 0, 0] (false) (aC (by decide : true = true → false = false → (0 : Int) ≤ 0 ∧ 0 < ((S [45]).size : Int)) (aB (fun (hg1 : true = true) => (fun (hg2 : false = false) => (aGV : SpG g _ _ _ _ _))))) (fun hc1 => absurd hc1 (by decide)) (fun _ => ?_)
 refine zC hG [] [1, 0, 1, 1, 0] (true) (⟨[zX 3 1 0, zX 4 2 0, zX 5 3 0, zX 7 700 0], [(0, .box ⟨.raw (.loop { (aX (aM Tryz.f123) [0, 1, 0, 1, 1, 1, 1] fn tm D) with state := .busy }), some l⟩ []), (1, .box ⟨.c 3, some b3⟩ [cI 1]), (2, .box ⟨.c 3, some b4⟩ [cI 1]), (3, .box ⟨.c 3, some b5⟩ [cI 0]), (4, .box ⟨.c 4, some b6⟩ [cB false]), (700, y30)]⟩) aA (fun _ => ?_) (fun hc2 => absurd hc2 (by decide))
 refine iR hG cW [] [] 0 .normal [(0, .box ⟨.raw (jQ { (aX (aM Tryz.f123) [0, 1, 0, 1, 1, 1, 1] fn tm D) with state := .busy } .normal), some l⟩ []), (1, .box ⟨.c 3, some b3⟩ [cI 1]), (2, .box ⟨.c 3, some b4⟩ [cI 1]), (3, .box ⟨.c 3, some b5⟩ [cI 0]), (4, .box ⟨.c 4, some b6⟩ [cB false])] (by kernel_rfl) aA ?_ ?_
 rfl
 rfl
theorem rightY4 (b3 b4 b5 b6 D l : Nat) (fn : FuncId) (tm : Array Value) (h3 : tm.getD 3 undef = .pointer (some ⟨b3, 0, none⟩)) (h4 : tm.getD 4 undef = .pointer (some ⟨b4, 0, none⟩)) (h5 : tm.getD 5 undef = .pointer (some ⟨b5, 0, none⟩)) (h6 : tm.getD 6 undef = .pointer (some ⟨b6, 0, none⟩)) (hn : tm.size = 69) :
  cC Tryz.prog (Gl g) l [y28] [(0, zK Tryz.f123 [0, 1, 0, 1, 1, 1, 1] fn tm D l), (1, .box ⟨.c 3, some b3⟩ [cI 1]), (2, .box ⟨.c 3, some b4⟩ [cI 1]), (3, .box ⟨.c 3, some b5⟩ [cI 0]), (4, .box ⟨.c 4, some b6⟩ [cB false])] (.c (cB true)) [(0, zK Tryz.f123 [0, 1, 0, 1, 1, 1, 1] fn tm D l), (1, .box ⟨.c 3, some b3⟩ [cI 1]), (2, .box ⟨.c 3, some b4⟩ [cI 1]), (3, .box ⟨.c 3, some b5⟩ [cI 1]), (4, .box ⟨.c 4, some b6⟩ [cB false])] := by
 refine fS (iL := 0) (p := 13) (env0 := [zX 3 1 0, zX 4 2 0, zX 5 3 0, zX 6 4 0]) (n := 69) (r := (aX (aM Tryz.f123) [0, 1, 0, 1, 1, 1, 1] fn tm D)) rfl (by kernel_rfl) hn (by decide) ⟨rfl, ⟨_, _, _, rfl, rfl, h3⟩, ⟨rfl, ⟨_, _, _, rfl, rfl, h4⟩, ⟨rfl, ⟨_, _, _, rfl, rfl, h5⟩, ⟨rfl, ⟨_, _, _, rfl, rfl, h6⟩, trivial⟩⟩⟩⟩ rfl fun fr hG => ?_
 refine iS hG cW [] (⟨[zX 3 1 0, zX 4 2 0, zX 5 3 0, zX 6 4 0, zX 7 700 0], [(0, zK Tryz.f123 [0, 1, 0, 1, 1, 1, 1] fn tm D l), (1, .box ⟨.c 3, some b3⟩ [cI 1]), (2, .box ⟨.c 3, some b4⟩ [cI 1]), (3, .box ⟨.c 3, some b5⟩ [cI 0]), (4, .box ⟨.c 4, some b6⟩ [cB false]), (700, y29)]⟩) 0 (r := (aX (aM Tryz.f123) [0, 1, 0, 1, 1, 1, 1] fn tm D)) (by kernel_rfl) aA rfl rfl ?_
 refine fU hG (⟨[zX 3 1 0, zX 4 2 0, zX 5 3 0, zX 6 4 0, zX 7 700 0], [(0, .box ⟨.raw (.loop { (aX (aM Tryz.f123) [0, 1, 0, 1, 1, 1, 1] fn tm D) with state := .busy }), some l⟩ []), (1, .box ⟨.c 3, some b3⟩ [cI 1]), (2, .box ⟨.c 3, some b4⟩ [cI 1]), (3, .box ⟨.c 3, some b5⟩ [cI 0]), (4, .box ⟨.c 4, some b6⟩ [cB false]), (700, y29)]⟩) (by kernel_rfl) ?_
 refine zc hG [(7, 13, kB true)] [1, 0, 0] (false) (aC (show false = true → false = false → (0 : Int) ≤ 0 ∧ 0 < ((S [68, 68]).size : Int) from fun hg1 hg2 => absurd hg1 (by decide)) (aB (show false = true → false = false → SpG g 170 [.c (.d (.y 68))] [] (.c (cB true)) [] from fun hg1 hg2 => absurd hg1 (by decide)))) (fun hc1 => absurd hc1 (by decide)) (fun _ => ?_)
 refine zC hG [] [1, 0, 1, 1, 0] (false) (⟨[zX 3 1 0, zX 4 2 0, zX 5 3 0, zX 7 700 0], [(0, .box ⟨.raw (.loop { (aX (aM Tryz.f123) [0, 1, 0, 1, 1, 1, 1] fn tm D) with state := .busy }), some l⟩ []), (1, .box ⟨.c 3, some b3⟩ [cI 1]), (2, .box ⟨.c 3, some b4⟩ [cI 1]), (3, .box ⟨.c 3, some b5⟩ [cI 0]), (4, .box ⟨.c 4, some b6⟩ [cB false]), (700, y29)]⟩) aA (fun hc2 => absurd hc2 (by decide)) (fun _ => ?_)
 refine zc hG [] [1, 1, 1, 0, 1, 1, 0] (false) (aB (by decide : (0 : Int) ≤ 0 ∧ 0 < ((S [68, 68]).size : Int))) (fun hc3 => absurd hc3 (by decide)) (fun _ => ?_)
 refine zC hG [] [1, 1, 1, 1, 1, 0, 1, 1, 0] (false) (⟨[zX 4 2 0, zX 5 3 0], [(0, .box ⟨.raw (.loop { (aX (aM Tryz.f123) [0, 1, 0, 1, 1, 1, 1] fn tm D) with state := .busy }), some l⟩ []), (1, .box ⟨.c 3, some b3⟩ [cI 1]), (2, .box ⟨.c 3, some b4⟩ [cI 1]), (3, .box ⟨.c 3, some b5⟩ [cI 0]), (4, .box ⟨.c 4, some b6⟩ [cB false])]⟩) (aB (by decide : (0 : Int) ≤ 0 ∧ 0 < ((S [68, 68]).size : Int))) (fun hc4 => absurd hc4 (by decide)) (fun _ => ?_)
 refine iR hG cW [] [] 0 .normal [(0, .box ⟨.raw (jQ { (aX (aM Tryz.f123) [0, 1, 0, 1, 1, 1, 1] fn tm D) with state := .busy } .normal), some l⟩ []), (3, .box ⟨.c 3, some b5⟩ [cI 1]), (1, .box ⟨.c 3, some b3⟩ [cI 1]), (2, .box ⟨.c 3, some b4⟩ [cI 1]), (4, .box ⟨.c 4, some b6⟩ [cB false])] (by kernel_rfl) (aB (by unfold inR; decide : inR (0 + 1))) ?_ ?_
 rfl
 funext i; simp only [bG, upd]; (repeat' split) <;> first | rfl | (exfalso; omega)
theorem aKR (b0 : Nat) (b3 b4 b5 b6 D l : Nat) (fn : FuncId) (tm : Array Value) (h3 : tm.getD 3 undef = .pointer (some ⟨b3, 0, none⟩)) (h4 : tm.getD 4 undef = .pointer (some ⟨b4, 0, none⟩)) (h5 : tm.getD 5 undef = .pointer (some ⟨b5, 0, none⟩)) (h6 : tm.getD 6 undef = .pointer (some ⟨b6, 0, none⟩)) (hn : tm.size = 69) :
  SpG g 172 [.c (.d (.v (.func (.yield l) #[] #[]))), .c (.bx 0 0)] [(0, .box ⟨.c 9, some b0⟩ [cS (S [89, 89, 89, 89, 45, 77, 77, 45, 68, 68])]), (1, zK Tryz.f123 [0, 1, 0, 1, 1, 1, 1] fn tm D l), (2, .box ⟨.c 3, some b3⟩ [cI 0]), (3, .box ⟨.c 3, some b4⟩ [cI 0]), (4, .box ⟨.c 3, some b5⟩ [cI 0]), (5, .box ⟨.c 4, some b6⟩ [cB false])] (.tup []) [(0, .box ⟨.c 9, some b0⟩ [cS (S [])]), (1, zK Tryz.f123 [0, 1, 0, 1, 1, 1, 1] fn tm D l), (2, .box ⟨.c 3, some b3⟩ [cI 1]), (3, .box ⟨.c 3, some b4⟩ [cI 1]), (4, .box ⟨.c 3, some b5⟩ [cI 1]), (5, .box ⟨.c 4, some b6⟩ [cB false])] := by
 refine aG 17 Tryz.func172 (by kernel_rfl) fun fr hG => ?_
 refine zL hG [] [0] (fun (zz : Nat) => match zz with | k => (6 - k, ⟨[(0, [], .c (.d (.v (.func (.yield l) #[] #[])))), zX 1 0 0], [(0, .box ⟨.c 9, some b0⟩ [cS (S (layF k))]), (1, zK Tryz.f123 [0, 1, 0, 1, 1, 1, 1] fn tm D l), (2, .box ⟨.c 3, some b3⟩ [cI (rY k)]), (3, .box ⟨.c 3, some b4⟩ [cI (rM k)]), (4, .box ⟨.c 3, some b5⟩ [cI (rD k)]), (5, .box ⟨.c 4, some b6⟩ [cB false])]⟩, k ≤ 5)) 0 aA ?_ ?_
 exact Nat.zero_le _
 rintro k hI
 rcases (by omega : k = 0 ∨ k = 1 ∨ k = 2 ∨ k = 3 ∨ k = 4 ∨ k = 5) with rfl | rfl | rfl | rfl | rfl | rfl
 skip
 refine zc hG [] [1, 0] (true) aA (fun _ => ?_) (fun hc2 => absurd hc2 (by decide))
 refine zC hG [(1, 1, kC (y21)), (2, 2, .callG (.c (cB true)) [1, 2, 3, 4, 5] [(0, zK Tryz.f123 [0, 1, 0, 1, 1, 1, 1] fn tm D l), (1, .box ⟨.c 3, some b3⟩ [cI 1]), (2, .box ⟨.c 3, some b4⟩ [cI 0]), (3, .box ⟨.c 3, some b5⟩ [cI 0]), (4, .box ⟨.c 4, some b6⟩ [cB false])])] [1, 0, 1, 0, 1] (false) (⟨[(0, [], .c (.d (.v (.func (.yield l) #[] #[])))), zX 1 0 0, zX 3 202 0], [(0, .box ⟨.c 9, some b0⟩ [cS (S [89, 89, 89, 89, 45, 77, 77, 45, 68, 68])]), (1, zK Tryz.f123 [0, 1, 0, 1, 1, 1, 1] fn tm D l), (2, .box ⟨.c 3, some b3⟩ [cI 1]), (3, .box ⟨.c 3, some b4⟩ [cI 0]), (4, .box ⟨.c 3, some b5⟩ [cI 0]), (5, .box ⟨.c 4, some b6⟩ [cB false]), (202, y24)]⟩) (aC (uR : SpG g _ _ _ _ _) (aB (rightY0 b3 b4 b5 b6 D l fn tm h3 h4 h5 h6 hn : cC Tryz.prog (Gl g) _ _ _ _ _))) (fun hc3 => absurd hc3 (by decide)) (fun _ => ?_)
 refine zD hG [] 1 (aB (by decide : (0 : Int) ≤ 4 ∧ (4 : Int) ≤ ((S [89, 89, 89, 89, 45, 77, 77, 45, 68, 68]).size : Int) ∧ ((S [89, 89, 89, 89, 45, 77, 77, 45, 68, 68]).size : Int) ≤ ((S [89, 89, 89, 89, 45, 77, 77, 45, 68, 68]).size : Int))) ?_ ?_
 (try dsimp only); decide
 (try dsimp only); decide
 skip
 refine zc hG [] [1, 0] (true) aA (fun _ => ?_) (fun hc4 => absurd hc4 (by decide))
 refine zC hG [(1, 1, kC (y25)), (2, 2, .callG (.c (cB true)) [1, 2, 3, 4, 5] [(0, zK Tryz.f123 [0, 1, 0, 1, 1, 1, 1] fn tm D l), (1, .box ⟨.c 3, some b3⟩ [cI 1]), (2, .box ⟨.c 3, some b4⟩ [cI 0]), (3, .box ⟨.c 3, some b5⟩ [cI 0]), (4, .box ⟨.c 4, some b6⟩ [cB false])])] [1, 0, 1, 0, 1] (false) (⟨[(0, [], .c (.d (.v (.func (.yield l) #[] #[])))), zX 1 0 0, zX 3 202 0], [(0, .box ⟨.c 9, some b0⟩ [cS (S [45, 77, 77, 45, 68, 68])]), (1, zK Tryz.f123 [0, 1, 0, 1, 1, 1, 1] fn tm D l), (2, .box ⟨.c 3, some b3⟩ [cI 1]), (3, .box ⟨.c 3, some b4⟩ [cI 0]), (4, .box ⟨.c 3, some b5⟩ [cI 0]), (5, .box ⟨.c 4, some b6⟩ [cB false]), (202, y30)]⟩) (aC (uQ : SpG g _ _ _ _ _) (aB (rightY1 b3 b4 b5 b6 D l fn tm h3 h4 h5 h6 hn : cC Tryz.prog (Gl g) _ _ _ _ _))) (fun hc5 => absurd hc5 (by decide)) (fun _ => ?_)
 refine zD hG [] 2 (aB (by decide : (0 : Int) ≤ 1 ∧ (1 : Int) ≤ ((S [45, 77, 77, 45, 68, 68]).size : Int) ∧ ((S [45, 77, 77, 45, 68, 68]).size : Int) ≤ ((S [45, 77, 77, 45, 68, 68]).size : Int))) ?_ ?_
 (try dsimp only); decide
 (try dsimp only); decide
 skip
 refine zc hG [] [1, 0] (true) aA (fun _ => ?_) (fun hc6 => absurd hc6 (by decide))
 refine zC hG [(1, 1, kC (y26)), (2, 2, .callG (.c (cB true)) [1, 2, 3, 4, 5] [(0, zK Tryz.f123 [0, 1, 0, 1, 1, 1, 1] fn tm D l), (1, .box ⟨.c 3, some b3⟩ [cI 1]), (2, .box ⟨.c 3, some b4⟩ [cI 1]), (3, .box ⟨.c 3, some b5⟩ [cI 0]), (4, .box ⟨.c 4, some b6⟩ [cB false])])] [1, 0, 1, 0, 1] (false) (⟨[(0, [], .c (.d (.v (.func (.yield l) #[] #[])))), zX 1 0 0, zX 3 202 0], [(0, .box ⟨.c 9, some b0⟩ [cS (S [77, 77, 45, 68, 68])]), (1, zK Tryz.f123 [0, 1, 0, 1, 1, 1, 1] fn tm D l), (2, .box ⟨.c 3, some b3⟩ [cI 1]), (3, .box ⟨.c 3, some b4⟩ [cI 1]), (4, .box ⟨.c 3, some b5⟩ [cI 0]), (5, .box ⟨.c 4, some b6⟩ [cB false]), (202, y27)]⟩) (aC (aAD : SpG g _ _ _ _ _) (aB (rightY2 b3 b4 b5 b6 D l fn tm h3 h4 h5 h6 hn : cC Tryz.prog (Gl g) _ _ _ _ _))) (fun hc7 => absurd hc7 (by decide)) (fun _ => ?_)
 refine zD hG [] 3 (aB (by decide : (0 : Int) ≤ 2 ∧ (2 : Int) ≤ ((S [77, 77, 45, 68, 68]).size : Int) ∧ ((S [77, 77, 45, 68, 68]).size : Int) ≤ ((S [77, 77, 45, 68, 68]).size : Int))) ?_ ?_
 (try dsimp only); decide
 (try dsimp only); decide
 skip
 refine zc hG [] [1, 0] (true) aA (fun _ => ?_) (fun hc8 => absurd hc8 (by decide))
 refine zC hG [(1, 1, kC (y25)), (2, 2, .callG (.c (cB true)) [1, 2, 3, 4, 5] [(0, zK Tryz.f123 [0, 1, 0, 1, 1, 1, 1] fn tm D l), (1, .box ⟨.c 3, some b3⟩ [cI 1]), (2, .box ⟨.c 3, some b4⟩ [cI 1]), (3, .box ⟨.c 3, some b5⟩ [cI 0]), (4, .box ⟨.c 4, some b6⟩ [cB false])])] [1, 0, 1, 0, 1] (false) (⟨[(0, [], .c (.d (.v (.func (.yield l) #[] #[])))), zX 1 0 0, zX 3 202 0], [(0, .box ⟨.c 9, some b0⟩ [cS (S [45, 68, 68])]), (1, zK Tryz.f123 [0, 1, 0, 1, 1, 1, 1] fn tm D l), (2, .box ⟨.c 3, some b3⟩ [cI 1]), (3, .box ⟨.c 3, some b4⟩ [cI 1]), (4, .box ⟨.c 3, some b5⟩ [cI 0]), (5, .box ⟨.c 4, some b6⟩ [cB false]), (202, y30)]⟩) (aC (aAC : SpG g _ _ _ _ _) (aB (rightY3 b3 b4 b5 b6 D l fn tm h3 h4 h5 h6 hn : cC Tryz.prog (Gl g) _ _ _ _ _))) (fun hc9 => absurd hc9 (by decide)) (fun _ => ?_)
 refine zD hG [] 4 (aB (by decide : (0 : Int) ≤ 1 ∧ (1 : Int) ≤ ((S [45, 68, 68]).size : Int) ∧ ((S [45, 68, 68]).size : Int) ≤ ((S [45, 68, 68]).size : Int))) ?_ ?_
 (try dsimp only); decide
 (try dsimp only); decide
 skip
 refine zc hG [] [1, 0] (true) aA (fun _ => ?_) (fun hc10 => absurd hc10 (by decide))
 refine zC hG [(1, 1, kC (y28)), (2, 2, .callG (.c (cB true)) [1, 2, 3, 4, 5] [(0, zK Tryz.f123 [0, 1, 0, 1, 1, 1, 1] fn tm D l), (1, .box ⟨.c 3, some b3⟩ [cI 1]), (2, .box ⟨.c 3, some b4⟩ [cI 1]), (3, .box ⟨.c 3, some b5⟩ [cI 1]), (4, .box ⟨.c 4, some b6⟩ [cB false])])] [1, 0, 1, 0, 1] (false) (⟨[(0, [], .c (.d (.v (.func (.yield l) #[] #[])))), zX 1 0 0, zX 3 202 0], [(0, .box ⟨.c 9, some b0⟩ [cS (S [68, 68])]), (1, zK Tryz.f123 [0, 1, 0, 1, 1, 1, 1] fn tm D l), (2, .box ⟨.c 3, some b3⟩ [cI 1]), (3, .box ⟨.c 3, some b4⟩ [cI 1]), (4, .box ⟨.c 3, some b5⟩ [cI 1]), (5, .box ⟨.c 4, some b6⟩ [cB false]), (202, y29)]⟩) (aC (aFG : SpG g _ _ _ _ _) (aB (rightY4 b3 b4 b5 b6 D l fn tm h3 h4 h5 h6 hn : cC Tryz.prog (Gl g) _ _ _ _ _))) (fun hc11 => absurd hc11 (by decide)) (fun _ => ?_)
 refine zD hG [] 5 (aB (by decide : (0 : Int) ≤ 2 ∧ (2 : Int) ≤ ((S [68, 68]).size : Int) ∧ ((S [68, 68]).size : Int) ≤ ((S [68, 68]).size : Int))) ?_ ?_
 (try dsimp only); decide
 (try dsimp only); decide
 skip
 refine zc hG [] [1, 0] (false) aA (fun hc12 => absurd hc12 (by decide)) (fun _ => ?_)
 refine zE hG [] (.exit 0) (⟨[], [(0, .box ⟨.c 9, some b0⟩ [cS (S [])]), (1, zK Tryz.f123 [0, 1, 0, 1, 1, 1, 1] fn tm D l), (2, .box ⟨.c 3, some b3⟩ [cI 1]), (3, .box ⟨.c 3, some b4⟩ [cI 1]), (4, .box ⟨.c 3, some b5⟩ [cI 1]), (5, .box ⟨.c 4, some b6⟩ [cB false])]⟩) aA rfl ?_
 exact zr hG [] [] aA
abbrev y31 : Ob := .box 9 [cS (S [89, 89, 89, 89, 45, 77, 77, 45, 68, 68])]
theorem pY  :
  SpG g 123 [.c (cS (S [89, 89, 89, 89, 45, 77, 77, 45, 68, 68]))] [] (.c (cB true)) [] := by
 refine aFN 69 Tryz.func123 (by kernel_rfl) fun fr hG => ?_
 refine zC hG [] [1, 0, 1] (false) (⟨[zS 0 (S [89, 89, 89, 89, 45, 77, 77, 45, 68, 68]), zX 2 100 0], [(100, .box 4 [cB false])]⟩) aA (fun hc1 => absurd hc1 (by decide)) (fun _ => ?_)
 refine s7 hG cW [(5, 1, .call (.c (.fn 172 [] [(100, 0)])) [(100, y31)] [])] [0, 1, 0, 1, 1, 1, 1] (⟨[zX 2 100 0, zX 3 400 0, zX 4 401 0, zX 5 402 0, zX 6 500 0, (12, [], .c (.fn 172 [] [(601, 0)]))], [(100, .box 4 [cB false]), (400, .box 3 [cI 0]), (401, .box 3 [cI 0]), (402, .box 3 [cI 0]), (500, .box 4 [cB false]), (601, y31)]⟩) _ (by kernel_rfl) (aB (qC (S [89, 89, 89, 89, 45, 77, 77, 45, 68, 68]) : SpG g _ _ _ _ _)) ?_
 refine aEU (g := 12) (ps := rgP (aM Tryz.f123) [0, 1, 0, 1, 1, 1, 1]) (assign := rgA (aM Tryz.f123) [0, 1, 0, 1, 1, 1, 1]) (body := rgB (aM Tryz.f123) [0, 1, 0, 1, 1, 1, 1]) hG (by kernel_rfl) 9900 9901 9910 (by kernel_rfl) rfl (by kernel_rfl) fun b D l fn tm hT hn => ?_
 refine ⟨.tup [], [601, 9901, 400, 401, 402, 500], [(0, .box ⟨.c 9, some (b 601)⟩ [cS (S [])]), (1, zK Tryz.f123 [0, 1, 0, 1, 1, 1, 1] fn tm D l), (2, .box ⟨.c 3, some (b 400)⟩ [cI 1]), (3, .box ⟨.c 3, some (b 401)⟩ [cI 1]), (4, .box ⟨.c 3, some (b 402)⟩ [cI 1]), (5, .box ⟨.c 4, some (b 500)⟩ [cB false])], none, ⟨[zX 2 100 0, zX 3 400 0, zX 4 401 0, zX 5 402 0], [(100, .box ⟨.c 4, some (b 100)⟩ [cB false]), (400, .box ⟨.c 3, some (b 400)⟩ [cI 1]), (401, .box ⟨.c 3, some (b 401)⟩ [cI 1]), (402, .box ⟨.c 3, some (b 402)⟩ [cI 1]), (9900, .box ⟨.raw (.deferred (some [])), some D⟩ [])]⟩, _, .normal, by kernel_rfl, aB (aKR (b 601) (b 400) (b 401) (b 402) (b 500) D l fn tm (hT.bx 3 400 0 rfl) (hT.bx 4 401 0 rfl) (hT.bx 5 402 0 rfl) (hT.bx 6 500 0 rfl) hn : SpG g _ _ _ _ _), rfl, ?_⟩
 have hG0 := hG
 replace hG := j5 (D := D) hG
 refine n1 hG0 cW [] [] 9900 (.c (cB true)) [] (by kernel_rfl) aA ?_ ?_
 rfl
 rfl
end Go.Proofs.YtmpgfchkkemngaaGreatDoor
namespace Go.Proofs.YtmpgfchkkemngaaGreatDoor
open Go.RowKit Go.V
open Go.Eng (inR byteAt u8 bH)
variable {g : Gv}
theorem aFL (n : Int) :
  SpG g 167 [.c (cI n)] [] (.c (cB (decide ((0 : Int) ≤ n) && decide (n ≤ 3652058)))) [] := by
 refine aG 9 Tryz.func167 (by kernel_rfl) fun fr hG => ?_
 refine zR hG [] [] (.c (cB ((decide ((n : Int) ≥ 0)) && (decide ((n : Int) ≤ 3652058))))) [] aA ?_ ?_
 refine dO ?_
 rw [Bool.eq_iff_iff] <;> (try simp) <;> (try omega)
 rfl
theorem aL5 (y : Int) (h : 0 ≤ y) :
  SpG g 196 [.c (cI y)] [] (.c (cB (j7 y))) [] := by
 refine aG 16 Tryz.func196 (by kernel_rfl) fun fr hG => ?_
 refine zR hG [] [] (.c (cB (((decide ((Int.tmod y 4 : Int) = 0)) && (!decide ((Int.tmod y 100 : Int) = 0))) || (decide ((Int.tmod y 400 : Int) = 0))))) [] (aC (by intros; first | omega | decide | (simp only [zq0] at *; omega) : 4 ≠ (0 : Int)) (aC (by intros; first | omega | decide | (simp only [zq0] at *; omega) : (decide ((Int.tmod y 4 : Int) = 0)) = true → 100 ≠ (0 : Int)) (aB (by intros; first | omega | decide | (simp only [zq0] at *; omega) : ((decide ((Int.tmod y 4 : Int) = 0)) && (!decide ((Int.tmod y 100 : Int) = 0))) = false → 400 ≠ (0 : Int))))) ?_ ?_
 refine dO ?_
 simp only [j7, Int.tmod_eq_emod_of_nonneg h]; rw [Bool.eq_iff_iff] <;> (try simp) <;> (try omega)
 rfl
theorem oR (y : Int) (h1 : 1 ≤ y) (h2 : y ≤ 10000) :
  SpG g 168 [.c (cI y)] [] (.c (cI (dby y))) [] := by
 refine aG 17 Tryz.func168 (by kernel_rfl) fun fr hG => ?_
 refine zR hG [] [] (.c (cI ((((365 * (y - 1)) + (Int.tdiv (y - 1) 4)) - (Int.tdiv (y - 1) 100)) + (Int.tdiv (y - 1) 400)))) [] (aC (by intros; first | omega | decide | (simp only [inR, Int.tdiv_eq_ediv_of_nonneg (show 0 ≤ y - 1 by omega)]; omega) : inR (y - 1)) (aC (by intros; first | omega | decide | (simp only [inR, Int.tdiv_eq_ediv_of_nonneg (show 0 ≤ y - 1 by omega)]; omega) : inR (365 * (y - 1))) (aC (by intros; first | omega | decide | (simp only [inR, Int.tdiv_eq_ediv_of_nonneg (show 0 ≤ y - 1 by omega)]; omega) : 4 ≠ (0 : Int) ∧ inR (Int.tdiv (y - 1) 4)) (aC (by intros; first | omega | decide | (simp only [inR, Int.tdiv_eq_ediv_of_nonneg (show 0 ≤ y - 1 by omega)]; omega) : inR ((365 * (y - 1)) + (Int.tdiv (y - 1) 4))) (aC (by intros; first | omega | decide | (simp only [inR, Int.tdiv_eq_ediv_of_nonneg (show 0 ≤ y - 1 by omega)]; omega) : 100 ≠ (0 : Int) ∧ inR (Int.tdiv (y - 1) 100)) (aC (by intros; first | omega | decide | (simp only [inR, Int.tdiv_eq_ediv_of_nonneg (show 0 ≤ y - 1 by omega)]; omega) : inR (((365 * (y - 1)) + (Int.tdiv (y - 1) 4)) - (Int.tdiv (y - 1) 100))) (aC (by intros; first | omega | decide | (simp only [inR, Int.tdiv_eq_ediv_of_nonneg (show 0 ≤ y - 1 by omega)]; omega) : 400 ≠ (0 : Int) ∧ inR (Int.tdiv (y - 1) 400)) (aB (by intros; first | omega | decide | (simp only [inR, Int.tdiv_eq_ediv_of_nonneg (show 0 ≤ y - 1 by omega)]; omega) : inR ((((365 * (y - 1)) + (Int.tdiv (y - 1) 4)) - (Int.tdiv (y - 1) 100)) + (Int.tdiv (y - 1) 400))))))))))) ?_ ?_
 refine f4 ?_
 simp only [Int.tdiv_eq_ediv_of_nonneg (show 0 ≤ y - 1 by omega)]; rfl
 rfl
theorem pX (y m : Int) (h0 : 0 ≤ y) (h1 : 1 ≤ m) (h2 : m ≤ 12) :
  SpG g 169 [.c (cI y), .c (cI m)] [] (.c (cI (dI y m))) [] := by
 refine aG 15 Tryz.func169 (by kernel_rfl) fun fr hG => ?_
 refine zC hG [(1, 4, kB (j7 y))] [1, 0, 1] ((decide ((m : Int) = 2)) && (j7 y)) (⟨[zI 1 m, zI 4 0], []⟩) (aB (fun (hg1 : (decide ((m : Int) = 2)) = true) => (aL5 y (by omega) : SpG g _ _ _ _ _))) (fun hc1 => ?_) (fun hc1 => ?_)
 (try simp only [blS] at hc1)
 refine zR hG [] [] (.c (cI 29)) [] aA ?_ ?_
 refine f4 ?_
 simp [dI, lpI, hc1]
 rfl
 (try simp only [blS] at hc1)
 refine zR hG [(3, 3, .elem [.i (mlen.getD (0 + (m - 1 : Int).toNat * 1) 0)])] [] (.c (cI (mlen.getD (0 + (m - 1 : Int).toNat * 1) 0))) [] (aC (by intros; first | omega | (unfold inR; omega) | exact ⟨by omega, by show _ < ((12 : Nat) : Int); omega⟩ : inR (m - 1)) (aC (by intros; first | omega | (unfold inR; omega) | exact ⟨by omega, by show _ < ((12 : Nat) : Int); omega⟩ : (0 : Int) ≤ (m - 1) ∧ (m - 1) < ((12 : Nat) : Int)) (aB (by intros; exact sJ 0 (by show _ < 12; omega) : (mlen.map (Value.int .i64) : List Value)[0 + (m - 1 : Int).toNat * 1]? = some (.int .i64 (mlen.getD (0 + (m - 1 : Int).toNat * 1) 0)))))) ?_ ?_
 refine f4 ?_
 have e : 0 + (m - 1 : Int).toNat * 1 = (m - 1).toNat := by omega
 rw [e]; exact aLX y m h1 h2 (by intro h; simp [h] at hc1)
 rfl
theorem aNP (n : Int) (h0 : 0 ≤ n) (h1 : n ≤ 3652058) :
  SpG g 122 [.c (cI n)] [] (y0 ((civ n).1) ((civ n).2.1) ((civ n).2.2)) [] := by
 refine aG 43 Tryz.func122 (by kernel_rfl) fun fr hG => ?_
 refine zC hG [(1, 1, kB (decide ((0 : Int) ≤ n) && decide (n ≤ (3652058 : Int))))] [1, 0, 1] (!(decide ((0 : Int) ≤ n) && decide (n ≤ (3652058 : Int)))) (⟨[zI 0 n, zI 2 0, zI 3 0, zI 4 0, zB 5 false], []⟩) (aB (aFL n : SpG g _ _ _ _ _)) (fun hc1 => ?_) (fun hc1 => ?_)
 (try simp only [blS] at hc1)
 exfalso; omega
 (try simp only [blS] at hc1)
 refine zL hG [] [0, 0, 1, 1, 1] (fun (zz : Int) => match zz with | y => ((9999 - y).toNat, ⟨[zI 0 n, zI 2 y, zI 3 0, zI 4 0, zB 5 false], []⟩, 1 ≤ y ∧ y ≤ 9999 ∧ dby y ≤ n)) (Int.tdiv n 366 + 1) (aC (by intros; first | omega | decide | (simp only [zq0] at *; first | omega | (rw [Int.tdiv_eq_ediv_of_nonneg h0] at *; omega)) : 366 ≠ (0 : Int) ∧ inR (Int.tdiv n 366)) (aB (by intros; first | omega | decide | (simp only [zq0] at *; first | omega | (rw [Int.tdiv_eq_ediv_of_nonneg h0] at *; omega)) : inR ((Int.tdiv n 366) + 1)))) ?_ ?_
 rw [Int.tdiv_eq_ediv_of_nonneg h0]; exact ⟨by omega, by omega, by unfold dby; omega⟩
 rintro y ⟨hy1, hy2, hy3⟩
 have hdb := oM y hy1 (by omega)
 have hdb2 := oM (y + 1) (by omega) (by omega)
 refine zc hG [(4, 5, kI (dby (y + 1)))] [1, 0] ((decide ((y : Int) < 9999)) && (decide ((dby (y + 1) : Int) ≤ n))) (aC (by intros; first | omega | decide | (simp only [zq0] at *; first | omega | (rw [Int.tdiv_eq_ediv_of_nonneg h0] at *; omega)) : (decide ((y : Int) < 9999)) = true → inR (y + 1)) (aB (fun (hg1 : (decide ((y : Int) < 9999)) = true) => (oR (y + 1) (by omega) (by omega) : SpG g _ _ _ _ _)))) (fun hc3 => ?_) (fun hc3 => ?_)
 (try simp only [blS] at hc3)
 refine zD hG [] (y + 1) (aB (by intros; first | omega | decide | (simp only [zq0] at *; first | omega | (rw [Int.tdiv_eq_ediv_of_nonneg h0] at *; omega)) : inR (y + 1))) ?_ ?_
 (try dsimp only); omega
 exact ⟨by omega, by omega, hc3.2⟩
 (try simp only [blS] at hc3)
 refine zE hG [] (.exit 0) (⟨[zI 0 n, zI 2 y, zI 3 0, zI 4 0, zB 5 false], []⟩) aA rfl ?_
 refine zL hG [(6, 2, kI (dby y))] [0, 0, 1, 1, 1, 1, 1] (fun (zz : Int × Int) => match zz with | (m, d) => ((12 - m).toNat, ⟨[zI 2 y, zI 3 m, zI 4 d, zB 5 false], []⟩, 1 ≤ m ∧ m ≤ 12 ∧ 1 ≤ d ∧ d = n - dby y + 1 - cum y m)) (1, n - dby y + 1) (aC (oR y (by omega) (by omega) : SpG g _ _ _ _ _) (aC (by intros; first | omega | decide | (simp only [zq0] at *; first | omega | (rw [Int.tdiv_eq_ediv_of_nonneg h0] at *; omega)) : inR (n - (dby y))) (aB (by intros; first | omega | decide | (simp only [zq0] at *; first | omega | (rw [Int.tdiv_eq_ediv_of_nonneg h0] at *; omega)) : inR ((n - (dby y)) + 1))))) ?_ ?_
 exact ⟨by omega, by omega, by omega, by rw [u5]; omega⟩
 rintro ⟨m, d⟩ ⟨hm1, hm2, hd1, hd2⟩
 have hcb := u4 y m hm1 (by omega)
 have hdl := iF y m
 have hcs := eM y m hm1
 have hup := civ_up hy1 hy2 hy3 h1 hc3 hm1 hm2 hd2
 refine zp hG [(7, 3, kI (dI y m))] [1, 0] ((d : Int) > (dI y m)) (aB (pX y m (by omega) (by omega) (by omega) : SpG g _ _ _ _ _)) (fun hc5 => ?_) (fun hc5 => ?_)
 skip
 refine zD hG [(8, 3, kI (dI y m))] (m + 1, d - dI y m) (aC (pX y m (by omega) (by omega) (by omega) : SpG g _ _ _ _ _) (aC (by intros; first | omega | decide | (simp only [zq0] at *; first | omega | (rw [Int.tdiv_eq_ediv_of_nonneg h0] at *; omega)) : inR (d - (dI y m))) (aB (by intros; first | omega | decide | (simp only [zq0] at *; first | omega | (rw [Int.tdiv_eq_ediv_of_nonneg h0] at *; omega)) : inR (m + 1))))) ?_ ?_
 (try dsimp only); omega
 exact ⟨by omega, by omega, by omega, by omega⟩
 skip
 refine zE hG [] (.exit 2) (⟨[zI 2 y, zI 3 m, zI 4 d, zB 5 false], []⟩) aA rfl ?_
 refine zR hG [] [] (y0 y m d) [] aA ?_ ?_
 have hv : vld y m d := ⟨hy1, hy2, hm1, hm2, hd1, by omega⟩
 rw [vB hv (by unfold eO; omega)]
 rfl
end Go.Proofs.YtmpgfchkkemngaaGreatDoor
namespace Go.Proofs.YtmpgfchkkemngaaGreatDoor
open Go.RowKit Go.Sort Go.Lib
set_option maxRecDepth 100000 in
theorem v6 (u : Nat) (hu64 : u < 18446744073709551616) (w : World) (htab : Lib.TabIs Tryz.prog w "internal/strconv.uint64pow10" .u64 Lib.pow10Tab) :
  Calls Tryz.prog 121 #[.int .u64 u, .int .i64 10] w fun e w' => e = .returned (.string ⟨(Lib.decDigits u).toArray⟩) ∧ ∃ k os, w' = grow (w.drewN k) os := by
 by_cases hs : u < 100
 have hw : IntKind.i64.wrap (u : Int) = (u : Int) := by rw [IntKind.wrap_i64]; omega
 go_enter Tryz.func121, Tryz.ntmps121
 go_wp2_with (go_at_call 159; refine (Tryz.internal_strconv_small u hs _).mono ?_; rintro e w' ⟨rfl, rfl⟩)
 go_ret
 exact ⟨rfl, 0, #[], by simp [World.drewN_zero]⟩
 have hu1 : 1 ≤ u := by omega
 have hnd20 : Lib.nDigits u ≤ 20 := by have := Lib.numDigits_eq u hu1 hu64; split at this <;> omega
 have hb3 : Lib.nDigits u ≤ 24 := by omega
 have e1 : Tryz.prog.arrayLen 180 = 24 := by kernel_rfl
 have hsl1 : ∀ W, (Instr.sliceAt 180 (.pointer (some ⟨w.heap.size, 0, none⟩)) none (some (.int .i64 ((Lib.nDigits u : Int)))) none).run Tryz.prog W = .ok (.slice (some ⟨w.heap.size, 0, none⟩) (Lib.nDigits u) 24) W := fun W => by
  rw [run_sliceAt_array_h W 180 ⟨w.heap.size, 0, none⟩ (by kernel_rfl) .i64 (Lib.nDigits u : Int) (by omega) (by rw [e1]; omega)]
  have e2 : (sizeOf (Tryz.prog.elem 180)).run Tryz.prog W = .ok 1 W := by kernel_rfl
  rw [e2]
  simp [slicedAt, e1, Lib.add_plain]
 have hH0 := Lib.holds_zero0 w 180 (Lib.nDigits u) (by omega)
 have hfmt := Tryz.internal_strconv_formatBase10 w.heap.size 0 24 u (Array.replicate (Lib.nDigits u) 0) (w.alloc (.cells Lib.zeros24 180)) hH0 (by rw [Array.size_replicate]; exact Lib.lt_pow_nDigits u) hu64 (by rw [Array.size_replicate]; omega)
 rw [Array.size_replicate] at hfmt
 have HH0 := Lib.hid hH0
 clear hH0 e1
 go_enter Tryz.func121, Tryz.ntmps121
 go_wp2_with (first
  | (go_at_call 160; refine (Tryz.internal_strconv_numDigits u hu1 hu64 _ (Lib.tabIs_alloc htab _)).mono ?_; rintro e w' ⟨rfl, rfl⟩))
 go_at_call 161
 refine hfmt.mono ?_
 rintro e w' ⟨rfl, k, v', dk, rfl, hF⟩
 have hcv : (convert 41 9 (.slice (some ⟨w.heap.size, 0, none⟩) (Lib.nDigits u) 24)).run Tryz.prog ((putRow (fun (b : UInt8) => Value.int .u8 (b.toNat : Int)) (w.alloc (.cells Lib.zeros24 180)) w.heap.size 0 dk).drewN k) = .ok (.string ⟨(Lib.decDigits u).toArray⟩) ((putRow (fun (b : UInt8) => Value.int .u8 (b.toNat : Int)) (w.alloc (.cells Lib.zeros24 180)) w.heap.size 0 dk).drewN k) := by
  have h := run_convert_bytes_back (P := Tryz.prog) ((putRow (fun (b : UInt8) => Value.int .u8 (b.toNat : Int)) (w.alloc (.cells Lib.zeros24 180)) w.heap.size 0 dk).drewN k) 41 9 (Tryz.prog.elem 41) ⟨w.heap.size, 0, none⟩ 24 (Lib.decDigits u) (by kernel_rfl) (by kernel_rfl) (by kernel_rfl) (fun j hj => by
   rw [Lib.row_is_numeral hF j hj, Lib.add_plain, World.cell?_drewN]
   exact cell?_putRow (fun (b : UInt8) => Value.int .u8 (b.toNat : Int)) _ w.heap.size 0 _ dk HH0.out (by rw [hF.size, Array.size_replicate]) j (by rw [hF.size]; rw [Lib.decDigits_length] at hj; exact hj))
  rw [Lib.decDigits_length] at h
  exact h
 go_wp2
 go_ret
 refine ⟨rfl, k, ?_⟩
 rw [alloc_eq_grow]
 obtain ⟨os', _, e⟩ := putRow_grow_new (fun (b : UInt8) => Value.int .u8 (b.toNat : Int)) w #[.cells Lib.zeros24 180] w.heap.size 0 dk (Nat.le_refl _)
 exact ⟨os', by rw [e]; rfl⟩
theorem uN (u : Nat) (hu64 : u < 18446744073709551616) (w : World) (htab : Lib.TabIs Tryz.prog w "internal/strconv.uint64pow10" .u64 Lib.pow10Tab) :
  Calls Tryz.prog 80 #[.int .u64 u, .int .i64 10] w fun e w' => e = .returned (.string ⟨(Lib.decDigits u).toArray⟩) ∧ ∃ k os, w' = grow (w.drewN k) os := by
 go_enter Tryz.func80, Tryz.ntmps80
 go_wp2_with (go_at_call 121; refine (v6 u hu64 _ htab).mono ?_; rintro e w' ⟨rfl, k, os, rfl⟩)
 go_ret
 exact ⟨rfl, k, os, rfl⟩
end Go.Proofs.YtmpgfchkkemngaaGreatDoor
