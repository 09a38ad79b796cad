/- Part 40 of the proof: texts T7, O1q, O2q. -/
import Derived.Test.YtdejnaokkdndeaaGreatDoorP34
import Derived.Test.YtdejnaokkdndeaaGreatDoorP36
import Derived.Test.YtdejnaokkdndeaaGreatDoorP38
import Derived.Test.YtdejnaokkdndeaaGreatDoorP39
set_option linter.all false
namespace Go.Proofs.YtdejnaokkdndeaaGreatDoor
open Go.RowKit Go.V
open Go.Eng (inR byteAt u8 aU)
variable {g : Gv}
theorem cls_ok {c : UInt8} (h : aR c = true) : ¬ dM (c.toNat : Int) = 0 := by
 simp only [aR, Bool.and_eq_true, decide_eq_true_eq] at h
 obtain ⟨h1, h2⟩ := h
 unfold dM
 rw [if_neg (by omega)]
 split
 decide
 split
 decide
 split
 decide
 split <;> decide
theorem all_ch {t : List UInt8} (h : t.all aR = true) {k : Nat} (hk : k < t.length) : ¬ dM (byteAt (S t) (k : Int)) = 0 := by
 rw [nB t k hk, chP, List.getD_eq_getElem?_getD, List.getElem?_eq_getElem hk]
 exact cls_ok (List.all_eq_true.1 h _ (List.getElem_mem hk))
def l7 (tr : List Int) (n : Nat) : Nat → Nat → Int → Int
 | 0, _, c => c
 | f + 1, p, c => if n ≤ p then c else if tr.getD p 0 ≤ (p : Int) then l7 tr n f (p + 1) c else l7 tr n f (tr.getD p 0).toNat (c + 1)
theorem qG {tr : List Int} {n f p : Nat} {k : Int} (h1 : p < n) (h2 : n < p + f) (h : tr.getD p 0 ≤ (p : Int)) : gK tr n f p k = gK tr n (f - 1) (p + 1) k := by
 obtain ⟨f', rfl⟩ : ∃ f', f = f' + 1 := ⟨f - 1, by omega⟩
 rw [gK, if_neg (by omega), if_pos h]; rfl
theorem sO {tr : List Int} {n f p : Nat} {k : Int} (h1 : p < n) (h2 : n < p + f) (h : ¬ tr.getD p 0 ≤ (p : Int)) : gK tr n f p k = if k = 1 then some (p, (tr.getD p 0).toNat) else gK tr n (f - 1) (tr.getD p 0).toNat (k - 1) := by
 obtain ⟨f', rfl⟩ : ∃ f', f = f' + 1 := ⟨f - 1, by omega⟩
 rw [gK, if_neg (by omega), if_neg h]; rfl
theorem aEK {tr : List Int} {n f p : Nat} {k : Int} (h1 : n ≤ p) : gK tr n f p k = none := by
 cases f with
 | zero => rfl
 | succ f => rw [gK, if_pos h1]
theorem aEZ {tr : List Int} {n f p : Nat} {c : Int} (h1 : p < n) (h2 : n < p + f) (h : tr.getD p 0 ≤ (p : Int)) : l7 tr n f p c = l7 tr n (f - 1) (p + 1) c := by
 obtain ⟨f', rfl⟩ : ∃ f', f = f' + 1 := ⟨f - 1, by omega⟩
 rw [l7, if_neg (by omega), if_pos h]; rfl
theorem aIQ {tr : List Int} {n f p : Nat} {c : Int} (h1 : p < n) (h2 : n < p + f) (h : ¬ tr.getD p 0 ≤ (p : Int)) : l7 tr n f p c = l7 tr n (f - 1) (tr.getD p 0).toNat (c + 1) := by
 obtain ⟨f', rfl⟩ : ∃ f', f = f' + 1 := ⟨f - 1, by omega⟩
 rw [l7, if_neg (by omega), if_neg h]; rfl
theorem aIR {tr : List Int} {n f p : Nat} {c : Int} (h1 : n ≤ p) : l7 tr n f p c = c := by
 cases f with
 | zero => rfl
 | succ f => rw [l7, if_pos h1]
theorem wH (t : List UInt8) (ps : List Pc) (p : Nat) (h : p ≤ t.length) : (aG t ps).getD p 0 ≤ (t.length : Int) := by
 rcases (gF t ps p h).2 with h1 | ⟨e, h1, h2⟩
 omega
 have := (yG h2).2; omega
def zq20 := And.intro @List.length_map.{0, 0} (And.intro @aJ (And.intro @Go.Eng.inR.eq_1 (And.intro @intsD.eq_1 (@maxLen.eq_1))))
theorem aIU (t : List UInt8) (ht : t.length ≤ 1000000) (hA : t.all aR = true) :
  SpG g 336 [.c (cS (S t))] [] (.c (cB true)) [] := by
 have hsz := aJ t
 refine aL 15 Tryz.func336 (by kernel_rfl) fun fr hG => ?_
 refine zL hG [] [0, 1, 0, 1] (fun (zz : Nat) => match zz with | k => (t.length - k, ⟨[zS 0 (S t), zB 2 false, zI 5 ((S t).size : Int), zI 6 (k : Int)], []⟩, k ≤ t.length)) 0 aA ?_ ?_
 exact Nat.zero_le _
 rintro k hk
 refine zp hG [] [0, 1] (((k : Int) : Int) < ((S t).size : Int)) aA (fun hc2 => ?_) (fun hc2 => ?_)
 skip
 refine zp hG [(4, 3, kI (dM (byteAt (S t) (k : Int))))] [1, 1, 0, 0, 1, 1] ((dM (byteAt (S t) (k : Int)) : Int) = 0) (aB (by intros; (try simp only [zq20, eE] at *); first | decide | omega : (0 : Int) ≤ (k : Int) ∧ (k : Int) < ((S t).size : Int)) (aD (qQ (byteAt (S t) (k : Int)) : SpG g _ _ _ _ _))) (fun hc3 => ?_) (fun hc3 => ?_)
 skip
 exact absurd hc3 (all_ch hA (k := k) (by omega))
 skip
 refine zD hG [] (k + 1) (aD (by intros; (try simp only [zq20, eE] at *); first | decide | omega : inR ((k : Int) + 1))) ?_ ?_
 (try dsimp only); omega
 omega
 skip
 refine zE hG [] (.exit 0) (⟨[zB 2 false], []⟩) aA rfl ?_
 exact zr hG [] [] aA
theorem kO (t : List UInt8) (ht2 : t.length ≤ 200) (hA : t.all aR = true) :
  SpG g 271 [.c (cS (S t))] [] (.c (cB true)) [] := by
 have hsz := aJ t
 have ht : t.length ≤ 1000000 := by omega
 have h2 : decide (((S t).size : Int) ≤ 200) = true := by simp only [decide_eq_true_eq]; omega
 refine aL 10 Tryz.func271 (by kernel_rfl) fun fr hG => ?_
 refine zR hG [(1, 5, kB true)] [] (.c (cB ((decide ((((S t).size : Int) : Int) ≤ 200)) && true))) [] (aD (fun (hg1 : (decide ((((S t).size : Int) : Int) ≤ 200)) = true) => (aIU t ht hA : SpG g _ _ _ _ _))) ?_ ?_
 rw [h2]; rfl
 rfl
theorem aH3 (b5 b6 b7 b8 b9 D l : Nat) (fn : FuncId) (tm : Array Value) (h5 : tm.getD 5 undef = .pointer (some ⟨b5, 0, none⟩)) (h6 : tm.getD 6 undef = .pointer (some ⟨b6, 0, none⟩)) (h7 : tm.getD 7 undef = .pointer (some ⟨b7, 0, none⟩)) (h8 : tm.getD 8 undef = .pointer (some ⟨b8, 0, none⟩)) (h9 : tm.getD 9 undef = .pointer (some ⟨b9, 0, none⟩)) (hn : tm.size = 24) (k c a b : Int) (hc : -1000000 ≤ c ∧ c ≤ 1000000) (hne : ¬ c + 1 = k) :
  iS Tryz.prog (Gl g) l [.c (cI a), .c (cI b)] [(0, zK Tryz.f199 [0, 1, 0, 1, 1] fn tm D l), (1, .box ⟨.c 3, some b5⟩ [cI k]), (2, .box ⟨.c 3, some b6⟩ [cI 0]), (3, .box ⟨.c 3, some b7⟩ [cI 0]), (4, .box ⟨.c 4, some b8⟩ [cB false]), (5, .box ⟨.c 3, some b9⟩ [cI c])] (.c (cB true)) [(0, zK Tryz.f199 [0, 1, 0, 1, 1] fn tm D l), (1, .box ⟨.c 3, some b5⟩ [cI k]), (2, .box ⟨.c 3, some b6⟩ [cI 0]), (3, .box ⟨.c 3, some b7⟩ [cI 0]), (4, .box ⟨.c 4, some b8⟩ [cB false]), (5, .box ⟨.c 3, some b9⟩ [cI (c + 1)])] := by
 refine aCB (iL := 0) (p := 15) (p2 := 16) (env0 := [zX 5 1 0, zX 6 2 0, zX 7 3 0, zX 8 4 0, zX 9 5 0]) (n := 24) (r := (aZ (aN Tryz.f199) [0, 1, 0, 1, 1] fn tm D)) rfl (by kernel_rfl) hn (by decide) (by decide) (by decide) ⟨rfl, ⟨_, _, _, rfl, rfl, h5⟩, ⟨rfl, ⟨_, _, _, rfl, rfl, h6⟩, ⟨rfl, ⟨_, _, _, rfl, rfl, h7⟩, ⟨rfl, ⟨_, _, _, rfl, rfl, h8⟩, ⟨rfl, ⟨_, _, _, rfl, rfl, h9⟩, trivial⟩⟩⟩⟩⟩ fun fr hG => ?_
 refine aFM hG fB [] (⟨[zX 5 1 0, zX 6 2 0, zX 7 3 0, zX 8 4 0, zX 9 5 0, zI 10 a, zI 11 b], [(0, zK Tryz.f199 [0, 1, 0, 1, 1] fn tm D l), (1, .box ⟨.c 3, some b5⟩ [cI k]), (2, .box ⟨.c 3, some b6⟩ [cI 0]), (3, .box ⟨.c 3, some b7⟩ [cI 0]), (4, .box ⟨.c 4, some b8⟩ [cB false]), (5, .box ⟨.c 3, some b9⟩ [cI c])]⟩) 0 (r := (aZ (aN Tryz.f199) [0, 1, 0, 1, 1] fn tm D)) (by kernel_rfl) aA rfl rfl ?_
 refine vV hG (⟨[zX 5 1 0, zX 6 2 0, zX 7 3 0, zX 8 4 0, zX 9 5 0, zI 10 a, zI 11 b], [(0, .box ⟨.raw (.loop { (aZ (aN Tryz.f199) [0, 1, 0, 1, 1] fn tm D) with state := .busy }), some l⟩ []), (1, .box ⟨.c 3, some b5⟩ [cI k]), (2, .box ⟨.c 3, some b6⟩ [cI 0]), (3, .box ⟨.c 3, some b7⟩ [cI 0]), (4, .box ⟨.c 4, some b8⟩ [cB false]), (5, .box ⟨.c 3, some b9⟩ [cI c])]⟩) (by kernel_rfl) ?_
 refine zP hG [] [1, 1, 0] ((c + 1 : Int) = k) (⟨[zX 6 2 0, zX 7 3 0, zX 8 4 0, zI 10 a, zI 11 b], [(0, .box ⟨.raw (.loop { (aZ (aN Tryz.f199) [0, 1, 0, 1, 1] fn tm D) with state := .busy }), some l⟩ []), (1, .box ⟨.c 3, some b5⟩ [cI k]), (2, .box ⟨.c 3, some b6⟩ [cI 0]), (3, .box ⟨.c 3, some b7⟩ [cI 0]), (4, .box ⟨.c 4, some b8⟩ [cB false]), (5, .box ⟨.c 3, some b9⟩ [cI (c + 1)])]⟩) (aD (by intros; first | decide | omega | (simp only [inR] at *; omega) : inR (c + 1))) (fun hc1 => ?_) (fun hc1 => ?_)
 skip
 exact absurd hc1 hne
 skip
 refine aFJ hG fB [] [] 0 .normal [(0, .box ⟨.raw (u7 { (aZ (aN Tryz.f199) [0, 1, 0, 1, 1] fn tm D) with state := .busy } .normal), some l⟩ []), (1, .box ⟨.c 3, some b5⟩ [cI k]), (2, .box ⟨.c 3, some b6⟩ [cI 0]), (3, .box ⟨.c 3, some b7⟩ [cI 0]), (4, .box ⟨.c 4, some b8⟩ [cB false]), (5, .box ⟨.c 3, some b9⟩ [cI (c + 1)])] (by kernel_rfl) aA ?_ ?_
 rfl
 rfl
theorem findRet (b5 b6 b7 b8 b9 D l : Nat) (fn : FuncId) (tm : Array Value) (h5 : tm.getD 5 undef = .pointer (some ⟨b5, 0, none⟩)) (h6 : tm.getD 6 undef = .pointer (some ⟨b6, 0, none⟩)) (h7 : tm.getD 7 undef = .pointer (some ⟨b7, 0, none⟩)) (h8 : tm.getD 8 undef = .pointer (some ⟨b8, 0, none⟩)) (h9 : tm.getD 9 undef = .pointer (some ⟨b9, 0, none⟩)) (hn : tm.size = 24) (k c a b : Int) (hc : -1000000 ≤ c ∧ c ≤ 1000000) (hne : c + 1 = k) :
  iS Tryz.prog (Gl g) l [.c (cI a), .c (cI b)] [(0, zK Tryz.f199 [0, 1, 0, 1, 1] fn tm D l), (1, .box ⟨.c 3, some b5⟩ [cI k]), (2, .box ⟨.c 3, some b6⟩ [cI 0]), (3, .box ⟨.c 3, some b7⟩ [cI 0]), (4, .box ⟨.c 4, some b8⟩ [cB false]), (5, .box ⟨.c 3, some b9⟩ [cI c])] (.c (cB false)) [(0, .box ⟨.raw (.loop { (aZ (aN Tryz.f199) [0, 1, 0, 1, 1] fn tm D) with state := .done, pending := some .ret }), some l⟩ []), (1, .box ⟨.c 3, some b5⟩ [cI k]), (2, .box ⟨.c 3, some b6⟩ [cI a]), (3, .box ⟨.c 3, some b7⟩ [cI b]), (4, .box ⟨.c 4, some b8⟩ [cB true]), (5, .box ⟨.c 3, some b9⟩ [cI (c + 1)])] := by
 refine aCB (iL := 0) (p := 15) (p2 := 16) (env0 := [zX 5 1 0, zX 6 2 0, zX 7 3 0, zX 8 4 0, zX 9 5 0]) (n := 24) (r := (aZ (aN Tryz.f199) [0, 1, 0, 1, 1] fn tm D)) rfl (by kernel_rfl) hn (by decide) (by decide) (by decide) ⟨rfl, ⟨_, _, _, rfl, rfl, h5⟩, ⟨rfl, ⟨_, _, _, rfl, rfl, h6⟩, ⟨rfl, ⟨_, _, _, rfl, rfl, h7⟩, ⟨rfl, ⟨_, _, _, rfl, rfl, h8⟩, ⟨rfl, ⟨_, _, _, rfl, rfl, h9⟩, trivial⟩⟩⟩⟩⟩ fun fr hG => ?_
 refine aFM hG fB [] (⟨[zX 5 1 0, zX 6 2 0, zX 7 3 0, zX 8 4 0, zX 9 5 0, zI 10 a, zI 11 b], [(0, zK Tryz.f199 [0, 1, 0, 1, 1] fn tm D l), (1, .box ⟨.c 3, some b5⟩ [cI k]), (2, .box ⟨.c 3, some b6⟩ [cI 0]), (3, .box ⟨.c 3, some b7⟩ [cI 0]), (4, .box ⟨.c 4, some b8⟩ [cB false]), (5, .box ⟨.c 3, some b9⟩ [cI c])]⟩) 0 (r := (aZ (aN Tryz.f199) [0, 1, 0, 1, 1] fn tm D)) (by kernel_rfl) aA rfl rfl ?_
 refine vV hG (⟨[zX 5 1 0, zX 6 2 0, zX 7 3 0, zX 8 4 0, zX 9 5 0, zI 10 a, zI 11 b], [(0, .box ⟨.raw (.loop { (aZ (aN Tryz.f199) [0, 1, 0, 1, 1] fn tm D) with state := .busy }), some l⟩ []), (1, .box ⟨.c 3, some b5⟩ [cI k]), (2, .box ⟨.c 3, some b6⟩ [cI 0]), (3, .box ⟨.c 3, some b7⟩ [cI 0]), (4, .box ⟨.c 4, some b8⟩ [cB false]), (5, .box ⟨.c 3, some b9⟩ [cI c])]⟩) (by kernel_rfl) ?_
 refine zP hG [] [1, 1, 0] ((c + 1 : Int) = k) (⟨[zX 6 2 0, zX 7 3 0, zX 8 4 0, zI 10 a, zI 11 b], [(0, .box ⟨.raw (.loop { (aZ (aN Tryz.f199) [0, 1, 0, 1, 1] fn tm D) with state := .busy }), some l⟩ []), (1, .box ⟨.c 3, some b5⟩ [cI k]), (2, .box ⟨.c 3, some b6⟩ [cI 0]), (3, .box ⟨.c 3, some b7⟩ [cI 0]), (4, .box ⟨.c 4, some b8⟩ [cB false]), (5, .box ⟨.c 3, some b9⟩ [cI (c + 1)])]⟩) (aD (by intros; first | decide | omega | (simp only [inR] at *; omega) : inR (c + 1))) (fun hc1 => ?_) (fun hc1 => ?_)
 skip
 refine aFJ hG fB [] [] 0 .ret [(0, .box ⟨.raw (u7 { (aZ (aN Tryz.f199) [0, 1, 0, 1, 1] fn tm D) with state := .busy } .ret), some l⟩ []), (4, .box ⟨.c 4, some b8⟩ [cB true]), (3, .box ⟨.c 3, some b7⟩ [cI b]), (2, .box ⟨.c 3, some b6⟩ [cI a]), (1, .box ⟨.c 3, some b5⟩ [cI k]), (5, .box ⟨.c 3, some b9⟩ [cI (c + 1)])] (by kernel_rfl) aA ?_ ?_
 rfl
 funext i; simp only [a8, upd]; (repeat' split) <;> first | rfl | (exfalso; omega)
 skip
 exact absurd hne hc1
theorem aEI (b0 b1 : Nat) (b5 b6 b7 b8 b9 D l : Nat) (fn : FuncId) (tm : Array Value) (h5 : tm.getD 5 undef = .pointer (some ⟨b5, 0, none⟩)) (h6 : tm.getD 6 undef = .pointer (some ⟨b6, 0, none⟩)) (h7 : tm.getD 7 undef = .pointer (some ⟨b7, 0, none⟩)) (h8 : tm.getD 8 undef = .pointer (some ⟨b8, 0, none⟩)) (h9 : tm.getD 9 undef = .pointer (some ⟨b9, 0, none⟩)) (hn : tm.size = 24) (ps : List Pc) (t : List UInt8) (k : Int) (ht2 : t.length ≤ 200) (hA : t.all aR = true) (hr : SpG g 269 [.c (cM 4 (bJ ps))] [] (.c (cB true)) []) (hps : ∀ p, p ∈ ps → p.text.length ≤ 1000) (hF : sN ps t k = none) :
  SpG g 333 [.c (.d (.v (.func (.yield l) #[] #[]))), .c (.bx 0 0), .c (.bx 1 0)] [(0, .box ⟨.c 109, some b0⟩ [cM 4 (bJ ps)]), (1, .box ⟨.c 9, some b1⟩ [cS (S t)]), (2, zK Tryz.f199 [0, 1, 0, 1, 1] fn tm D l), (3, .box ⟨.c 3, some b5⟩ [cI k]), (4, .box ⟨.c 3, some b6⟩ [cI 0]), (5, .box ⟨.c 3, some b7⟩ [cI 0]), (6, .box ⟨.c 4, some b8⟩ [cB false]), (7, .box ⟨.c 3, some b9⟩ [cI 0])] (.tup []) [(0, .box ⟨.c 109, some b0⟩ [cM 4 (bJ ps)]), (1, .box ⟨.c 9, some b1⟩ [cS (S t)]), (2, zK Tryz.f199 [0, 1, 0, 1, 1] fn tm D l), (3, .box ⟨.c 3, some b5⟩ [cI k]), (4, .box ⟨.c 3, some b6⟩ [cI 0]), (5, .box ⟨.c 3, some b7⟩ [cI 0]), (6, .box ⟨.c 4, some b8⟩ [cB false]), (7, .box ⟨.c 3, some b9⟩ [cI (l7 (aG t ps) t.length (t.length + 1) 0 0)])] := by
 have hsz := aJ t
 have hrl := eE t ps
 have hlk : (intsD (aG t ps)).length = t.length + 1 := by rw [intsD, List.length_map, hrl]
 refine aL 41 Tryz.func333 (by kernel_rfl) fun fr hG => ?_
 refine zc hG [(0, 1, kB true), (0, 5, kB true)] [1, 0] (false) (aB (hr : SpG g _ _ _ _ _) (aD (fun (hg1 : false = false) => (kO t ht2 hA : SpG g _ _ _ _ _)))) (fun hc1 => absurd hc1 (by decide)) (fun _ => ?_)
 refine zL hG [(1, 2, kC (.c (cM 1 (intsD (aG t ps)))))] [0, 1, 1, 1] (fun (zz : Int × Nat × Int) => match zz with | (p, f, c) => (t.length - (p : Int).toNat, ⟨[(0, [], .c (.d (.v (.func (.yield l) #[] #[])))), zX 2 1 0, zM 4 1 (intsD (aG t ps)), zI 5 p], [(0, .box ⟨.c 109, some b0⟩ [cM 4 (bJ ps)]), (1, .box ⟨.c 9, some b1⟩ [cS (S t)]), (2, zK Tryz.f199 [0, 1, 0, 1, 1] fn tm D l), (3, .box ⟨.c 3, some b5⟩ [cI k]), (4, .box ⟨.c 3, some b6⟩ [cI 0]), (5, .box ⟨.c 3, some b7⟩ [cI 0]), (6, .box ⟨.c 4, some b8⟩ [cB false]), (7, .box ⟨.c 3, some b9⟩ [cI c])]⟩, (t.length < (p : Int).toNat + f ∧ 0 ≤ p) ∧ p ≤ t.length ∧ 0 ≤ c ∧ c ≤ p ∧ gK (aG t ps) t.length f (p : Int).toNat (k - c) = none ∧ l7 (aG t ps) t.length f (p : Int).toNat c = l7 (aG t ps) t.length (t.length + 1) 0 0)) (0, t.length + 1, 0) (aD (pD ps t (by omega) hps : SpG g _ _ _ _ _)) ?_ ?_
 ·exact ⟨⟨by simp, Int.le_refl _⟩, by omega, Int.le_refl _, Int.le_refl _, by rw [Int.sub_zero]; exact hF, rfl⟩
 rintro ⟨p, f, c⟩ ⟨⟨hf, hp0⟩, hp, hc0, hcp, hI, hN⟩
 refine zp hG [] [1, 0] ((p : Int) < ((S t).size : Int)) aA (fun hc3 => ?_) (fun hc3 => ?_)
 ·skip
  refine zp hG [(4, 2, .elem (intD (((aG t ps)).getD (p : Int).toNat 0)))] [1, 0, 0, 1] ((((aG t ps)).getD (p : Int).toNat 0 : Int) ≤ p) (aD (by intros; exact aT _ (by omega) (by omega) : (0 : Int) ≤ p ∧ (intsD (aG t ps))[(p : Int).toNat]? = some (intD (((aG t ps)).getD (p : Int).toNat 0)))) (fun hc4 => ?_) (fun hc4 => ?_)
  ·skip
   refine zD hG [] (p + 1, f - 1, c) (aD (by intros; (try simp only [zq20, eE] at *); first | decide | omega : inR (p + 1))) ?_ ?_
   ·(try dsimp only); omega
   ·have hs := qG (k := k - c) (by omega) hf (by omega : (aG t ps).getD (p : Int).toNat 0 ≤ (((p : Int).toNat : Nat) : Int))
    rw [hI] at hs
    have e1 : (p + 1 : Int).toNat = (p : Int).toNat + 1 := by omega
    exact ⟨by omega, by omega, by omega, by omega, by rw [e1]; exact hs.symm, by rw [e1]; exact (aEZ (by omega) hf (by omega : (aG t ps).getD (p : Int).toNat 0 ≤ (((p : Int).toNat : Nat) : Int))).symm.trans hN⟩
  ·skip
   have hh := sO (k := k - c) (by omega) hf (by omega : ¬ (aG t ps).getD (p : Int).toNat 0 ≤ (((p : Int).toNat : Nat) : Int))
   have hbd := wH t ps (p : Int).toNat (by omega)
   have hk1 : ¬ k - c = 1 := by
    intro e
    rw [if_pos e, hI] at hh; cases hh
   rw [if_neg hk1, hI] at hh
   refine zC hG [(6, 4, .elem (intD ((aG t ps).getD (p : Int).toNat 0))), (6, 6, .callG (.c (cB true)) [2, 3, 4, 5, 6, 7] [(0, zK Tryz.f199 [0, 1, 0, 1, 1] fn tm D l), (1, .box ⟨.c 3, some b5⟩ [cI k]), (2, .box ⟨.c 3, some b6⟩ [cI 0]), (3, .box ⟨.c 3, some b7⟩ [cI 0]), (4, .box ⟨.c 4, some b8⟩ [cB false]), (5, .box ⟨.c 3, some b9⟩ [cI (c + 1)])])] [1, 0, 1, 0, 1] (false) (⟨[(0, [], .c (.d (.v (.func (.yield l) #[] #[])))), zX 2 1 0, zM 4 1 (intsD (aG t ps)), zI 5 p], [(0, .box ⟨.c 109, some b0⟩ [cM 4 (bJ ps)]), (1, .box ⟨.c 9, some b1⟩ [cS (S t)]), (2, zK Tryz.f199 [0, 1, 0, 1, 1] fn tm D l), (3, .box ⟨.c 3, some b5⟩ [cI k]), (4, .box ⟨.c 3, some b6⟩ [cI 0]), (5, .box ⟨.c 3, some b7⟩ [cI 0]), (6, .box ⟨.c 4, some b8⟩ [cB false]), (7, .box ⟨.c 3, some b9⟩ [cI (c + 1)])]⟩) (aB (by intros; exact aT _ (by omega) (by omega) : (0 : Int) ≤ p ∧ (intsD (aG t ps))[(p : Int).toNat]? = some (intD ((aG t ps).getD (p : Int).toNat 0))) (aD (aH3 b5 b6 b7 b8 b9 D l fn tm h5 h6 h7 h8 h9 hn k c p ((aG t ps).getD (p : Int).toNat 0) (by omega) (by omega) : iS Tryz.prog (Gl g) _ _ _ _ _))) (fun hc5 => absurd hc5 (by decide)) (fun _ => ?_)
   refine zD hG [(7, 2, .elem (intD (((aG t ps)).getD (p : Int).toNat 0)))] ((aG t ps).getD (p : Int).toNat 0, f - 1, c + 1) (aD (by intros; exact aT _ (by omega) (by omega) : (0 : Int) ≤ p ∧ (intsD (aG t ps))[(p : Int).toNat]? = some (intD (((aG t ps)).getD (p : Int).toNat 0)))) ?_ ?_
   ·(try dsimp only); omega
   ·exact ⟨by omega, by omega, by omega, by omega, by rw [show k - (c + 1) = k - c - 1 by omega]; exact hh.symm, (aIQ (by omega) hf (by omega : ¬ (aG t ps).getD (p : Int).toNat 0 ≤ (((p : Int).toNat : Nat) : Int))).symm.trans hN⟩
 ·skip
  refine zE hG [] (.exit 0) (⟨[], [(0, .box ⟨.c 109, some b0⟩ [cM 4 (bJ ps)]), (1, .box ⟨.c 9, some b1⟩ [cS (S t)]), (2, zK Tryz.f199 [0, 1, 0, 1, 1] fn tm D l), (3, .box ⟨.c 3, some b5⟩ [cI k]), (4, .box ⟨.c 3, some b6⟩ [cI 0]), (5, .box ⟨.c 3, some b7⟩ [cI 0]), (6, .box ⟨.c 4, some b8⟩ [cB false]), (7, .box ⟨.c 3, some b9⟩ [cI c])]⟩) aA rfl ?_
  refine zR hG [] [] (.tup []) [(0, .box ⟨.c 109, some b0⟩ [cM 4 (bJ ps)]), (1, .box ⟨.c 9, some b1⟩ [cS (S t)]), (2, zK Tryz.f199 [0, 1, 0, 1, 1] fn tm D l), (3, .box ⟨.c 3, some b5⟩ [cI k]), (4, .box ⟨.c 3, some b6⟩ [cI 0]), (5, .box ⟨.c 3, some b7⟩ [cI 0]), (6, .box ⟨.c 4, some b8⟩ [cB false]), (7, .box ⟨.c 3, some b9⟩ [cI c])] aA ?_ ?_
  ·rfl
  ·rw [← hN, aIR (by omega)]
   all_goals (rfl)
theorem aEH (b0 b1 : Nat) (b5 b6 b7 b8 b9 D l : Nat) (fn : FuncId) (tm : Array Value) (h5 : tm.getD 5 undef = .pointer (some ⟨b5, 0, none⟩)) (h6 : tm.getD 6 undef = .pointer (some ⟨b6, 0, none⟩)) (h7 : tm.getD 7 undef = .pointer (some ⟨b7, 0, none⟩)) (h8 : tm.getD 8 undef = .pointer (some ⟨b8, 0, none⟩)) (h9 : tm.getD 9 undef = .pointer (some ⟨b9, 0, none⟩)) (hn : tm.size = 24) (ps : List Pc) (t : List UInt8) (k : Int) (ht2 : t.length ≤ 200) (hA : t.all aR = true) (hr : SpG g 269 [.c (cM 4 (bJ ps))] [] (.c (cB true)) []) (hps : ∀ p, p ∈ ps → p.text.length ≤ 1000) (a b : Nat) (hF : sN ps t k = some (a, b)) :
  SpG g 333 [.c (.d (.v (.func (.yield l) #[] #[]))), .c (.bx 0 0), .c (.bx 1 0)] [(0, .box ⟨.c 109, some b0⟩ [cM 4 (bJ ps)]), (1, .box ⟨.c 9, some b1⟩ [cS (S t)]), (2, zK Tryz.f199 [0, 1, 0, 1, 1] fn tm D l), (3, .box ⟨.c 3, some b5⟩ [cI k]), (4, .box ⟨.c 3, some b6⟩ [cI 0]), (5, .box ⟨.c 3, some b7⟩ [cI 0]), (6, .box ⟨.c 4, some b8⟩ [cB false]), (7, .box ⟨.c 3, some b9⟩ [cI 0])] (.tup []) [(0, .box ⟨.c 109, some b0⟩ [cM 4 (bJ ps)]), (1, .box ⟨.c 9, some b1⟩ [cS (S t)]), (2, .box ⟨.raw (.loop { (aZ (aN Tryz.f199) [0, 1, 0, 1, 1] fn tm D) with state := .done, pending := some .ret }), some l⟩ []), (3, .box ⟨.c 3, some b5⟩ [cI k]), (4, .box ⟨.c 3, some b6⟩ [cI (a : Int)]), (5, .box ⟨.c 3, some b7⟩ [cI (b : Int)]), (6, .box ⟨.c 4, some b8⟩ [cB true]), (7, .box ⟨.c 3, some b9⟩ [cI k])] := by
 have hsz := aJ t
 have hrl := eE t ps
 have hlk : (intsD (aG t ps)).length = t.length + 1 := by rw [intsD, List.length_map, hrl]
 refine aL 41 Tryz.func333 (by kernel_rfl) fun fr hG => ?_
 refine zc hG [(0, 1, kB true), (0, 5, kB true)] [1, 0] (false) (aB (hr : SpG g _ _ _ _ _) (aD (fun (hg1 : false = false) => (kO t ht2 hA : SpG g _ _ _ _ _)))) (fun hc1 => absurd hc1 (by decide)) (fun _ => ?_)
 refine zL hG [(1, 2, kC (.c (cM 1 (intsD (aG t ps)))))] [0, 1, 1, 1] (fun (zz : Int × Nat × Int) => match zz with | (p, f, c) => (t.length - (p : Int).toNat, ⟨[(0, [], .c (.d (.v (.func (.yield l) #[] #[])))), zX 2 1 0, zM 4 1 (intsD (aG t ps)), zI 5 p], [(0, .box ⟨.c 109, some b0⟩ [cM 4 (bJ ps)]), (1, .box ⟨.c 9, some b1⟩ [cS (S t)]), (2, zK Tryz.f199 [0, 1, 0, 1, 1] fn tm D l), (3, .box ⟨.c 3, some b5⟩ [cI k]), (4, .box ⟨.c 3, some b6⟩ [cI 0]), (5, .box ⟨.c 3, some b7⟩ [cI 0]), (6, .box ⟨.c 4, some b8⟩ [cB false]), (7, .box ⟨.c 3, some b9⟩ [cI c])]⟩, (t.length < (p : Int).toNat + f ∧ 0 ≤ p) ∧ p ≤ t.length ∧ 0 ≤ c ∧ c ≤ p ∧ gK (aG t ps) t.length f (p : Int).toNat (k - c) = some (a, b))) (0, t.length + 1, 0) (aD (pD ps t (by omega) hps : SpG g _ _ _ _ _)) ?_ ?_
 ·exact ⟨⟨by simp, Int.le_refl _⟩, by omega, Int.le_refl _, Int.le_refl _, by rw [Int.sub_zero]; exact hF⟩
 rintro ⟨p, f, c⟩ ⟨⟨hf, hp0⟩, hp, hc0, hcp, hI⟩
 refine zp hG [] [1, 0] ((p : Int) < ((S t).size : Int)) aA (fun hc3 => ?_) (fun hc3 => ?_)
 ·skip
  refine zp hG [(4, 2, .elem (intD (((aG t ps)).getD (p : Int).toNat 0)))] [1, 0, 0, 1] ((((aG t ps)).getD (p : Int).toNat 0 : Int) ≤ p) (aD (by intros; exact aT _ (by omega) (by omega) : (0 : Int) ≤ p ∧ (intsD (aG t ps))[(p : Int).toNat]? = some (intD (((aG t ps)).getD (p : Int).toNat 0)))) (fun hc4 => ?_) (fun hc4 => ?_)
  ·skip
   refine zD hG [] (p + 1, f - 1, c) (aD (by intros; (try simp only [zq20, eE] at *); first | decide | omega : inR (p + 1))) ?_ ?_
   ·(try dsimp only); omega
   ·have hs := qG (k := k - c) (by omega) hf (by omega : (aG t ps).getD (p : Int).toNat 0 ≤ (((p : Int).toNat : Nat) : Int))
    rw [hI] at hs
    have e1 : (p + 1 : Int).toNat = (p : Int).toNat + 1 := by omega
    exact ⟨by omega, by omega, by omega, by omega, by rw [e1]; exact hs.symm⟩
  ·skip
   have hh := sO (k := k - c) (by omega) hf (by omega : ¬ (aG t ps).getD (p : Int).toNat 0 ≤ (((p : Int).toNat : Nat) : Int))
   have hbd := wH t ps (p : Int).toNat (by omega)
   rcases (by omega : k - c = 1 ∨ ¬ k - c = 1) with hk1 | hk1
   ·skip
    refine zC hG [(6, 4, .elem (intD ((aG t ps).getD (p : Int).toNat 0))), (6, 6, .callG (.c (cB false)) [2, 3, 4, 5, 6, 7] [(0, .box ⟨.raw (.loop { (aZ (aN Tryz.f199) [0, 1, 0, 1, 1] fn tm D) with state := .done, pending := some .ret }), some l⟩ []), (1, .box ⟨.c 3, some b5⟩ [cI k]), (2, .box ⟨.c 3, some b6⟩ [cI p]), (3, .box ⟨.c 3, some b7⟩ [cI ((aG t ps).getD (p : Int).toNat 0)]), (4, .box ⟨.c 4, some b8⟩ [cB true]), (5, .box ⟨.c 3, some b9⟩ [cI (c + 1)])])] [1, 0, 1, 0, 1] (true) (⟨[(0, [], .c (.d (.v (.func (.yield l) #[] #[])))), zX 2 1 0, zM 4 1 (intsD (aG t ps)), zI 5 p], [(0, .box ⟨.c 109, some b0⟩ [cM 4 (bJ ps)]), (1, .box ⟨.c 9, some b1⟩ [cS (S t)]), (2, .box ⟨.raw (.loop { (aZ (aN Tryz.f199) [0, 1, 0, 1, 1] fn tm D) with state := .done, pending := some .ret }), some l⟩ []), (3, .box ⟨.c 3, some b5⟩ [cI k]), (4, .box ⟨.c 3, some b6⟩ [cI p]), (5, .box ⟨.c 3, some b7⟩ [cI ((aG t ps).getD (p : Int).toNat 0)]), (6, .box ⟨.c 4, some b8⟩ [cB true]), (7, .box ⟨.c 3, some b9⟩ [cI (c + 1)])]⟩) (aB (by intros; exact aT _ (by omega) (by omega) : (0 : Int) ≤ p ∧ (intsD (aG t ps))[(p : Int).toNat]? = some (intD ((aG t ps).getD (p : Int).toNat 0))) (aD (findRet b5 b6 b7 b8 b9 D l fn tm h5 h6 h7 h8 h9 hn k c p ((aG t ps).getD (p : Int).toNat 0) (by omega) (by omega) : iS Tryz.prog (Gl g) _ _ _ _ _))) (fun _ => ?_) (fun hc5 => absurd hc5 (by decide))
    refine zE hG [] .ret (⟨[], [(0, .box ⟨.c 109, some b0⟩ [cM 4 (bJ ps)]), (1, .box ⟨.c 9, some b1⟩ [cS (S t)]), (2, .box ⟨.raw (.loop { (aZ (aN Tryz.f199) [0, 1, 0, 1, 1] fn tm D) with state := .done, pending := some .ret }), some l⟩ []), (3, .box ⟨.c 3, some b5⟩ [cI k]), (4, .box ⟨.c 3, some b6⟩ [cI p]), (5, .box ⟨.c 3, some b7⟩ [cI ((aG t ps).getD (p : Int).toNat 0)]), (6, .box ⟨.c 4, some b8⟩ [cB true]), (7, .box ⟨.c 3, some b9⟩ [cI (c + 1)])]⟩) aA rfl ?_
    refine zR hG [] [] (.tup []) [(0, .box ⟨.c 109, some b0⟩ [cM 4 (bJ ps)]), (1, .box ⟨.c 9, some b1⟩ [cS (S t)]), (2, .box ⟨.raw (.loop { (aZ (aN Tryz.f199) [0, 1, 0, 1, 1] fn tm D) with state := .done, pending := some .ret }), some l⟩ []), (3, .box ⟨.c 3, some b5⟩ [cI k]), (4, .box ⟨.c 3, some b6⟩ [cI p]), (5, .box ⟨.c 3, some b7⟩ [cI ((aG t ps).getD (p : Int).toNat 0)]), (6, .box ⟨.c 4, some b8⟩ [cB true]), (7, .box ⟨.c 3, some b9⟩ [cI (c + 1)])] aA ?_ ?_
    ·rfl
    ·rw [if_pos hk1, hI] at hh
     simp only [Option.some.injEq, Prod.mk.injEq] at hh
     obtain ⟨rfl, rfl⟩ := hh
     rw [show c + 1 = k by omega, show (((p : Int).toNat : Nat) : Int) = p by omega, show ((((aG t ps).getD (p : Int).toNat 0).toNat : Nat) : Int) = (aG t ps).getD (p : Int).toNat 0 by omega]
     all_goals (rfl)
   ·skip
    refine zC hG [(6, 4, .elem (intD ((aG t ps).getD (p : Int).toNat 0))), (6, 6, .callG (.c (cB true)) [2, 3, 4, 5, 6, 7] [(0, zK Tryz.f199 [0, 1, 0, 1, 1] fn tm D l), (1, .box ⟨.c 3, some b5⟩ [cI k]), (2, .box ⟨.c 3, some b6⟩ [cI 0]), (3, .box ⟨.c 3, some b7⟩ [cI 0]), (4, .box ⟨.c 4, some b8⟩ [cB false]), (5, .box ⟨.c 3, some b9⟩ [cI (c + 1)])])] [1, 0, 1, 0, 1] (false) (⟨[(0, [], .c (.d (.v (.func (.yield l) #[] #[])))), zX 2 1 0, zM 4 1 (intsD (aG t ps)), zI 5 p], [(0, .box ⟨.c 109, some b0⟩ [cM 4 (bJ ps)]), (1, .box ⟨.c 9, some b1⟩ [cS (S t)]), (2, zK Tryz.f199 [0, 1, 0, 1, 1] fn tm D l), (3, .box ⟨.c 3, some b5⟩ [cI k]), (4, .box ⟨.c 3, some b6⟩ [cI 0]), (5, .box ⟨.c 3, some b7⟩ [cI 0]), (6, .box ⟨.c 4, some b8⟩ [cB false]), (7, .box ⟨.c 3, some b9⟩ [cI (c + 1)])]⟩) (aB (by intros; exact aT _ (by omega) (by omega) : (0 : Int) ≤ p ∧ (intsD (aG t ps))[(p : Int).toNat]? = some (intD ((aG t ps).getD (p : Int).toNat 0))) (aD (aH3 b5 b6 b7 b8 b9 D l fn tm h5 h6 h7 h8 h9 hn k c p ((aG t ps).getD (p : Int).toNat 0) (by omega) (by omega) : iS Tryz.prog (Gl g) _ _ _ _ _))) (fun hc6 => absurd hc6 (by decide)) (fun _ => ?_)
    refine zD hG [(7, 2, .elem (intD (((aG t ps)).getD (p : Int).toNat 0)))] ((aG t ps).getD (p : Int).toNat 0, f - 1, c + 1) (aD (by intros; exact aT _ (by omega) (by omega) : (0 : Int) ≤ p ∧ (intsD (aG t ps))[(p : Int).toNat]? = some (intD (((aG t ps)).getD (p : Int).toNat 0)))) ?_ ?_
    ·(try dsimp only); omega
    ·rw [if_neg hk1, hI] at hh
     exact ⟨by omega, by omega, by omega, by omega, by rw [show k - (c + 1) = k - c - 1 by omega]; exact hh.symm⟩
 ·skip
  refine zE hG [] (.exit 0) (⟨[], [(0, .box ⟨.c 109, some b0⟩ [cM 4 (bJ ps)]), (1, .box ⟨.c 9, some b1⟩ [cS (S t)]), (2, zK Tryz.f199 [0, 1, 0, 1, 1] fn tm D l), (3, .box ⟨.c 3, some b5⟩ [cI k]), (4, .box ⟨.c 3, some b6⟩ [cI 0]), (5, .box ⟨.c 3, some b7⟩ [cI 0]), (6, .box ⟨.c 4, some b8⟩ [cB false]), (7, .box ⟨.c 3, some b9⟩ [cI c])]⟩) aA rfl ?_
  refine zR hG [] [] (.tup []) [(0, .box ⟨.c 109, some b0⟩ [cM 4 (bJ ps)]), (1, .box ⟨.c 9, some b1⟩ [cS (S t)]), (2, zK Tryz.f199 [0, 1, 0, 1, 1] fn tm D l), (3, .box ⟨.c 3, some b5⟩ [cI k]), (4, .box ⟨.c 3, some b6⟩ [cI 0]), (5, .box ⟨.c 3, some b7⟩ [cI 0]), (6, .box ⟨.c 4, some b8⟩ [cB false]), (7, .box ⟨.c 3, some b9⟩ [cI c])] aA ?_ ?_
  ·rfl
  ·exfalso
   rw [aEK (by omega)] at hI
   cases hI
   all_goals (rfl)
theorem aH1 (ps : List Pc) (t : List UInt8) :
  SpG g 267 [.c (cM 4 (bJ ps)), .c (cS (S t))] [] (.c (.fn 333 [] [(100, 0), (101, 0)])) [(101, .box 9 [cS (S t)]), (100, .box 109 [cM 4 (bJ ps)])] := by
 refine aL 6 Tryz.func267 (by kernel_rfl) fun fr hG => ?_
 exact zr hG [] [100, 101] aA
abbrev y11 (a0 : Int) (a1 : Int) : SV := .tup [(false, [cI a0]), (false, [cI a1]), (false, [cB true])]
def fndO (o : Option (Nat × Nat)) : SV := match o with
 | none => .tup [(false, [cI 0]), (false, [cI 0]), (false, [cB false])]
 | some (a, b) => y11 (a : Int) (b : Int)
abbrev y12 : SV := .tup [(false, [cI 0]), (false, [cI 0]), (false, [cB false])]
theorem find_ok (ps : List Pc) (t : List UInt8) (k : Int) (ht2 : t.length ≤ 200) (hA : t.all aR = true) (hr : SpG g 269 [.c (cM 4 (bJ ps))] [] (.c (cB true)) []) (hps : ∀ p, p ∈ ps → p.text.length ≤ 1000) :
  SpG g 199 [.c (cM 4 (bJ ps)), .c (cS (S t)), .c (cI k)] [] (fndO (sN ps t k)) [] := by
 refine aID 24 Tryz.func199 (by kernel_rfl) fun fr hG => ?_
 refine rI hG fB [(2, 2, .call (.c (.fn 333 [] [(100, 0), (101, 0)])) [(101, .box 9 [cS (S t)]), (100, .box 109 [cM 4 (bJ ps)])] [])] [0, 1, 0, 1, 1] (⟨[zX 5 100 0, zX 6 101 0, zX 7 102 0, zX 8 103 0, zX 9 200 0, (14, [], .c (.fn 333 [] [(302, 0), (303, 0)]))], [(100, .box 3 [cI k]), (101, .box 3 [cI 0]), (102, .box 3 [cI 0]), (103, .box 4 [cB false]), (200, .box 3 [cI 0]), (302, .box 109 [cM 4 (bJ ps)]), (303, .box 9 [cS (S t)])]⟩) _ (by kernel_rfl) (aD (aH1 ps t : SpG g _ _ _ _ _)) ?_
 refine rangeR (g := 14) (ps := rgP (aN Tryz.f199) [0, 1, 0, 1, 1]) (assign := rgA (aN Tryz.f199) [0, 1, 0, 1, 1]) (body := rgB (aN Tryz.f199) [0, 1, 0, 1, 1]) hG (by kernel_rfl) 9900 9901 9910 (by kernel_rfl) rfl (by kernel_rfl) fun b D l fn tm hT hn => ?_
 rcases hF : sN ps t k with _ | ⟨fa, fb⟩
 skip
 refine ⟨.tup [], [302, 303, 9901, 100, 101, 102, 103, 200], [(0, .box ⟨.c 109, some (b 302)⟩ [cM 4 (bJ ps)]), (1, .box ⟨.c 9, some (b 303)⟩ [cS (S t)]), (2, zK Tryz.f199 [0, 1, 0, 1, 1] fn tm D l), (3, .box ⟨.c 3, some (b 100)⟩ [cI k]), (4, .box ⟨.c 3, some (b 101)⟩ [cI 0]), (5, .box ⟨.c 3, some (b 102)⟩ [cI 0]), (6, .box ⟨.c 4, some (b 103)⟩ [cB false]), (7, .box ⟨.c 3, some (b 200)⟩ [cI (l7 (aG t ps) t.length (t.length + 1) 0 0)])], none, ⟨[zX 6 101 0, zX 7 102 0, zX 8 103 0], [(101, .box ⟨.c 3, some (b 101)⟩ [cI 0]), (102, .box ⟨.c 3, some (b 102)⟩ [cI 0]), (103, .box ⟨.c 4, some (b 103)⟩ [cB false]), (9900, .box ⟨.raw (.deferred (some [])), some D⟩ [])]⟩, _, .normal, by kernel_rfl, aD (aEI (b 302) (b 303) (b 100) (b 101) (b 102) (b 103) (b 200) D l fn tm (hT.bx 5 100 0 rfl) (hT.bx 6 101 0 rfl) (hT.bx 7 102 0 rfl) (hT.bx 8 103 0 rfl) (hT.bx 9 200 0 rfl) hn ps t k ht2 hA hr hps hF : SpG g _ _ _ _ _), rfl, ?_⟩
 have hG0 := hG
 replace hG := r7 (D := D) hG
 refine aFK hG0 fB [] [] 9900 (y12) [] (by kernel_rfl) aA ?_ ?_
 (try rw [hF]); rfl
 rfl
 skip
 refine ⟨.tup [], [302, 303, 9901, 100, 101, 102, 103, 200], [(0, .box ⟨.c 109, some (b 302)⟩ [cM 4 (bJ ps)]), (1, .box ⟨.c 9, some (b 303)⟩ [cS (S t)]), (2, .box ⟨.raw (.loop { (aZ (aN Tryz.f199) [0, 1, 0, 1, 1] fn tm D) with state := .done, pending := some .ret }), some l⟩ []), (3, .box ⟨.c 3, some (b 100)⟩ [cI k]), (4, .box ⟨.c 3, some (b 101)⟩ [cI (fa : Int)]), (5, .box ⟨.c 3, some (b 102)⟩ [cI (fb : Int)]), (6, .box ⟨.c 4, some (b 103)⟩ [cB true]), (7, .box ⟨.c 3, some (b 200)⟩ [cI k])], (some .ret), ⟨[zX 6 101 0, zX 7 102 0, zX 8 103 0], [(101, .box ⟨.c 3, some (b 101)⟩ [cI (fa : Int)]), (102, .box ⟨.c 3, some (b 102)⟩ [cI (fb : Int)]), (103, .box ⟨.c 4, some (b 103)⟩ [cB true]), (9900, .box ⟨.raw (.deferred (some [])), some D⟩ [])]⟩, _, .ret, by kernel_rfl, aD (aEH (b 302) (b 303) (b 100) (b 101) (b 102) (b 103) (b 200) D l fn tm (hT.bx 5 100 0 rfl) (hT.bx 6 101 0 rfl) (hT.bx 7 102 0 rfl) (hT.bx 8 103 0 rfl) (hT.bx 9 200 0 rfl) hn ps t k ht2 hA hr hps fa fb hF : SpG g _ _ _ _ _), rfl, ?_⟩
 have hG0 := hG
 replace hG := r7 (D := D) hG
 refine aFK hG0 fB [] [] 9900 (y11 (fa : Int) (fb : Int)) [] (by kernel_rfl) aA ?_ ?_
 (try rw [hF]); rfl
 rfl
theorem aAD (ps : List Pc) (t : List UInt8) (ht2 : t.length ≤ 200) (hA : t.all aR = true) (hr : SpG g 269 [.c (cM 4 (bJ ps))] [] (.c (cB true)) []) (hps : ∀ p, p ∈ ps → p.text.length ≤ 1000) :
  SpG g 202 [.c (cM 4 (bJ ps)), .c (cS (S t))] [] (.c (cB (decide ((aG t ps).getD 0 0 = (t.length : Int))))) [] := by
 have hsz := aJ t
 have hrl := eE t ps
 have hlk : (intsD (aG t ps)).length = t.length + 1 := by rw [intsD, List.length_map, hrl]
 refine aL 21 Tryz.func202 (by kernel_rfl) fun fr hG => ?_
 refine zR hG [(1, 1, kB true), (1, 4, kB true), (1, 9, kC (.c (cM 1 (intsD (aG t ps))))), (1, 10, .elem (intD ((aG t ps).getD 0 0)))] [] (.c (cB (decide (((aG t ps).getD 0 0 : Int) = ((S t).size : Int))))) [] (aB (hr : SpG g _ _ _ _ _) (aB (fun (hg1 : true = true) => (kO t ht2 hA : SpG g _ _ _ _ _)) (aB (fun (hg1 : true = true) => (pD ps t (by omega) hps : SpG g _ _ _ _ _)) (aD (by intros; exact aT _ (by omega) (by omega) : true = true → (0 : Int) ≤ 0 ∧ (intsD (aG t ps))[0]? = some (intD ((aG t ps).getD 0 0))))))) ?_ ?_
 rw [hsz]
 rfl
end Go.Proofs.YtdejnaokkdndeaaGreatDoor
namespace Go.Proofs.YtdejnaokkdndeaaGreatDoor
open Go.RowKit Go.V
section
variable {m : Int}
def SQ (m : Int) (f : FuncId) (ins : List SV) (out : SV) : Prop := V.Spec Tryz.prog (Gl (gT m)) f ins [] out []
theorem sQ (orc : Nat → Option Bool) (lit : Nat → Option Value) (hnt : Nat → Option (List D)) {T : List (Ent Tryz.prog (Gl (gT m)))} {f : FuncId} {ins : List SV} {out : SV} {cs : List Prop} (h : aFG T N0e D0e orc lit 100000 60 f ins hnt = some (out, cs)) (hc : conj cs) : SQ m f ins out := aFO orc lit hnt fB h hc
def bR (f : FuncId) (out : SV) : Ent Tryz.prog (Gl (gT m)) where
 f := f
 ask := fun k ins refs => match refs with
  | [] => some (out, [], [V.Spec Tryz.prog (Gl (gT m)) f ins [] out []])
  | _ => none
 ok := by
  intro k ins refs post out' cs h hc
  split at h
  cases h; exact hc
  cases h
def bV (f : FuncId) (tell : Nat → Option SV) : Ent Tryz.prog (Gl (gT m)) where
 f := f
 ask := fun k ins refs => match refs with
  | [] => match tell k with
   | some out => some (out, [], [V.Spec Tryz.prog (Gl (gT m)) f ins [] out []])
   | none => none
  | _ => none
 ok := by
  intro k ins refs post out' cs h hc
  split at h
  split at h
  cases h; exact hc
  cases h
  cases h
def qItoa : Ent Tryz.prog (Gl (gT m)) where
 f := 264
 ask := fun _ ins refs => match ins, refs with
  | [.c (.d (.v (.int .i64 (.ofNat n))))], [] => bif Nat.ble n 9223372036854775807 then some (.c (cS (S (eI n))), [], []) else none
  | _, _ => none
 ok := by
  intro k ins refs post out cs h hc
  split at h
  rename_i n
  cases hb : Nat.ble n 9223372036854775807 with
  | false => rw [hb] at h; cases h
  | true =>
   rw [hb] at h
   cases h
   have hn : n ≤ 9223372036854775807 := by simpa using hb
   exact aB3 (g := gT m) (n : Int) (by omega) (by omega)
  cases h
def tS : List (Nat × SV) → Nat → Option SV
 | [], _ => none
 | (i, x) :: r, k => bif Nat.beq i k then some x else tS r k
def tO : List (Nat × Bool) → Nat → Option Bool
 | [], _ => none
 | (i, x) :: r, k => bif Nat.beq i k then some x else tO r k
def tV : List (Nat × Value) → Nat → Option Value
 | [], _ => none
 | (i, x) :: r, k => bif Nat.beq i k then some x else tV r k
def nO : Nat → Option Bool := fun _ => none
def nV : Nat → Option Value := fun _ => none
def nH : Nat → Option (List D) := fun _ => none
abbrev mk_ (k : Nat) : Nat × Value := (k, .nilIface)
def vTx (t : ByteArray) : List C := [cI 1, cS t, cI 0, cI 0, cI 0, .d .nil, .d .nil]
def vNu (n : Int) : List C := [cI 2, cS (S []), cI n, cI 0, cI 0, .d .nil, .d .nil]
def vDt (n : Int) : List C := [cI 3, cS (S []), cI 0, cI 0, cI n, .d .nil, .d .nil]
def vBo (n : Int) : List C := [cI 4, cS (S []), cI 0, cI 0, cI n, .d .nil, .d .nil]
def vZe : List C := [cI 0, cS (S []), cI 0, cI 0, cI 0, .d .nil, .d .nil]
def dTx (t : ByteArray) : List D := [.i 1, .s t, .i 0, .i 0, .i 0, .nil, .nil]
def dDt (n : Int) : List D := [.i 3, .s (S []), .i 0, .i 0, .i n, .nil, .nil]
def rE (v : List C) (e : Int) : SV := .tup [(true, v), (false, [cI e])]
def sC (t : ByteArray) : SV := .c (cS t)
def tyI (op p : List UInt8) : List SV := [sC (S op), sC (S p), .c (.d .nil), .c (.d .nil)]
def tyO (ks : List Int) (k : Int) : SV := .tup [(false, [cM 1 (intsD ks)]), (false, [cI k]), (false, [cI 0])]
def apI (op p : List UInt8) (args : List (List D)) : List SV := [sC (S op), sC (S p), .c (cM 7 args), .c (.d .nil), .c (.d .nil), .c (.d .nil)]
theorem rQ {f : FuncId} {ins : List SV} {out : SV} (h : aFG (P := Tryz.prog) (G := Gl (gT m)) (qItoa :: T0) N0e D0e nO nV 100000 60 f ins nH = some (out, [])) : SQ m f ins out := sQ nO nV nH h trivial
end
end Go.Proofs.YtdejnaokkdndeaaGreatDoor
namespace Go.Proofs.YtdejnaokkdndeaaGreatDoor
open Go.RowKit Go.V
variable (m : Int)
set_option maxRecDepth 100000
def pat8 : List (List UInt8) := [[92, 100, 43], [92, 97], [92, 108, 43], [92, 117, 92, 108, 42], [92, 46, 123, 50, 125], [97], [92, 111], [92, 100, 123, 50, 125]]
def num4 : List (List UInt8) := [[49], [50], [51], [50, 48]]
def nth4 : List Int := [1, 2, 3, 20]
def lay4 : List (List UInt8) := [[89, 89, 89, 89, 45, 77, 77, 45, 68, 68], [68, 46, 77, 46, 89, 89, 89, 89], [89, 89, 89, 89, 47, 77, 47, 68], [68, 68, 77, 77, 89, 89, 89, 89]]
def pcs8 : List (List Pc) := [[⟨1, 1, 200, []⟩], [⟨4, 1, 1, []⟩], [⟨3, 1, 200, []⟩], [⟨2, 1, 1, []⟩, ⟨3, 0, 200, []⟩], [⟨7, 2, 2, []⟩], [⟨0, 0, 0, [97]⟩], [⟨6, 1, 1, []⟩], [⟨1, 2, 2, []⟩]]
def prm (i j : Nat) : List UInt8 := pat8.getD i [] ++ [35] ++ num4.getD j []
def TyQ (m : Int) (op p : List UInt8) (ks : List Int) (k : Int) : Prop := SQ m 15 (tyI op p) (tyO ks k)
abbrev y13 (a0 : ByteArray) (a1 : Int) : SV := .tup [(false, [cS a0]), (false, [cI a1])]
def ExQ (m : Int) (i j : Nat) : Prop := SQ m 197 [sC (S (prm i j))] (y13 (S (pat8.getD i [])) (nth4.getD j 0))
abbrev y14 (a0 : List (List D)) : SV := .tup [(false, [cM 4 a0]), (false, [cI 0]), (false, [cI 0])]
def PaQ (m : Int) (i : Nat) : Prop := SQ m 198 [sC (S (pat8.getD i []))] (y14 (bJ (pcs8.getD i [])))
def RiQ (m : Int) (i : Nat) : Prop := SQ m 269 [.c (cM 4 (bJ (pcs8.getD i [])))] (.c (cB true))
end Go.Proofs.YtdejnaokkdndeaaGreatDoor
