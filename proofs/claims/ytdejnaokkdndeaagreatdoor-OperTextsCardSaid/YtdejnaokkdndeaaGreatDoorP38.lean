/- Part 38 of the proof: texts T6. -/
import Derived.Test.YtdejnaokkdndeaaGreatDoorP33
import Derived.Test.YtdejnaokkdndeaaGreatDoorP34
import Derived.Test.YtdejnaokkdndeaaGreatDoorP36
import Derived.Test.YtdejnaokkdndeaaGreatDoorP37
set_option linter.all false
namespace Go.Proofs.YtdejnaokkdndeaaGreatDoor
open Go.RowKit Go.V
open Go.Eng (inR byteAt u8 aU)
variable {g : Gv}
theorem nB (l : List UInt8) (k : Nat) (h : k < l.length) : byteAt (S l) (k : Int) = chP l k := dF l k
theorem set_self (hx : List Int) (i : Nat) (m : Int) (hi : i < hx.length) (h : hx.getD i 0 = m) : hx.set i m = hx := by
 apply List.ext_getElem (by simp)
 intro j h1 h2
 rw [List.getElem_set]
 split
 rename_i e; subst e
 rw [← h, List.getD_eq_getElem?_getD, List.getElem?_eq_getElem hi]; rfl
 rfl
theorem lD (hx : List Int) (i : Nat) (m : Int) : (intsD hx).set i [D.i m] = intsD (hx.set i m) := by
 simp only [intsD, List.map_set]; rfl
theorem kF (hx : List Int) (i : Nat) (m : Int) (hi : i < hx.length) : (hx.set i m).getD i 0 = m := by
 simp [hi]
theorem aG4 {p : Pc} {l : List UInt8} {af : List Int} {i j : Nat} {m : Int} (hij : i + j ≤ l.length) (hm : (j : Int) ≤ p.most) (hs : i + j = l.length ∨ iH (dM (chP l (i + j))) p.cls = false) :
  mxC p l af i (l.length + 1 - i - j) j m = if p.least ≤ (j : Int) then mxI m (af.getD (i + j) 0) else m := by
 rw [show l.length + 1 - i - j = (l.length - i - j) + 1 by omega, lR, if_pos hm, if_pos hs]
theorem mx_go {p : Pc} {l : List UInt8} {af : List Int} {i j : Nat} {m : Int} (hij : i + j ≤ l.length) (hm : (j : Int) ≤ p.most) (hs : ¬ (i + j = l.length ∨ iH (dM (chP l (i + j))) p.cls = false)) :
  mxC p l af i (l.length + 1 - i - j) j m = mxC p l af i (l.length + 1 - i - (j + 1)) (j + 1) (if p.least ≤ (j : Int) then mxI m (af.getD (i + j) 0) else m) := by
 rw [show l.length + 1 - i - j = (l.length + 1 - i - (j + 1)) + 1 by omega, lR, if_pos hm, if_neg hs]
theorem mx_out {p : Pc} {l : List UInt8} {af : List Int} {i j : Nat} {m : Int} (hij : i + j ≤ l.length) (hm : ¬ (j : Int) ≤ p.most) :
  mxC p l af i (l.length + 1 - i - j) j m = m := by
 rw [show l.length + 1 - i - j = (l.length - i - j) + 1 by omega, lR, if_neg hm]
theorem m8 {p : Pc} {l : List UInt8} {af : List Int} {i : Nat} (h : ¬ p.cls = 0) : cP p l af i = mxC p l af i (l.length + 1 - i) 0 (-1) := by rw [cP, if_neg h]
theorem wJ {e2 : List (List D)} {hx : List Int} {i : Nat} {mm v : Int} (hi : i < hx.length) (he : e2 = intsD (hx.set i mm)) : e2.set i [D.i (if v > (hx.set i mm).getD i 0 then v else (hx.set i mm).getD i 0)] = intsD (hx.set i (mxI mm v)) := by
 rw [he, kF _ _ _ hi, lD, List.set_set]; rfl
theorem aBH {l : List UInt8} {i j : Nat} {c : Int} (hij : i + j ≤ l.length) (h : ((i + j : Nat) : Int) = ((S l).size : Int) ∨ iH (dM (byteAt (S l) ((i + j : Nat) : Int))) c = false) : i + j = l.length ∨ iH (dM (chP l (i + j))) c = false := by
 rcases h with h | h
 left; rw [aJ] at h; omega
 rcases Nat.lt_or_ge (i + j) l.length with h2 | h2
 right; rw [nB l _ h2] at h; exact h
 left; omega
theorem go_of {l : List UInt8} {i j : Nat} {c : Int} (hij : i + j ≤ l.length) (h : ¬ ((i + j : Nat) : Int) = ((S l).size : Int) ∧ iH (dM (byteAt (S l) ((i + j : Nat) : Int))) c = true) : ¬ (i + j = l.length ∨ iH (dM (chP l (i + j))) c = false) := by
 obtain ⟨h1, h2⟩ := h
 rw [aJ] at h1
 have h3 : i + j < l.length := by omega
 rw [nB l _ h3] at h2
 rintro (h | h)
 omega
 rw [h2] at h; cases h
theorem aHW (s p : List UInt8) (r : Bool) (h : Lib.hasPrefix s p = r) : SpG g 371 [.c (cS (S s)), .c (cS (S p))] [] (.c (cB r)) [] := by
 subst h
 have := fun w => Tryz.strings_HasPrefix (S s) (S p) w
 simp only [fD] at this
 exact lO (args := [.string (S s), .string (S p)]) rfl rfl rfl fun w => (this w).mono fun _ _ ⟨a, b⟩ => ⟨a, b.symm⟩
theorem aHX {l q : List UInt8} (h : Lib.hasPrefix l q = true) : q.length ≤ l.length := by
 exact (List.isPrefixOf_iff_prefix.1 h).length_le
theorem aEC (t q : List UInt8) (i : Nat) : SpG g 371 [.c (cS ((S t).extract i (S t).size)), .c (cS (S q))] [] (.c (cB (Lib.hasPrefix (t.drop i) q))) [] := by
 rw [aA9]; exact aHW (t.drop i) q _ rfl
theorem vY (f : Nat → Int) (i : Nat) {n : Nat} (h : i < n) : ((List.range i).map f ++ List.replicate (n - i) 0).set i (f i) = (List.range (i + 1)).map f ++ List.replicate (n - (i + 1)) 0 := by
 rw [List.set_append_right _ _ (by simp), show n - i = (n - (i + 1)) + 1 by omega, List.replicate_succ, List.range_succ, List.map_append]
 simp
theorem yZ (ps : List Pc) (t : List UInt8) (q : Int) (h : 0 ≤ q) (hk : q < ps.length) : aG t (ps.drop (q - 1 + 1).toNat) = aF1 (ps.getD q.toNat Pc.z) t (aG t (ps.drop (q + 1).toNat)) := by
 obtain ⟨k, rfl⟩ : ∃ k : Nat, q = k := ⟨q.toNat, by omega⟩
 have h1 : k < ps.length := by omega
 rw [show ((k : Int) - 1 + 1).toNat = k by omega, show ((k : Int) + 1).toNat = k + 1 by omega, Int.toNat_natCast, List.drop_eq_getElem_cons h1]
 simp [aG, h1]
theorem qQ (c : Int) :
  SpG g 328 [.c (.d (.y c))] [] (.c (cI (dM c))) [] := by
 refine aL 34 Tryz.func328 (by kernel_rfl) fun fr hG => ?_
 refine zC hG [] [1, 0, 0, 1] ((decide ((c : Int) < 32)) || (decide ((c : Int) > 126))) (⟨[(0, [], .c (.d (.y c))), zI 2 0], []⟩) aA (fun hc1 => ?_) (fun hc1 => ?_)
 (try simp only [blS] at hc1)
 refine zR hG [] [] (.c (cI 0)) [] aA ?_ ?_
 unfold dM; (repeat (first | rw [if_pos (by omega)] | rw [if_neg (by omega)]))
 rfl
 (try simp only [blS] at hc1)
 refine zc hG [] [1, 1, 1, 0, 0, 1] ((decide ((c : Int) ≥ 48)) && (decide ((c : Int) ≤ 57))) aA (fun hc2 => ?_) (fun hc2 => ?_)
 (try simp only [blS] at hc2)
 refine zR hG [] [] (.c (cI 1)) [] aA ?_ ?_
 unfold dM; (repeat (first | rw [if_pos (by omega)] | rw [if_neg (by omega)]))
 rfl
 (try simp only [blS] at hc2)
 refine zc hG [] [1, 1, 1, 1, 1, 0, 0, 1] ((decide ((c : Int) ≥ 65)) && (decide ((c : Int) ≤ 90))) aA (fun hc3 => ?_) (fun hc3 => ?_)
 (try simp only [blS] at hc3)
 refine zR hG [] [] (.c (cI 2)) [] aA ?_ ?_
 unfold dM; (repeat (first | rw [if_pos (by omega)] | rw [if_neg (by omega)]))
 rfl
 (try simp only [blS] at hc3)
 refine zc hG [] [1, 1, 1, 1, 1, 1, 1, 0, 0, 1] ((decide ((c : Int) ≥ 97)) && (decide ((c : Int) ≤ 122))) aA (fun hc4 => ?_) (fun hc4 => ?_)
 (try simp only [blS] at hc4)
 refine zR hG [] [] (.c (cI 3)) [] aA ?_ ?_
 unfold dM; (repeat (first | rw [if_pos (by omega)] | rw [if_neg (by omega)]))
 rfl
 (try simp only [blS] at hc4)
 refine zP hG [] [1, 1, 1, 1, 1, 1, 1, 1, 1, 0, 0, 1] ((c : Int) = 32) (⟨[zI 2 0], []⟩) aA (fun hc5 => ?_) (fun hc5 => ?_)
 skip
 refine zR hG [] [] (.c (cI 5)) [] aA ?_ ?_
 unfold dM; (repeat (first | rw [if_pos (by omega)] | rw [if_neg (by omega)]))
 rfl
 skip
 refine zR hG [] [] (.c (cI 6)) [] aA ?_ ?_
 unfold dM; (repeat (first | rw [if_pos (by omega)] | rw [if_neg (by omega)]))
 rfl
theorem sF (a b : Int) :
  SpG g 372 [.c (cI a), .c (cI b)] [] (.c (cB (iH a b))) [] := by
 refine aL 24 Tryz.func372 (by kernel_rfl) fun fr hG => ?_
 exact zr hG [] [] aA
theorem aGE (b5 b8 b9 D l : Nat) (fn : FuncId) (tm : Array Value) (h5 : tm.getD 5 undef = .pointer (some ⟨b5, 0, none⟩)) (h8 : tm.getD 8 undef = .pointer (some ⟨b8, 0, none⟩)) (h9 : tm.getD 9 undef = .pointer (some ⟨b9, 0, none⟩)) (hn : tm.size = 67) (hx af : List Int) (i : Nat) (hi : i < hx.length) (ea : List (List V.D)) (hea : ea = intsD af) (eh : List (List V.D)) (hhx : eh = intsD hx) (q : Nat) (ht : q < af.length) :
  iS Tryz.prog (Gl g) l [.c (cI (q : Int))] [(0, .box ⟨.raw (.loop (aZ (aK (aK (aN Tryz.f272) [0, 1, 0, 1, 1, 1]) [0, 1, 0, 1, 0, 0, 1]) [0, 1, 1, 1, 0, 0, 1, 1] fn tm D)), some l⟩ []), (1, .box ⟨.c 24, some b5⟩ [cM 1 (ea)]), (2, .box ⟨.c 24, some b8⟩ [.ar 4 0]), (3, .box ⟨.c 3, some b9⟩ [cI (i : Int)]), (4, .arr 0 3 1 (eh))] (.c (cB true)) [(0, .box ⟨.raw (.loop (aZ (aK (aK (aN Tryz.f272) [0, 1, 0, 1, 1, 1]) [0, 1, 0, 1, 0, 0, 1]) [0, 1, 1, 1, 0, 0, 1, 1] fn tm D)), some l⟩ []), (1, .box ⟨.c 24, some b5⟩ [cM 1 (ea)]), (2, .box ⟨.c 24, some b8⟩ [.ar 4 0]), (3, .box ⟨.c 3, some b9⟩ [cI (i : Int)]), (4, .arr 0 3 1 (eh.set i [V.D.i (if (af.getD q 0 : Int) > (hx.getD i 0) then (af.getD q 0) else (hx.getD i 0))]))] := by
 refine enterY (iL := 0) (p := 51) (env0 := [zX 5 1 0, zX 8 2 0, zX 9 3 0]) (n := 67) (r := (aZ (aK (aK (aN Tryz.f272) [0, 1, 0, 1, 1, 1]) [0, 1, 0, 1, 0, 0, 1]) [0, 1, 1, 1, 0, 0, 1, 1] fn tm D)) rfl (by kernel_rfl) hn (by decide) ⟨rfl, ⟨_, _, _, rfl, rfl, h5⟩, ⟨rfl, ⟨_, _, _, rfl, rfl, h8⟩, ⟨rfl, ⟨_, _, _, rfl, rfl, h9⟩, trivial⟩⟩⟩ rfl fun fr hG => ?_
 refine aFM hG fB [] (⟨[zX 5 1 0, zX 8 2 0, zX 9 3 0, zI 10 (q : Int)], [(0, .box ⟨.raw (.loop (aZ (aK (aK (aN Tryz.f272) [0, 1, 0, 1, 1, 1]) [0, 1, 0, 1, 0, 0, 1]) [0, 1, 1, 1, 0, 0, 1, 1] fn tm D)), some l⟩ []), (1, .box ⟨.c 24, some b5⟩ [cM 1 (ea)]), (2, .box ⟨.c 24, some b8⟩ [.ar 4 0]), (3, .box ⟨.c 3, some b9⟩ [cI (i : Int)]), (4, .arr 0 3 1 (eh))]⟩) 0 (r := (aZ (aK (aK (aN Tryz.f272) [0, 1, 0, 1, 1, 1]) [0, 1, 0, 1, 0, 0, 1]) [0, 1, 1, 1, 0, 0, 1, 1] fn tm D)) (by kernel_rfl) aA rfl rfl ?_
 refine vV hG (⟨[zX 5 1 0, zX 8 2 0, zX 9 3 0, zI 10 (q : Int)], [(0, .box ⟨.raw (.loop { (aZ (aK (aK (aN Tryz.f272) [0, 1, 0, 1, 1, 1]) [0, 1, 0, 1, 0, 0, 1]) [0, 1, 1, 1, 0, 0, 1, 1] fn tm D) with state := .busy }), some l⟩ []), (1, .box ⟨.c 24, some b5⟩ [cM 1 (ea)]), (2, .box ⟨.c 24, some b8⟩ [.ar 4 0]), (3, .box ⟨.c 3, some b9⟩ [cI (i : Int)]), (4, .arr 0 3 1 (eh))]⟩) (by kernel_rfl) ?_
 refine aFJ hG fB [(17, 5, .elem (intD (hx.getD i 0))), (17, 8, .elem (intD (af.getD q 0)))] [] 0 .normal [(0, .box ⟨.raw (u7 { (aZ (aK (aK (aN Tryz.f272) [0, 1, 0, 1, 1, 1]) [0, 1, 0, 1, 0, 0, 1]) [0, 1, 1, 1, 0, 0, 1, 1] fn tm D) with state := .busy } .normal), some l⟩ []), (4, .arr 0 3 1 ((eh).set i [.i (if (af.getD q 0 : Int) > (hx.getD i 0) then (af.getD q 0) else (hx.getD i 0))])), (1, .box ⟨.c 24, some b5⟩ [cM 1 (ea)]), (2, .box ⟨.c 24, some b8⟩ [.ar 4 0]), (3, .box ⟨.c 3, some b9⟩ [cI (i : Int)])] (by kernel_rfl) (aB (by intros; first | decide | omega | (simp only [zq8] at *; omega) | (rw [hhx]; simp only [zq8]; omega) : (0 : Int) ≤ (i : Int) ∧ (i : Int) < ((eh).length : Int)) (aB (by intros; rw [hhx]; exact dV _ (by omega) : (eh)[i]? = some (intD (hx.getD i 0))) (aB (by intros; rw [hea]; exact aT _ (by omega) (by omega) : (0 : Int) ≤ (q : Int) ∧ (ea)[q]? = some (intD (af.getD q 0))) (aD (by intros; first | decide | omega | (simp only [zq8] at *; omega) | (rw [hhx]; simp only [zq8]; omega) : (0 : Int) ≤ (i : Int) ∧ (i : Int) < ((eh).length : Int)))))) ?_ ?_
 rfl
 funext i; simp only [a8, upd]; (repeat' split) <;> first | rfl | (exfalso; omega)
def tF := And.intro @aJ (And.intro @decide_eq_false_iff_not (And.intro @decide_eq_true_eq (@Go.Eng.inR.eq_1)))
theorem endsIt (b0 b1 b2 : Nat) (b5 b8 b9 D l : Nat) (fn : FuncId) (tm : Array Value) (h5 : tm.getD 5 undef = .pointer (some ⟨b5, 0, none⟩)) (h8 : tm.getD 8 undef = .pointer (some ⟨b8, 0, none⟩)) (h9 : tm.getD 9 undef = .pointer (some ⟨b9, 0, none⟩)) (hn : tm.size = 67) (hx af : List Int) (i : Nat) (hi : i < hx.length) (ea : List (List V.D)) (hea : ea = intsD af) (p : Pc) (t : List UInt8) (eh : List (List V.D)) (hhx : eh = intsD hx) (hm : hx.getD i 0 = -1) (ht : t.length ≤ 1000000) (haf : af.length = t.length + 1) (hit : i ≤ t.length) (hpt : p.text.length ≤ 1000) :
  SpG g 370 [.c (.d (.v (.func (.yield l) #[] #[]))), .c (.bx 0 0), .c (.bx 1 0), .c (.bx 2 0)] [(0, .box ⟨.c 213, some b0⟩ [cI p.cls, cI p.least, cI p.most, cS (S p.text)]), (1, .box ⟨.c 9, some b1⟩ [cS (S t)]), (2, .box ⟨.c 3, some b2⟩ [cI (i : Int)]), (3, .box ⟨.raw (.loop (aZ (aK (aK (aN Tryz.f272) [0, 1, 0, 1, 1, 1]) [0, 1, 0, 1, 0, 0, 1]) [0, 1, 1, 1, 0, 0, 1, 1] fn tm D)), some l⟩ []), (4, .box ⟨.c 24, some b5⟩ [cM 1 (ea)]), (5, .box ⟨.c 24, some b8⟩ [.ar 7 0]), (6, .box ⟨.c 3, some b9⟩ [cI (i : Int)]), (7, .arr 0 3 1 (eh))] (.tup []) [(0, .box ⟨.c 213, some b0⟩ [cI p.cls, cI p.least, cI p.most, cS (S p.text)]), (1, .box ⟨.c 9, some b1⟩ [cS (S t)]), (2, .box ⟨.c 3, some b2⟩ [cI (i : Int)]), (3, .box ⟨.raw (.loop (aZ (aK (aK (aN Tryz.f272) [0, 1, 0, 1, 1, 1]) [0, 1, 0, 1, 0, 0, 1]) [0, 1, 1, 1, 0, 0, 1, 1] fn tm D)), some l⟩ []), (4, .box ⟨.c 24, some b5⟩ [cM 1 (ea)]), (5, .box ⟨.c 24, some b8⟩ [.ar 7 0]), (6, .box ⟨.c 3, some b9⟩ [cI (i : Int)]), (7, .arr 0 3 1 (intsD (hx.set i (cP p t af i))))] := by
 have hsz := aJ p.text
 refine aL 57 Tryz.func370 (by kernel_rfl) fun fr hG => ?_
 refine zp hG [] [1, 0] ((p.cls : Int) = 0) aA (fun hc1 => ?_) (fun hc1 => ?_)
 ·skip
  refine zc hG [(1, 5, kB (Lib.hasPrefix (t.drop i) p.text))] [1, 0, 0, 1, 0] (Lib.hasPrefix (t.drop i) p.text) (aB (by intros; (try simp only [tF] at *); first | decide | omega : (0 : Int) ≤ (i : Int) ∧ ((i : Int) : Int) ≤ ((S t).size : Int) ∧ ((S t).size : Int) ≤ ((S t).size : Int)) (aD (aEC t p.text i : SpG g _ _ _ _ _))) (fun hc2 => ?_) (fun hc2 => ?_)
  ·(try simp only [blS] at hc2)
   have hpl := aHX hc2
   rw [List.length_drop] at hpl
   refine oY hG fB [(2, 6, .callG (.c (cB true)) [3, 4, 5, 6, 7] [(0, .box ⟨.raw (.loop (aZ (aK (aK (aN Tryz.f272) [0, 1, 0, 1, 1, 1]) [0, 1, 0, 1, 0, 0, 1]) [0, 1, 1, 1, 0, 0, 1, 1] fn tm D)), some l⟩ []), (1, .box ⟨.c 24, some b5⟩ [cM 1 (ea)]), (2, .box ⟨.c 24, some b8⟩ [.ar 4 0]), (3, .box ⟨.c 3, some b9⟩ [cI (i : Int)]), (4, .arr 0 3 1 ((eh).set i [V.D.i (if (af.getD ((i : Int) + ((S p.text).size : Int) : Int).toNat 0 : Int) > (hx.getD i 0) then (af.getD ((i : Int) + ((S p.text).size : Int) : Int).toNat 0) else (hx.getD i 0))]))])] [] (.tup []) [(7, .arr 0 3 1 ((eh).set i [V.D.i (if (af.getD ((i : Int) + ((S p.text).size : Int) : Int).toNat 0 : Int) > (hx.getD i 0) then (af.getD ((i : Int) + ((S p.text).size : Int) : Int).toNat 0) else (hx.getD i 0))])), (6, .box ⟨.c 3, some b9⟩ [cI (i : Int)]), (5, .box ⟨.c 24, some b8⟩ [.ar 7 0]), (4, .box ⟨.c 24, some b5⟩ [cM 1 (ea)]), (3, .box ⟨.raw (.loop (aZ (aK (aK (aN Tryz.f272) [0, 1, 0, 1, 1, 1]) [0, 1, 0, 1, 0, 0, 1]) [0, 1, 1, 1, 0, 0, 1, 1] fn tm D)), some l⟩ []), (0, .box ⟨.c 213, some b0⟩ [cI p.cls, cI p.least, cI p.most, cS (S p.text)]), (1, .box ⟨.c 9, some b1⟩ [cS (S t)]), (2, .box ⟨.c 3, some b2⟩ [cI (i : Int)])] (by kernel_rfl) (aB (by intros; (try simp only [tF] at *); first | decide | omega : inR ((i : Int) + ((S p.text).size : Int))) (aD (aGE b5 b8 b9 D l fn tm h5 h8 h9 hn hx af i hi ea hea eh hhx ((i : Int) + ((S p.text).size : Int) : Int).toNat (by omega) : iS Tryz.prog (Gl g) _ _ _ _ _))) ?_ ?_
   ·rfl
   ·have hE : (eh).set i [V.D.i (if (af.getD ((i : Int) + ((S p.text).size : Int) : Int).toNat 0 : Int) > (hx.getD i 0) then (af.getD ((i : Int) + ((S p.text).size : Int) : Int).toNat 0) else (hx.getD i 0))] = intsD (hx.set i (cP p t af i)) := by
     have hce : cP p t af i = mxI (-1) (af.getD (i + p.text.length) 0) := by rw [cP, if_pos hc1, if_pos hc2]
     have hq : ((i : Int) + ((S p.text).size : Int) : Int).toNat = i + p.text.length := by rw [aJ]; omega
     rw [hce, hhx, hq, hm, lD]
     rfl
    rw [hE]
    all_goals (first | rfl | (funext i; simp only [a8, upd]; ((repeat' split) <;> first | rfl | (exfalso; omega))))
  ·(try simp only [blS] at hc2)
   refine oY hG fB [] [] (.tup []) [(0, .box ⟨.c 213, some b0⟩ [cI p.cls, cI p.least, cI p.most, cS (S p.text)]), (1, .box ⟨.c 9, some b1⟩ [cS (S t)]), (2, .box ⟨.c 3, some b2⟩ [cI (i : Int)]), (3, .box ⟨.raw (.loop (aZ (aK (aK (aN Tryz.f272) [0, 1, 0, 1, 1, 1]) [0, 1, 0, 1, 0, 0, 1]) [0, 1, 1, 1, 0, 0, 1, 1] fn tm D)), some l⟩ []), (4, .box ⟨.c 24, some b5⟩ [cM 1 (ea)]), (5, .box ⟨.c 24, some b8⟩ [.ar 7 0]), (6, .box ⟨.c 3, some b9⟩ [cI (i : Int)]), (7, .arr 0 3 1 (eh))] (by kernel_rfl) aA ?_ ?_
   ·rfl
   ·have hE : eh = intsD (hx.set i (cP p t af i)) := by
     have hce : cP p t af i = -1 := by rw [cP, if_pos hc1, if_neg (by simp [hc2])]
     rw [hce, hhx, set_self hx i _ hi hm]
    rw [hE]
    all_goals (first | rfl | (funext i; simp only [a8, upd]; ((repeat' split) <;> first | rfl | (exfalso; omega))))
 ·skip
  refine zL hG [] [0, 1, 1] (fun (zz : Nat × List (List V.D) × Int) => match zz with | (j, e2, mm) => (t.length + 1 - (i + j), ⟨[(0, [], .c (.d (.v (.func (.yield l) #[] #[])))), zX 1 0 0, zX 2 1 0, zX 3 2 0, zI 5 ((i + j : Nat) : Int)], [(0, .box ⟨.c 213, some b0⟩ [cI p.cls, cI p.least, cI p.most, cS (S p.text)]), (1, .box ⟨.c 9, some b1⟩ [cS (S t)]), (2, .box ⟨.c 3, some b2⟩ [cI (i : Int)]), (3, .box ⟨.raw (.loop (aZ (aK (aK (aN Tryz.f272) [0, 1, 0, 1, 1, 1]) [0, 1, 0, 1, 0, 0, 1]) [0, 1, 1, 1, 0, 0, 1, 1] fn tm D)), some l⟩ []), (4, .box ⟨.c 24, some b5⟩ [cM 1 (ea)]), (5, .box ⟨.c 24, some b8⟩ [.ar 7 0]), (6, .box ⟨.c 3, some b9⟩ [cI (i : Int)]), (7, .arr 0 3 1 (e2))]⟩, i + j ≤ t.length ∧ e2 = intsD (hx.set i mm) ∧ mxC p t af i (t.length + 1 - i - j) j mm = mxC p t af i (t.length + 1 - i) 0 (-1))) (0, eh, (-1)) aA ?_ ?_
  ·exact ⟨by omega, by rw [hhx, set_self hx i _ hi hm], rfl⟩
  rintro ⟨j, e2, mm⟩ ⟨hij, he2, hmx⟩
  refine zp hG [] [1, 0] ((((i + j : Nat) : Int) - (i : Int) : Int) ≤ p.most) (aD (by intros; (try simp only [tF] at *); first | decide | omega : inR (((i + j : Nat) : Int) - (i : Int)))) (fun hc4 => ?_) (fun hc4 => ?_)
  ·skip
   rcases (by omega : (j : Int) < p.least ∨ p.least ≤ (j : Int)) with hls | hls
   ·skip
    refine zc hG [(6, 9, .dead (.c (cB false)))] [1, 0, 0, 0, 1] ((decide ((((i + j : Nat) : Int) - (i : Int) : Int) ≥ p.least)) && true) (aB (by intros; (try simp only [tF] at *); first | decide | omega : inR (((i + j : Nat) : Int) - (i : Int))) (aD (show ¬ ((decide ((((i + j : Nat) : Int) - (i : Int) : Int) ≥ p.least)) = true ∧ True) from (fun h => by have := h.1; simp only [decide_eq_true_eq] at this; omega)))) (fun hc5 => ?_) (fun hc5 => ?_)
    ·(try simp only [blS] at hc5)
     exfalso; have := hc5.1; omega
    ·(try simp only [blS] at hc5)
     refine zc hG [(7, 8, kI (dM (byteAt (S t) ((i + j : Nat) : Int)))), (7, 11, kB (iH (dM (byteAt (S t) ((i + j : Nat) : Int))) p.cls))] [1, 1, 0, 0, 1] ((decide ((((i + j : Nat) : Int) : Int) = ((S t).size : Int))) || (!(iH (dM (byteAt (S t) ((i + j : Nat) : Int))) p.cls))) (aB (by intros; (try simp only [tF] at *); first | decide | omega : (decide ((((i + j : Nat) : Int) : Int) = ((S t).size : Int))) = false → (0 : Int) ≤ ((i + j : Nat) : Int) ∧ ((i + j : Nat) : Int) < ((S t).size : Int)) (aB (fun (hg1 : (decide ((((i + j : Nat) : Int) : Int) = ((S t).size : Int))) = false) => (qQ (byteAt (S t) ((i + j : Nat) : Int)) : SpG g _ _ _ _ _)) (aD (fun (hg1 : (decide ((((i + j : Nat) : Int) : Int) = ((S t).size : Int))) = false) => (sF (dM (byteAt (S t) ((i + j : Nat) : Int))) p.cls : SpG g _ _ _ _ _))))) (fun hc6 => ?_) (fun hc6 => ?_)
     ·(try simp only [blS] at hc6)
      refine zE hG [] .ret (⟨[], [(0, .box ⟨.c 213, some b0⟩ [cI p.cls, cI p.least, cI p.most, cS (S p.text)]), (1, .box ⟨.c 9, some b1⟩ [cS (S t)]), (2, .box ⟨.c 3, some b2⟩ [cI (i : Int)]), (3, .box ⟨.raw (.loop (aZ (aK (aK (aN Tryz.f272) [0, 1, 0, 1, 1, 1]) [0, 1, 0, 1, 0, 0, 1]) [0, 1, 1, 1, 0, 0, 1, 1] fn tm D)), some l⟩ []), (4, .box ⟨.c 24, some b5⟩ [cM 1 (ea)]), (5, .box ⟨.c 24, some b8⟩ [.ar 7 0]), (6, .box ⟨.c 3, some b9⟩ [cI (i : Int)]), (7, .arr 0 3 1 (e2))]⟩) aA rfl ?_
      refine oY hG fB [] [] (.tup []) [(0, .box ⟨.c 213, some b0⟩ [cI p.cls, cI p.least, cI p.most, cS (S p.text)]), (1, .box ⟨.c 9, some b1⟩ [cS (S t)]), (2, .box ⟨.c 3, some b2⟩ [cI (i : Int)]), (3, .box ⟨.raw (.loop (aZ (aK (aK (aN Tryz.f272) [0, 1, 0, 1, 1, 1]) [0, 1, 0, 1, 0, 0, 1]) [0, 1, 1, 1, 0, 0, 1, 1] fn tm D)), some l⟩ []), (4, .box ⟨.c 24, some b5⟩ [cM 1 (ea)]), (5, .box ⟨.c 24, some b8⟩ [.ar 7 0]), (6, .box ⟨.c 3, some b9⟩ [cI (i : Int)]), (7, .arr 0 3 1 (e2))] (by kernel_rfl) aA ?_ ?_
      ·rfl
      ·have hE : e2 = intsD (hx.set i (cP p t af i)) := by
        have hce := m8 (l := t) (af := af) (i := i) hc1
        have hst := aBH hij hc6
        have h9 := aG4 (af := af) (m := mm) hij (by omega) hst
        rw [if_neg (by omega)] at h9
        rw [he2, hce, ← hmx, h9]
       rw [hE]
       all_goals (first | rfl | (funext i; simp only [a8, upd]; ((repeat' split) <;> first | rfl | (exfalso; omega))))
     ·(try simp only [blS] at hc6)
      refine zD hG [] (j + 1, e2, mm) (aD (by intros; (try simp only [tF] at *); first | decide | omega : inR (((i + j : Nat) : Int) + 1))) ?_ ?_
      ·(try dsimp only); omega
      ·have hgo := go_of hij hc6
       have h9 := mx_go (af := af) (m := mm) hij (by omega) hgo
       rw [if_neg (by omega)] at h9
       exact ⟨by omega, he2, h9.symm.trans hmx⟩
   ·skip
    refine zC hG [(6, 9, .callG (.c (cB true)) [3, 4, 5, 6, 7] [(0, .box ⟨.raw (.loop (aZ (aK (aK (aN Tryz.f272) [0, 1, 0, 1, 1, 1]) [0, 1, 0, 1, 0, 0, 1]) [0, 1, 1, 1, 0, 0, 1, 1] fn tm D)), some l⟩ []), (1, .box ⟨.c 24, some b5⟩ [cM 1 (ea)]), (2, .box ⟨.c 24, some b8⟩ [.ar 4 0]), (3, .box ⟨.c 3, some b9⟩ [cI (i : Int)]), (4, .arr 0 3 1 ((e2).set i [V.D.i (if (af.getD (i + j : Nat) 0 : Int) > ((hx.set i mm).getD i 0) then (af.getD (i + j : Nat) 0) else ((hx.set i mm).getD i 0))]))])] [1, 0, 0, 0, 1] ((decide ((((i + j : Nat) : Int) - (i : Int) : Int) ≥ p.least)) && false) (⟨[(0, [], .c (.d (.v (.func (.yield l) #[] #[])))), zX 1 0 0, zX 2 1 0, zX 3 2 0, zI 5 ((i + j : Nat) : Int)], [(0, .box ⟨.c 213, some b0⟩ [cI p.cls, cI p.least, cI p.most, cS (S p.text)]), (1, .box ⟨.c 9, some b1⟩ [cS (S t)]), (2, .box ⟨.c 3, some b2⟩ [cI (i : Int)]), (3, .box ⟨.raw (.loop (aZ (aK (aK (aN Tryz.f272) [0, 1, 0, 1, 1, 1]) [0, 1, 0, 1, 0, 0, 1]) [0, 1, 1, 1, 0, 0, 1, 1] fn tm D)), some l⟩ []), (4, .box ⟨.c 24, some b5⟩ [cM 1 (ea)]), (5, .box ⟨.c 24, some b8⟩ [.ar 7 0]), (6, .box ⟨.c 3, some b9⟩ [cI (i : Int)]), (7, .arr 0 3 1 ((e2).set i [V.D.i (if (af.getD (i + j : Nat) 0 : Int) > ((hx.set i mm).getD i 0) then (af.getD (i + j : Nat) 0) else ((hx.set i mm).getD i 0))]))]⟩) (aB (by intros; (try simp only [tF] at *); first | decide | omega : inR (((i + j : Nat) : Int) - (i : Int))) (aB (show (decide ((((i + j : Nat) : Int) - (i : Int) : Int) ≥ p.least)) = true ∧ True from ⟨by simp only [decide_eq_true_eq]; omega, trivial⟩) (aD (fun (hg1 : (decide ((((i + j : Nat) : Int) - (i : Int) : Int) ≥ p.least)) = true) => (aGE b5 b8 b9 D l fn tm h5 h8 h9 hn (hx.set i mm) af i (by rw [List.length_set]; exact hi) ea hea e2 he2 (i + j : Nat) (by omega) : iS Tryz.prog (Gl g) _ _ _ _ _))))) (fun hc7 => ?_) (fun hc7 => ?_)
    ·(try simp only [blS] at hc7)
     exfalso; exact absurd hc7.2 (by decide)
    ·(try simp only [blS] at hc7)
     refine zc hG [(7, 8, kI (dM (byteAt (S t) ((i + j : Nat) : Int)))), (7, 11, kB (iH (dM (byteAt (S t) ((i + j : Nat) : Int))) p.cls))] [1, 1, 0, 0, 1] ((decide ((((i + j : Nat) : Int) : Int) = ((S t).size : Int))) || (!(iH (dM (byteAt (S t) ((i + j : Nat) : Int))) p.cls))) (aB (by intros; (try simp only [tF] at *); first | decide | omega : (decide ((((i + j : Nat) : Int) : Int) = ((S t).size : Int))) = false → (0 : Int) ≤ ((i + j : Nat) : Int) ∧ ((i + j : Nat) : Int) < ((S t).size : Int)) (aB (fun (hg1 : (decide ((((i + j : Nat) : Int) : Int) = ((S t).size : Int))) = false) => (qQ (byteAt (S t) ((i + j : Nat) : Int)) : SpG g _ _ _ _ _)) (aD (fun (hg1 : (decide ((((i + j : Nat) : Int) : Int) = ((S t).size : Int))) = false) => (sF (dM (byteAt (S t) ((i + j : Nat) : Int))) p.cls : SpG g _ _ _ _ _))))) (fun hc8 => ?_) (fun hc8 => ?_)
     ·(try simp only [blS] at hc8)
      refine zE hG [] .ret (⟨[], [(0, .box ⟨.c 213, some b0⟩ [cI p.cls, cI p.least, cI p.most, cS (S p.text)]), (1, .box ⟨.c 9, some b1⟩ [cS (S t)]), (2, .box ⟨.c 3, some b2⟩ [cI (i : Int)]), (3, .box ⟨.raw (.loop (aZ (aK (aK (aN Tryz.f272) [0, 1, 0, 1, 1, 1]) [0, 1, 0, 1, 0, 0, 1]) [0, 1, 1, 1, 0, 0, 1, 1] fn tm D)), some l⟩ []), (4, .box ⟨.c 24, some b5⟩ [cM 1 (ea)]), (5, .box ⟨.c 24, some b8⟩ [.ar 7 0]), (6, .box ⟨.c 3, some b9⟩ [cI (i : Int)]), (7, .arr 0 3 1 ((e2).set i [V.D.i (if (af.getD (i + j : Nat) 0 : Int) > ((hx.set i mm).getD i 0) then (af.getD (i + j : Nat) 0) else ((hx.set i mm).getD i 0))]))]⟩) aA rfl ?_
      refine oY hG fB [] [] (.tup []) [(0, .box ⟨.c 213, some b0⟩ [cI p.cls, cI p.least, cI p.most, cS (S p.text)]), (1, .box ⟨.c 9, some b1⟩ [cS (S t)]), (2, .box ⟨.c 3, some b2⟩ [cI (i : Int)]), (3, .box ⟨.raw (.loop (aZ (aK (aK (aN Tryz.f272) [0, 1, 0, 1, 1, 1]) [0, 1, 0, 1, 0, 0, 1]) [0, 1, 1, 1, 0, 0, 1, 1] fn tm D)), some l⟩ []), (4, .box ⟨.c 24, some b5⟩ [cM 1 (ea)]), (5, .box ⟨.c 24, some b8⟩ [.ar 7 0]), (6, .box ⟨.c 3, some b9⟩ [cI (i : Int)]), (7, .arr 0 3 1 ((e2).set i [V.D.i (if (af.getD (i + j : Nat) 0 : Int) > ((hx.set i mm).getD i 0) then (af.getD (i + j : Nat) 0) else ((hx.set i mm).getD i 0))]))] (by kernel_rfl) aA ?_ ?_
      ·rfl
      ·have hE : (e2).set i [V.D.i (if (af.getD (i + j : Nat) 0 : Int) > ((hx.set i mm).getD i 0) then (af.getD (i + j : Nat) 0) else ((hx.set i mm).getD i 0))] = intsD (hx.set i (cP p t af i)) := by
        have hce := m8 (l := t) (af := af) (i := i) hc1
        have hst := aBH hij hc8
        have h9 := aG4 (af := af) (m := mm) hij (by omega) hst
        rw [if_pos (by omega)] at h9
        rw [wJ hi he2, hce, ← hmx, h9]
       rw [hE]
       all_goals (first | rfl | (funext i; simp only [a8, upd]; ((repeat' split) <;> first | rfl | (exfalso; omega))))
     ·(try simp only [blS] at hc8)
      refine zD hG [] (j + 1, e2.set i [V.D.i (if (af.getD (i + j) 0 : Int) > ((hx.set i mm).getD i 0) then (af.getD (i + j) 0) else ((hx.set i mm).getD i 0))], mxI mm (af.getD (i + j) 0)) (aD (by intros; (try simp only [tF] at *); first | decide | omega : inR (((i + j : Nat) : Int) + 1))) ?_ ?_
      ·(try dsimp only); omega
      ·have hgo := go_of hij hc8
       have h9 := mx_go (af := af) (m := mm) hij (by omega) hgo
       rw [if_pos (by omega)] at h9
       exact ⟨by omega, wJ hi he2, h9.symm.trans hmx⟩
  ·skip
   refine zE hG [] (.exit 0) (⟨[], [(0, .box ⟨.c 213, some b0⟩ [cI p.cls, cI p.least, cI p.most, cS (S p.text)]), (1, .box ⟨.c 9, some b1⟩ [cS (S t)]), (2, .box ⟨.c 3, some b2⟩ [cI (i : Int)]), (3, .box ⟨.raw (.loop (aZ (aK (aK (aN Tryz.f272) [0, 1, 0, 1, 1, 1]) [0, 1, 0, 1, 0, 0, 1]) [0, 1, 1, 1, 0, 0, 1, 1] fn tm D)), some l⟩ []), (4, .box ⟨.c 24, some b5⟩ [cM 1 (ea)]), (5, .box ⟨.c 24, some b8⟩ [.ar 7 0]), (6, .box ⟨.c 3, some b9⟩ [cI (i : Int)]), (7, .arr 0 3 1 (e2))]⟩) aA rfl ?_
   refine oY hG fB [] [] (.tup []) [(0, .box ⟨.c 213, some b0⟩ [cI p.cls, cI p.least, cI p.most, cS (S p.text)]), (1, .box ⟨.c 9, some b1⟩ [cS (S t)]), (2, .box ⟨.c 3, some b2⟩ [cI (i : Int)]), (3, .box ⟨.raw (.loop (aZ (aK (aK (aN Tryz.f272) [0, 1, 0, 1, 1, 1]) [0, 1, 0, 1, 0, 0, 1]) [0, 1, 1, 1, 0, 0, 1, 1] fn tm D)), some l⟩ []), (4, .box ⟨.c 24, some b5⟩ [cM 1 (ea)]), (5, .box ⟨.c 24, some b8⟩ [.ar 7 0]), (6, .box ⟨.c 3, some b9⟩ [cI (i : Int)]), (7, .arr 0 3 1 (e2))] (by kernel_rfl) aA ?_ ?_
   ·rfl
   ·have hE : e2 = intsD (hx.set i (cP p t af i)) := by
     have hce := m8 (l := t) (af := af) (i := i) hc1
     have h9 := mx_out (p := p) (l := t) (af := af) (m := mm) hij (by omega)
     rw [he2, hce, ← hmx, h9]
    rw [hE]
    all_goals (first | rfl | (funext i; simp only [a8, upd]; ((repeat' split) <;> first | rfl | (exfalso; omega))))
theorem ends_ok (p : Pc) (t : List UInt8) (i : Int) :
  SpG g 337 [.agg [cI p.cls, cI p.least, cI p.most, cS (S p.text)], .c (cS (S t)), .c (cI i)] [] (.c (.fn 370 [] [(100, 0), (101, 0), (102, 0)])) [(102, .box 3 [cI i]), (101, .box 9 [cS (S t)]), (100, .box 213 [cI p.cls, cI p.least, cI p.most, cS (S p.text)])] := by
 refine aL 8 Tryz.func337 (by kernel_rfl) fun fr hG => ?_
 exact zr hG [] [100, 101, 102] aA
def q6 := And.intro @List.length_map.{0, 0} (And.intro @aJ (And.intro @and_true (And.intro @Go.Eng.inR.eq_1 (And.intro @maxLen.eq_1 (@true_and)))))
theorem pD (ps : List Pc) (t : List UInt8) (ht : t.length ≤ 1000000) (hps : ∀ p, p ∈ ps → p.text.length ≤ 1000) :
  SpG g 272 [.c (cM 4 (bJ ps)), .c (cS (S t))] [] (.c (cM 1 (intsD (aG t ps)))) [] := by
 have hpl : (bJ ps).length = ps.length := by simp [bJ]
 have hzl : (List.replicate (((S t).size : Int) + 1 : Int).toNat [V.D.i 0]).length = t.length + 1 := by rw [List.length_replicate, aJ]; omega
 refine aID 67 Tryz.func272 (by kernel_rfl) fun fr hG => ?_
 refine stepF hG ?_
 have hG0 := hG
 replace hG := aHZ hG
 refine cT 0 rfl fun hlp => ?_
 refine zL hG [(1, 3, .mask [none])] [0, 1, 0, 1, 1] (fun (zz : Nat × List (List V.D)) => match zz with | (i, e0) => (t.length + 1 - i, ⟨[zM 0 4 (bJ ps), zS 1 (S t), zN 4, zX 5 204 0, zI 16 ((List.replicate (((S t).size : Int) + 1 : Int).toNat [V.D.i 0]).length : Int), zI 17 (i : Int)], [(203, .arr 0 3 1 (e0)), (204, .box 24 [.ar 203 0])]⟩, i ≤ t.length + 1 ∧ e0 = intsD ((List.range i).map (fun q : Nat => (q : Int)) ++ List.replicate (t.length + 1 - i) 0))) (0, List.replicate (((S t).size : Int) + 1 : Int).toNat [V.D.i 0]) (aB (by intros; (try simp only [q6, bJ] at *); first | decide | omega | (refine ⟨?_, ?_, ?_, ?_⟩ <;> omega) : inR (((S t).size : Int) + 1)) (aD (by intros; (try simp only [q6, bJ] at *); first | decide | omega | (refine ⟨?_, ?_, ?_, ?_⟩ <;> omega) : (0 : Int) ≤ (((S t).size : Int) + 1) ∧ (((S t).size : Int) + 1) = (((S t).size : Int) + 1) ∧ ((8 : Nat) : Int) * (((S t).size : Int) + 1) ≤ 281474976710656 ∧ (((S t).size : Int) + 1) ≤ 9223372036854775807))) ?_ ?_
 exact ⟨Nat.zero_le _, by rw [show (((S t).size : Int) + 1 : Int).toNat = t.length + 1 by rw [aJ]; omega]; simp [intsD, intD]⟩
 rintro ⟨i, e0⟩ ⟨hi, he0⟩
 have hl0 : e0.length = t.length + 1 := by rw [he0]; simp [intsD]; omega
 refine zp hG [] [0, 1] (((i : Int) : Int) < ((List.replicate (((S t).size : Int) + 1 : Int).toNat [V.D.i 0]).length : Int)) aA (fun hc2 => ?_) (fun hc2 => ?_)
 skip
 refine zD hG [] (i + 1, e0.set i [V.D.i (i : Int)]) (aB (by intros; (try simp only [q6, bJ] at *); first | decide | omega | (refine ⟨?_, ?_, ?_, ?_⟩ <;> omega) : (0 : Int) ≤ (i : Int) ∧ (i : Int) < ((e0).length : Int)) (aD (by intros; (try simp only [q6, bJ] at *); first | decide | omega | (refine ⟨?_, ?_, ?_, ?_⟩ <;> omega) : inR ((i : Int) + 1)))) ?_ ?_
 (try dsimp only); omega
 refine ⟨by omega, ?_⟩
 rw [he0, lD, vY _ _ (by omega)]
 skip
 refine zE hG [] (.exit 0) (⟨[zM 0 4 (bJ ps), zS 1 (S t), zN 4, zX 5 204 0], [(203, .arr 0 3 1 (e0)), (204, .box 24 [.ar 203 0])]⟩) aA rfl ?_
 refine zL hG [] [0, 1, 0, 1, 1, 1] (fun (zz : Int × List (List V.D)) => match zz with | (q, ea) => ((q + 1).toNat, ⟨[zM 0 4 (bJ ps), zS 1 (S t), zN 4, zX 5 204 0, zI 7 q], [(204, .box 24 [cM 1 (ea)])]⟩, (-1 ≤ q ∧ q < ps.length) ∧ ea = intsD (aG t (ps.drop (q + 1).toNat)))) ((((bJ ps).length : Int) - 1), e0) (aD (by intros; (try simp only [q6, bJ] at *); first | decide | omega | (refine ⟨?_, ?_, ?_, ?_⟩ <;> omega) : inR (((bJ ps).length : Int) - 1))) ?_ ?_
 refine ⟨by omega, ?_⟩
 rw [he0, show t.length + 1 - i = 0 by omega, show i = t.length + 1 by omega, show (((bJ ps).length : Int) - 1 + 1).toNat = ps.length by omega, List.drop_length]
 simp [aG]
 rintro ⟨q, ea⟩ ⟨hq, hea⟩
 refine zp hG [] [1, 0] ((q : Int) ≥ 0) aA (fun hc4 => ?_) (fun hc4 => ?_)
 skip
 refine zL hG [(10, 3, .mask [none])] [0, 1, 0, 1, 0, 0, 1] (fun (zz : Nat × List (List V.D)) => match zz with | (i, eh) => (t.length + 1 - i, ⟨[zM 0 4 (bJ ps), zS 1 (S t), zN 4, zX 5 204 0, zI 7 q, zX 8 1104 0, zI 37 ((List.replicate (((S t).size : Int) + 1 : Int).toNat [V.D.i 0]).length : Int), zI 38 (i : Int)], [(204, .box 24 [cM 1 (ea)]), (1103, .arr 0 3 1 (eh)), (1104, .box 24 [.ar 1103 0])]⟩, i ≤ t.length + 1 ∧ eh = intsD ((List.range i).map (cP (ps.getD (q : Int).toNat Pc.z) t (aG t (ps.drop (q + 1).toNat))) ++ List.replicate (t.length + 1 - i) 0))) (0, List.replicate (((S t).size : Int) + 1 : Int).toNat [V.D.i 0]) (aB (by intros; (try simp only [q6, bJ] at *); first | decide | omega | (refine ⟨?_, ?_, ?_, ?_⟩ <;> omega) : inR (((S t).size : Int) + 1)) (aD (by intros; (try simp only [q6, bJ] at *); first | decide | omega | (refine ⟨?_, ?_, ?_, ?_⟩ <;> omega) : (0 : Int) ≤ (((S t).size : Int) + 1) ∧ (((S t).size : Int) + 1) = (((S t).size : Int) + 1) ∧ ((8 : Nat) : Int) * (((S t).size : Int) + 1) ≤ 281474976710656 ∧ (((S t).size : Int) + 1) ≤ 9223372036854775807))) ?_ ?_
 exact ⟨Nat.zero_le _, by rw [show (((S t).size : Int) + 1 : Int).toNat = t.length + 1 by rw [aJ]; omega]; simp [intsD, intD]⟩
 rintro ⟨i, eh⟩ ⟨hi, heh⟩
 have hl2 : eh.length = t.length + 1 := by rw [heh]; simp [intsD]; omega
 refine zp hG [] [0, 1] (((i : Int) : Int) < ((List.replicate (((S t).size : Int) + 1 : Int).toNat [V.D.i 0]).length : Int)) aA (fun hc6 => ?_) (fun hc6 => ?_)
 skip
 refine rI hG fB [(15, 2, .elem (pcD ((ps).getD (q : Int).toNat Pc.z))), (15, 6, .call (.c (.fn 370 [] [(100, 0), (101, 0), (102, 0)])) [(102, .box 3 [cI (i : Int)]), (101, .box 9 [cS (S t)]), (100, .box 213 [cI (((ps).getD (q : Int).toNat Pc.z).cls), cI (((ps).getD (q : Int).toNat Pc.z).least), cI (((ps).getD (q : Int).toNat Pc.z).most), cS (S ((ps).getD (q : Int).toNat Pc.z).text)])] [])] [0, 1, 1, 1, 0, 0, 1, 1] (⟨[zM 0 4 (bJ ps), zS 1 (S t), zN 4, zX 5 204 0, zI 7 q, zX 8 1104 0, zX 9 1401 0, zI 37 ((List.replicate (((S t).size : Int) + 1 : Int).toNat [V.D.i 0]).length : Int), zI 38 (i : Int), (50, [], .c (.fn 370 [] [(1606, 0), (1607, 0), (1608, 0)]))], [(204, .box 24 [cM 1 (ea)]), (1103, .arr 0 3 1 ((eh).set i [.i (-1)])), (1104, .box 24 [.ar 1103 0]), (1401, .box 3 [cI (i : Int)]), (1606, .box 213 [cI (((ps).getD (q : Int).toNat Pc.z).cls), cI (((ps).getD (q : Int).toNat Pc.z).least), cI (((ps).getD (q : Int).toNat Pc.z).most), cS (S ((ps).getD (q : Int).toNat Pc.z).text)]), (1607, .box 9 [cS (S t)]), (1608, .box 3 [cI (i : Int)])]⟩) _ (by kernel_rfl) (aB (by intros; (try simp only [q6, bJ] at *); first | decide | omega | (refine ⟨?_, ?_, ?_, ?_⟩ <;> omega) : (0 : Int) ≤ (i : Int) ∧ (i : Int) < ((eh).length : Int)) (aB (by intros; exact aT _ (by omega) (by (try simp only [bJ, List.length_map] at *); omega) : (0 : Int) ≤ q ∧ (bJ ps)[(q : Int).toNat]? = some (pcD ((ps).getD (q : Int).toNat Pc.z))) (aD (ends_ok (ps.getD (q : Int).toNat Pc.z) t i : SpG g _ _ _ _ _)))) ?_
 refine rangeF (g := 50) (ps := rgP (aK (aK (aN Tryz.f272) [0, 1, 0, 1, 1, 1]) [0, 1, 0, 1, 0, 0, 1]) [0, 1, 1, 1, 0, 0, 1, 1]) (assign := rgA (aK (aK (aN Tryz.f272) [0, 1, 0, 1, 1, 1]) [0, 1, 0, 1, 0, 0, 1]) [0, 1, 1, 1, 0, 0, 1, 1]) (body := rgB (aK (aK (aN Tryz.f272) [0, 1, 0, 1, 1, 1]) [0, 1, 0, 1, 0, 0, 1]) [0, 1, 1, 1, 0, 0, 1, 1]) hG rfl (by kernel_rfl) 9900 9901 9910 (by kernel_rfl) rfl (by kernel_rfl) fun b D l fn tm hT hn => ?_
 refine ⟨.tup [], [1606, 1607, 1608, 9901, 204, 1104, 1401, 1103], [(0, .box ⟨.c 213, some (b 1606)⟩ [cI ((ps.getD (q : Int).toNat Pc.z).cls), cI ((ps.getD (q : Int).toNat Pc.z).least), cI ((ps.getD (q : Int).toNat Pc.z).most), cS (S (ps.getD (q : Int).toNat Pc.z).text)]), (1, .box ⟨.c 9, some (b 1607)⟩ [cS (S t)]), (2, .box ⟨.c 3, some (b 1608)⟩ [cI (i : Int)]), (3, .box ⟨.raw (.loop (aZ (aK (aK (aN Tryz.f272) [0, 1, 0, 1, 1, 1]) [0, 1, 0, 1, 0, 0, 1]) [0, 1, 1, 1, 0, 0, 1, 1] fn tm D)), some l⟩ []), (4, .box ⟨.c 24, some (b 204)⟩ [cM 1 (ea)]), (5, .box ⟨.c 24, some (b 1104)⟩ [.ar 7 0]), (6, .box ⟨.c 3, some (b 1401)⟩ [cI (i : Int)]), (7, .arr 0 3 1 (intsD ((((List.range i).map (cP (ps.getD (q : Int).toNat Pc.z) t (aG t (ps.drop (q + 1).toNat))) ++ List.replicate (t.length + 1 - i) 0).set i (-1)).set i (cP (ps.getD (q : Int).toNat Pc.z) t (aG t (ps.drop (q + 1).toNat)) i))))], none, ⟨[zM 0 4 (bJ ps), zS 1 (S t), zN 4, zX 5 204 0, zI 7 q, zX 8 1104 0, zI 37 ((List.replicate (((S t).size : Int) + 1 : Int).toNat [V.D.i 0]).length : Int), zI 38 (i : Int)], [(204, .box 24 [cM 1 (ea)]), (1103, .arr 0 3 1 (intsD ((((List.range i).map (cP (ps.getD (q : Int).toNat Pc.z) t (aG t (ps.drop (q + 1).toNat))) ++ List.replicate (t.length + 1 - i) 0).set i (-1)).set i (cP (ps.getD (q : Int).toNat Pc.z) t (aG t (ps.drop (q + 1).toNat)) i)))), (1104, .box 24 [.ar 1103 0])]⟩, _, .normal, by kernel_rfl, by kernel_rfl, aD (endsIt (b 1606) (b 1607) (b 1608) (b 204) (b 1104) (b 1401) D l fn tm (hT.bx 5 204 0 rfl) (hT.bx 8 1104 0 rfl) (hT.bx 9 1401 0 rfl) hn (((List.range i).map (cP (ps.getD (q : Int).toNat Pc.z) t (aG t (ps.drop (q + 1).toNat))) ++ List.replicate (t.length + 1 - i) 0).set i (-1)) (aG t (ps.drop (q + 1).toNat)) i (by simp; omega) ea hea (ps.getD (q : Int).toNat Pc.z) t (eh.set i [V.D.i (-1)]) (by rw [heh, lD]) (kF _ _ _ (by simp; omega)) ht (eE _ _) (by omega) (hps _ (p7 (by omega))) : SpG g _ _ _ _ _), rfl, ?_⟩
 refine zD hG [] (i + 1, intsD ((((List.range i).map (cP (ps.getD (q : Int).toNat Pc.z) t (aG t (ps.drop (q + 1).toNat))) ++ List.replicate (t.length + 1 - i) 0).set i (-1)).set i (cP (ps.getD (q : Int).toNat Pc.z) t (aG t (ps.drop (q + 1).toNat)) i))) (aD (by intros; (try simp only [q6, bJ] at *); first | decide | omega | (refine ⟨?_, ?_, ?_, ?_⟩ <;> omega) : inR ((i : Int) + 1))) ?_ ?_
 (try dsimp only); omega
 refine ⟨by omega, ?_⟩
 rw [List.set_set, vY _ _ (by omega)]
 skip
 refine zE hG [] (.exit 4) (⟨[zM 0 4 (bJ ps), zS 1 (S t), zN 4, zX 5 204 0, zI 7 q, zX 8 1104 0], [(204, .box 24 [cM 1 (ea)]), (1103, .arr 0 3 1 (eh)), (1104, .box 24 [.ar 1103 0])]⟩) aA rfl ?_
 refine zD hG [] (q - 1, eh) (aD (by intros; (try simp only [q6, bJ] at *); first | decide | omega | (refine ⟨?_, ?_, ?_, ?_⟩ <;> omega) : inR (q - 1))) ?_ ?_
 (try dsimp only); omega
 refine ⟨by omega, ?_⟩
 rw [heh, show t.length + 1 - i = 0 by omega, show i = t.length + 1 by omega, yZ ps t q (by omega) (by omega)]
 simp [aF1]
 skip
 refine zE hG [] (.exit 2) (⟨[zN 4, zX 5 204 0], [(204, .box 24 [cM 1 (ea)])]⟩) aA rfl ?_
 refine stepRF hG0 fB [] [] (.c (cM 1 (ea))) [] (by kernel_rfl) aA ?_ ?_
 rw [hea, show (q + 1).toNat = 0 by omega, List.drop_zero]
 rfl
end Go.Proofs.YtdejnaokkdndeaaGreatDoor
