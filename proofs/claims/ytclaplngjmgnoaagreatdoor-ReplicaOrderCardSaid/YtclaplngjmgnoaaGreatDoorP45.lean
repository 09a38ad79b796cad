/- Part 45 of the proof: texts U34e, U34f, U34g, V34c, V34b, V34d. -/
import Derived.Test.YtclaplngjmgnoaaGreatDoorP29
import Derived.Test.YtclaplngjmgnoaaGreatDoorP32
import Derived.Test.YtclaplngjmgnoaaGreatDoorP44
set_option linter.all false
namespace Go.Proofs.YtclaplngjmgnoaaGreatDoor
set_option maxRecDepth 100000
open Go.RowKit Go.V
structure Ms where
 f : Int
 t : Int
 m : RS
def Ms.z : Ms := ⟨0, 0, []⟩
def MsD (m : Ms) : List D := [.i m.f, .i m.t, .s (S (aI m.m))]
def aY (l : List Ms) : LD := l.map MsD
theorem aEV : ∀ {l U : List (List UInt8)}, l.Nodup -> (∀ x, x ∈ l -> x ∈ U) -> l.length <= U.length
 | [], U, _, _ => Nat.zero_le _
 | x :: r, U, hn, hs => by
  rw [List.nodup_cons] at hn
  have hx := hs x List.mem_cons_self
  have h1 := aEV (l := r) (U := U.erase x) hn.2 fun y hy => (List.mem_erase_of_ne (by rintro rfl; exact hn.1 hy)).2 (hs y (List.mem_cons_of_mem _ hy))
  rw [List.length_erase_of_mem hx] at h1
  have := List.length_pos_of_mem hx
  simp only [List.length_cons]; omega
structure KOk (U : List (List UInt8)) (e : RS) : Prop where
 rs : RsOk 3 e
 sub : ∀ x, x ∈ e -> x.1 ∈ U
theorem KOk.len {U : List (List UInt8)} {e : RS} (h : KOk U e) : e.length <= U.length := by
 have := aEV h.rs.sort.nodup (U := U) fun x hx => by
  obtain ⟨y, hy, rfl⟩ := List.mem_map.1 hx
  exact h.sub y hy
 simpa using this
theorem KOk.up {U : List (List UInt8)} {e : RS} (h : KOk U e) (t : List UInt8) : KOk (t :: U) e := ⟨h.rs, fun x hx => List.mem_cons_of_mem _ (h.sub x hx)⟩
theorem aFU (U : List (List UInt8)) : KOk U [] := ⟨rs0 3, by simp⟩
def Gr (a b : RS) : Prop := ∀ t w, lkM t a = some w -> ∃ w', lkM t b = some w' /\ (w = true -> w' = true)
theorem bB (a : RS) : Gr a a := fun t w h => ⟨w, h, id⟩
theorem aD4 {U : List (List UInt8)} {e : RS} {a : Int} {i : It} (h : KOk U e) (hU : U.length <= 100) (hi : ItOk i) (ha : i.author = a) (h1 : 1 <= a) (h3 : a <= 3) : KOk (itT i :: U) (eG a e i) /\ Gr e (eG a e i) := by
 unfold eG
 split
 rename_i he
 have hn : lkM (itT i) e = none := by
  cases hl : lkM (itT i) e with
  | none => rfl
  | some w =>
   rw [eH, if_pos ha, if_pos (by rw [hl]; rfl)] at he
   exact absurd he (by decide)
 obtain ⟨u1, u2, u3, u4⟩ := qH (k := itT i) (v := false) h.rs.sort
 have hl := h.len
 have hk2 : ∀ x, x ∈ bX ltS (itT i) false e -> x.1 = itT i \/ ∃ y, y ∈ e /\ y.1 = x.1 := by
  intro x hx
  rcases (u2 x.1).1 (List.mem_map_of_mem hx) with e | hm
  exact .inl e
  obtain ⟨y, hy, e⟩ := List.mem_map.1 hm
  exact .inr ⟨y, hy, e⟩
 refine ⟨⟨⟨u1, by omega, fun x hx => ?_, fun x hx => ?_⟩, fun x hx => ?_⟩, fun t w ht => ⟨w, ?_, id⟩⟩
 rcases hk2 x hx with e | ⟨y, hy, e⟩
 rw [e]; exact ⟨i, hi, rfl⟩
 rw [<- e]; exact h.rs.it y hy
 rcases hk2 x hx with e | ⟨y, hy, e⟩
 rw [e, xO hi]; omega
 rw [<- e]; exact h.rs.au y hy
 rcases hk2 x hx with e | ⟨y, hy, e⟩
 rw [e]; exact List.mem_cons_self
 rw [<- e]; exact List.mem_cons_of_mem _ (h.sub y hy)
 rw [jW, if_neg (fun e => by rw [e, hn] at ht; cases ht)]; exact ht
 exact ⟨h.up _, bB e⟩
theorem wd_k {U : List (List UInt8)} {e : RS} (h : KOk U e) (id : Int) : KOk U (wdR id e) /\ Gr e (wdR id e) := by
 refine ⟨⟨wdR_ok h.rs id, fun x hx => ?_⟩, fun t w ht => ?_⟩
 have := (aJQ h.rs id e.length (Nat.le_refl _)).2.1 x.1
 obtain ⟨y, hy, e⟩ := List.mem_map.1 (this.1 (List.mem_map_of_mem hx))
 rw [<- e]; exact h.sub y hy
 rw [wdR_lk h.rs]
 split
 exact ⟨true, rfl, fun _ => rfl⟩
 exact ⟨w, ht, fun h => h⟩
theorem aFO {a b : RS} (ha : kSort a) (hb : kSort b) (t : List UInt8) : lkM t (jnV a b) = orO (lkM t a) (lkM t b) := (aFW ha b hb.nodup).2.1 t
theorem aMJ {U : List (List UInt8)} {a b : RS} (ha : KOk U a) (hb : KOk U b) (hU : U.length <= 100) : KOk U (jnV a b) /\ Gr a (jnV a b) := by
 have h1 := ha.len
 have h2 := hb.len
 refine ⟨⟨aMH ha.rs hb.rs (by omega), fun x hx => ?_⟩, fun t w ht => ?_⟩
 have hx2 := (lk_some_mem (k := x.1)).2 (List.mem_map_of_mem hx)
 rw [aFO ha.rs.sort hb.rs.sort] at hx2
 cases h3 : lkM x.1 a with
 | some w => exact ha.sub (x.1, w) ((aMA ha.rs.sort).1 h3)
 | none =>
  rw [h3] at hx2
  cases h4 : lkM x.1 b with
  | some w => exact hb.sub (x.1, w) ((aMA hb.rs.sort).1 h4)
  | none => rw [h4] at hx2; cases hx2
 rw [aFO ha.rs.sort hb.rs.sort, ht]
 cases h4 : lkM t b with
 | some w' => exact ⟨w || w', rfl, fun h => by rw [h]; rfl⟩
 | none => exact ⟨w, rfl, fun h => h⟩
structure MsOk (U : List (List UInt8)) (m : Ms) : Prop where
 k : KOk U m.m
 f1 : 1 <= m.f
 f3 : m.f <= 3
 t1 : 1 <= m.t
 t3 : m.t <= 3
 ne : ¬ m.f = m.t
theorem MsOk.up {U : List (List UInt8)} {m : Ms} (h : MsOk U m) (t : List UInt8) : MsOk (t :: U) m := ⟨h.k.up t, h.f1, h.f3, h.t1, h.t3, h.ne⟩
structure WOk (k : Nat) (U : List (List UInt8)) (e1 e2 e3 : RS) (ms : List Ms) : Prop where
 ul : U.length <= k
 k1 : KOk U e1
 k2 : KOk U e2
 k3 : KOk U e3
 mo : ∀ m, m ∈ ms -> MsOk U m
 ml : ms.length <= 2 * k
theorem w_0 : WOk 0 [] [] [] [] [] := ⟨by simp, aFU _, aFU _, aFU _, by simp, by simp⟩
theorem WOk.next {k : Nat} {U : List (List UInt8)} {e1 e2 e3 : RS} {ms : List Ms} (h : WOk k U e1 e2 e3 ms) : WOk (k + 1) U e1 e2 e3 ms := ⟨by have := h.ul; omega, h.k1, h.k2, h.k3, h.mo, by have := h.ml; omega⟩
end Go.Proofs.YtclaplngjmgnoaaGreatDoor
namespace Go.Proofs.YtclaplngjmgnoaaGreatDoor
open Go.RowKit Go.V
variable {g : Gv}
def mdL (n m : Int) : Int := (n.tmod m + m).tmod m
theorem i6 (n : Int) {m : Int} (h : 0 < m) : 0 <= mdL n m /\ mdL n m < m := by
 unfold mdL
 have h1 := Int.tmod_lt_of_pos n h
 have h2 : -m < n.tmod m := by
  have := Int.lt_tmod_of_pos n h
  omega
 exact ⟨Int.tmod_nonneg _ (by omega), Int.tmod_lt_of_pos _ h⟩
theorem bG (n m : Int) (h : 0 < m) (hm : m <= 1000000) : SpM g n m (mdL n m) := by
 have h1 := Int.tmod_lt_of_pos n h
 have h2 : -m < n.tmod m := by
  have := Int.lt_tmod_of_pos n h
  omega
 exact lmodX n m ⟨(show m ≠ 0 by omega), (by unfold Go.Eng.inR; omega), (show m ≠ 0 by omega)⟩
theorem cX {n m v : Int} (h : 0 < m) (hm : m <= 1000000) (e : mdL n m = v) : SpM g n m v := e ▸ bG n m h hm
theorem aN6 : V.Spec Tryz.prog (Gl g) 11 [] [] (.tup [(false, [.bx 100 0]), (false, [cB true])]) bO := beginX ⟨iE 3 3 (by decide), iE 2 3 (by decide), iE 1 3 (by decide)⟩
theorem gU (a b : List Ms) : aY (a ++ b) = aY a ++ aY b := by simp [aY]
theorem mA (a : List Ms) : (aY a).length = a.length := by simp [aY]
def rpL (a f : Int) (es ms : RS) : List Ms := bif dQ es ms then [⟨a, f, jnV es ms⟩] else []
theorem gP (a f : Int) (es ms : RS) (hes : RsOk 3 es) (hms : RsOk 3 ms) (hl : es.length + ms.length <= 4000) (hf1 : 1 <= f) (hf2 : f <= 3) (hfa : ¬ f = a) : SpR g 19 a [.agg [cI f, cI a, cS (S (aI ms))]] es (.c (cM 3 (aY (rpL a f es ms)))) (jnV es ms) := by
 unfold rpL
 cases h : dQ es ms with
 | true => exact tK a 3 f es ms hes hms hl hf1 hf2 hfa h
 | false => exact aKP [some 3] (tM a 3 f es ms hes hms hl hf1 hf2 hfa h)
theorem wD {k : Nat} {ms : List Ms} (hk : k <= 60) (h : ms.length <= 2 * k) {c : Nat} (hc : c <= 10) : ((aY ms).length + c) * (32 + 1) <= 140737488355328 := by rw [mA]; omega
theorem do_give (what who n : Int) (l : List Int) (hl : NumOk l 0) {k : Nat} {U : List (List UInt8)} {e1 e2 e3 : RS} {ms : List Ms} (h : WOk k U e1 e2 e3 ms) (hk : k <= 60) (hw : mdL what 8 < 2) : ∃ U' f1 f2 f3 ns, WOk (k + 1) U' f1 f2 f3 ns /\ Gr e1 f1 /\ Gr e2 f2 /\ Gr e3 f3 /\ DoS g what who n l e1 e2 e3 (aY ms) f1 f2 f3 (aY ns) := by
 have hp := i6 who (m := 3) (by decide)
 have hU := h.ul
 have hq : mdL who 3 = 0 \/ mdL who 3 = 1 \/ mdL who 3 = 2 := by omega
 rcases hq with hq | hq | hq
 obtain ⟨it, hit, -, hau, hs⟩ := lJ (g := g) what who n 1 l hl ⟨by decide, by decide⟩
 obtain ⟨a1, a2⟩ := aD4 h.k1 (by omega) hit hau (by decide) (by decide)
 exact ⟨itT it :: U, eG 1 e1 it, e2, e3, ms, ⟨by simp; omega, a1, h.k2.up _, h.k3.up _, fun m hm => (h.mo m hm).up _, by have := h.ml; omega⟩, a2, bB _, bB _, doG0 what who n l e1 e2 e3 (aY ms) _ _ it _ ⟨hs, p5 1 3 e1 it h.k1.rs hit, decide_eq_true hw, bG what 8 (by decide) (by decide), cX (by decide) (by decide) hq⟩⟩
 obtain ⟨it, hit, -, hau, hs⟩ := lJ (g := g) what who n 2 l hl ⟨by decide, by decide⟩
 obtain ⟨a1, a2⟩ := aD4 h.k2 (by omega) hit hau (by decide) (by decide)
 exact ⟨itT it :: U, e1, eG 2 e2 it, e3, ms, ⟨by simp; omega, h.k1.up _, a1, h.k3.up _, fun m hm => (h.mo m hm).up _, by have := h.ml; omega⟩, bB _, a2, bB _, doG1 what who n l e1 e2 e3 (aY ms) _ _ it _ ⟨hs, p5 2 3 e2 it h.k2.rs hit, decide_eq_true hw, bG what 8 (by decide) (by decide), cX (by decide) (by decide) hq⟩⟩
 obtain ⟨it, hit, -, hau, hs⟩ := lJ (g := g) what who n 3 l hl ⟨by decide, by decide⟩
 obtain ⟨a1, a2⟩ := aD4 h.k3 (by omega) hit hau (by decide) (by decide)
 exact ⟨itT it :: U, e1, e2, eG 3 e3 it, ms, ⟨by simp; omega, h.k1.up _, h.k2.up _, a1, fun m hm => (h.mo m hm).up _, by have := h.ml; omega⟩, bB _, bB _, a2, doG2 what who n l e1 e2 e3 (aY ms) _ _ it _ ⟨hs, p5 3 3 e3 it h.k3.rs hit, decide_eq_true hw, bG what 8 (by decide) (by decide), cX (by decide) (by decide) hq⟩⟩
theorem aBO (what who n : Int) (l : List Int) {k : Nat} {U : List (List UInt8)} {e1 e2 e3 : RS} {ms : List Ms} (h : WOk k U e1 e2 e3 ms) (hk : k <= 60) (hw : mdL what 8 = 2) : ∃ U' f1 f2 f3 ns, WOk (k + 1) U' f1 f2 f3 ns /\ Gr e1 f1 /\ Gr e2 f2 /\ Gr e3 f3 /\ DoS g what who n l e1 e2 e3 (aY ms) f1 f2 f3 (aY ns) := by
 have hp := i6 who (m := 3) (by decide)
 have hv := i6 n (m := 4) (by decide)
 have hU := h.ul
 have hq : mdL who 3 = 0 \/ mdL who 3 = 1 \/ mdL who 3 = 2 := by omega
 rcases hq with hq | hq | hq
 obtain ⟨a1, a2⟩ := wd_k h.k1 (1 + mdL n 4)
 exact ⟨U, _, e2, e3, ms, ⟨by omega, a1, h.k2, h.k3, h.mo, by have := h.ml; omega⟩, a2, bB _, bB _, doW0 what who n l e1 e2 e3 (aY ms) _ _ _ ⟨bG n 4 (by decide) (by decide), (by unfold Go.Eng.inR; omega), gE 1 3 _ e1 h.k1.rs, cX (by decide) (by decide) hw, cX (by decide) (by decide) hq⟩⟩
 obtain ⟨a1, a2⟩ := wd_k h.k2 (1 + mdL n 4)
 exact ⟨U, e1, _, e3, ms, ⟨by omega, h.k1, a1, h.k3, h.mo, by have := h.ml; omega⟩, bB _, a2, bB _, doW1 what who n l e1 e2 e3 (aY ms) _ _ _ ⟨bG n 4 (by decide) (by decide), (by unfold Go.Eng.inR; omega), gE 2 3 _ e2 h.k2.rs, cX (by decide) (by decide) hw, cX (by decide) (by decide) hq⟩⟩
 obtain ⟨a1, a2⟩ := wd_k h.k3 (1 + mdL n 4)
 exact ⟨U, e1, e2, _, ms, ⟨by omega, h.k1, h.k2, a1, h.mo, by have := h.ml; omega⟩, bB _, bB _, a2, doW2 what who n l e1 e2 e3 (aY ms) _ _ _ ⟨bG n 4 (by decide) (by decide), (by unfold Go.Eng.inR; omega), gE 3 3 _ e3 h.k3.rs, cX (by decide) (by decide) hw, cX (by decide) (by decide) hq⟩⟩
theorem do_tick (what who n : Int) (l : List Int) {k : Nat} {U : List (List UInt8)} {e1 e2 e3 : RS} {ms : List Ms} (h : WOk k U e1 e2 e3 ms) (hk : k <= 60) (hw : mdL what 8 = 3) : ∃ U' f1 f2 f3 ns, WOk (k + 1) U' f1 f2 f3 ns /\ Gr e1 f1 /\ Gr e2 f2 /\ Gr e3 f3 /\ DoS g what who n l e1 e2 e3 (aY ms) f1 f2 f3 (aY ns) := by
 have hp := i6 who (m := 3) (by decide)
 have hU := h.ul
 have hm := h.ml
 have hq : mdL who 3 = 0 \/ mdL who 3 = 1 \/ mdL who 3 = 2 := by omega
 have two : ∀ (a b c : Int) (e : RS), KOk U e -> 1 <= a -> a <= 3 -> 1 <= b -> b <= 3 -> 1 <= c -> c <= 3 -> ¬ a = b -> ¬ a = c -> ∀ m, m ∈ ms ++ [⟨a, b, e⟩, ⟨a, c, e⟩] -> MsOk U m := by
  intro a b c e he h1 h2 h3 h4 h5 h6 h7 h8 m hm
  simp only [List.mem_append, List.mem_cons, List.not_mem_nil, or_false] at hm
  rcases hm with hm | rfl | rfl
  exact h.mo m hm
  exact ⟨he, h1, h2, h3, h4, h7⟩
  exact ⟨he, h1, h2, h5, h6, h8⟩
 rcases hq with hq | hq | hq
 refine ⟨U, e1, e2, e3, ms ++ [⟨1, 2, e1⟩, ⟨1, 3, e1⟩], ⟨by omega, h.k1, h.k2, h.k3, two 1 2 3 e1 h.k1 (by decide) (by decide) (by decide) (by decide) (by decide) (by decide) (by decide) (by decide), by simp; omega⟩, bB _, bB _, bB _, ?_⟩
 rw [gU]
 exact doT0 what who n l e1 e2 e3 (aY ms) _ ⟨nE 1 3 e1 _ h.k1.rs (by decide) (by decide) rfl, wD hk hm (by decide), cX (by decide) (by decide) hw, cX (by decide) (by decide) hq⟩
 refine ⟨U, e1, e2, e3, ms ++ [⟨2, 1, e2⟩, ⟨2, 3, e2⟩], ⟨by omega, h.k1, h.k2, h.k3, two 2 1 3 e2 h.k2 (by decide) (by decide) (by decide) (by decide) (by decide) (by decide) (by decide) (by decide), by simp; omega⟩, bB _, bB _, bB _, ?_⟩
 rw [gU]
 exact doT1 what who n l e1 e2 e3 (aY ms) _ ⟨nE 2 3 e2 _ h.k2.rs (by decide) (by decide) rfl, wD hk hm (by decide), cX (by decide) (by decide) hw, cX (by decide) (by decide) hq⟩
 refine ⟨U, e1, e2, e3, ms ++ [⟨3, 1, e3⟩, ⟨3, 2, e3⟩], ⟨by omega, h.k1, h.k2, h.k3, two 3 1 2 e3 h.k3 (by decide) (by decide) (by decide) (by decide) (by decide) (by decide) (by decide) (by decide), by simp; omega⟩, bB _, bB _, bB _, ?_⟩
 rw [gU]
 exact doT2 what who n l e1 e2 e3 (aY ms) _ ⟨nE 3 3 e3 _ h.k3.rs (by decide) (by decide) rfl, wD hk hm (by decide), cX (by decide) (by decide) hw, cX (by decide) (by decide) hq⟩
theorem do_take (what who n : Int) (l : List Int) {k : Nat} {U : List (List UInt8)} {e1 e2 e3 : RS} {ms : List Ms} (h : WOk k U e1 e2 e3 ms) (hk : k <= 60) (hw : 3 < mdL what 8) : ∃ U' f1 f2 f3 ns, WOk (k + 1) U' f1 f2 f3 ns /\ Gr e1 f1 /\ Gr e2 f2 /\ Gr e3 f3 /\ DoS g what who n l e1 e2 e3 (aY ms) f1 f2 f3 (aY ns) := by
 have hU := h.ul
 have hm := h.ml
 by_cases h0 : ms = []
 ·subst h0
  exact ⟨U, e1, e2, e3, [], h.next, bB _, bB _, bB _, doN what who n l e1 e2 e3 _ _ ⟨decide_eq_false (by omega), decide_eq_false (by omega), decide_eq_false (by omega), bG what 8 (by decide) (by decide), bG who 3 (by decide) (by decide)⟩⟩
 ·have hlen : 0 < ms.length := List.length_pos_iff.2 h0
  have hv := i6 n (m := (ms.length : Int)) (by omega)
  have hat : ms[(mdL n ms.length).toNat]? = some (ms.getD (mdL n ms.length).toNat Ms.z) := by
   rw [List.getD_eq_getElem?_getD, List.getElem?_eq_getElem (by omega)]; rfl
  have hmm := h.mo _ (aR (l := ms) (k := (mdL n ms.length).toNat) (z := Ms.z) (by omega))
  generalize ms.getD (mdL n ms.length).toNat Ms.z = m at hat hmm
  obtain ⟨f, t, M⟩ := m
  have hd : (aY ms)[(mdL n (ms.length : Int)).toNat]? = some (MsD ⟨f, t, M⟩) := by rw [aY, List.getElem?_map, hat]; rfl
  rw [<- mA ms] at hd hv
  have hmd : SpM g n ((aY ms).length : Int) (mdL n ((aY ms).length : Int)) := bG n _ (by omega) (by rw [mA]; omega)
  have ht : t = 1 \/ t = 2 \/ t = 3 := by have := hmm.t1; have := hmm.t3; simp only at *; omega
  have hpos : decide (((aY ms).length : Int) > 0) = true := decide_eq_true (by rw [mA]; omega)
  have hno : ∀ c : Int, c <= 3 -> decide (mdL what 8 = c) = false := fun c hc => decide_eq_false (by omega)
  have hf := hmm.f1
  have hf3 := hmm.f3
  have hne := hmm.ne
  have hkm := hmm.k
  simp only at hf hf3 hne hkm
  have hlm := hkm.len
  rcases ht with rfl | rfl | rfl
  ·have hl := h.k1.len
   obtain ⟨a1, a2⟩ := aMJ h.k1 hkm (by omega)
   have hs := gP (g := g) 1 f e1 M h.k1.rs hkm.rs (by omega) hf hf3 hne
   refine ⟨U, jnV e1 M, e2, e3, ms ++ rpL 1 f e1 M, ⟨by omega, a1, h.k2, h.k3, ?_, ?_⟩, a2, bB _, bB _, ?_⟩
   ·intro m hm
    rcases List.mem_append.1 hm with hm | hm
    ·exact h.mo m hm
    ·unfold rpL at hm
     cases hb : dQ e1 M <;> rw [hb] at hm <;> simp only [cond_true, cond_false, List.mem_cons, List.not_mem_nil, or_false] at hm
     subst hm
     exact ⟨a1, show (1 : Int) <= 1 by decide, show (1 : Int) <= 3 by decide, hf, hf3, fun e => hne e.symm⟩
   ·unfold rpL; cases dQ e1 M <;> simp <;> omega
   ·rw [gU]
    unfold rpL at hs ⊢
    cases hb : dQ e1 M <;> rw [hb] at hs <;> simp only [cond_true, cond_false] at hs ⊢
    ·exact doMA0 what who n l e1 e2 e3 (aY ms) _ _ _ _ _ _ ⟨hs, wD hk hm (by decide), hmd, hv, hd, hpos, hno 3 (by decide), hno 2 (by decide), decide_eq_false (by omega), bG what 8 (by decide) (by decide), bG who 3 (by decide) (by decide)⟩
    ·exact doMB0 what who n l e1 e2 e3 (aY ms) _ _ _ _ _ _ _ ⟨hs, wD hk hm (by decide), hmd, hv, hd, hpos, hno 3 (by decide), hno 2 (by decide), decide_eq_false (by omega), bG what 8 (by decide) (by decide), bG who 3 (by decide) (by decide)⟩
  ·have hl := h.k2.len
   obtain ⟨a1, a2⟩ := aMJ h.k2 hkm (by omega)
   have hs := gP (g := g) 2 f e2 M h.k2.rs hkm.rs (by omega) hf hf3 hne
   refine ⟨U, e1, jnV e2 M, e3, ms ++ rpL 2 f e2 M, ⟨by omega, h.k1, a1, h.k3, ?_, ?_⟩, bB _, a2, bB _, ?_⟩
   ·intro m hm
    rcases List.mem_append.1 hm with hm | hm
    ·exact h.mo m hm
    ·unfold rpL at hm
     cases hb : dQ e2 M <;> rw [hb] at hm <;> simp only [cond_true, cond_false, List.mem_cons, List.not_mem_nil, or_false] at hm
     subst hm
     exact ⟨a1, show (1 : Int) <= 2 by decide, show (2 : Int) <= 3 by decide, hf, hf3, fun e => hne e.symm⟩
   ·unfold rpL; cases dQ e2 M <;> simp <;> omega
   ·rw [gU]
    unfold rpL at hs ⊢
    cases hb : dQ e2 M <;> rw [hb] at hs <;> simp only [cond_true, cond_false] at hs ⊢
    ·exact doMA1 what who n l e1 e2 e3 (aY ms) _ _ _ _ _ _ ⟨hs, wD hk hm (by decide), hmd, hv, hd, hpos, hno 3 (by decide), hno 2 (by decide), decide_eq_false (by omega), bG what 8 (by decide) (by decide), bG who 3 (by decide) (by decide)⟩
    ·exact doMB1 what who n l e1 e2 e3 (aY ms) _ _ _ _ _ _ _ ⟨hs, wD hk hm (by decide), hmd, hv, hd, hpos, hno 3 (by decide), hno 2 (by decide), decide_eq_false (by omega), bG what 8 (by decide) (by decide), bG who 3 (by decide) (by decide)⟩
  ·have hl := h.k3.len
   obtain ⟨a1, a2⟩ := aMJ h.k3 hkm (by omega)
   have hs := gP (g := g) 3 f e3 M h.k3.rs hkm.rs (by omega) hf hf3 hne
   refine ⟨U, e1, e2, jnV e3 M, ms ++ rpL 3 f e3 M, ⟨by omega, h.k1, h.k2, a1, ?_, ?_⟩, bB _, bB _, a2, ?_⟩
   ·intro m hm
    rcases List.mem_append.1 hm with hm | hm
    ·exact h.mo m hm
    ·unfold rpL at hm
     cases hb : dQ e3 M <;> rw [hb] at hm <;> simp only [cond_true, cond_false, List.mem_cons, List.not_mem_nil, or_false] at hm
     subst hm
     exact ⟨a1, show (1 : Int) <= 3 by decide, show (3 : Int) <= 3 by decide, hf, hf3, fun e => hne e.symm⟩
   ·unfold rpL; cases dQ e3 M <;> simp <;> omega
   ·rw [gU]
    unfold rpL at hs ⊢
    cases hb : dQ e3 M <;> rw [hb] at hs <;> simp only [cond_true, cond_false] at hs ⊢
    ·exact doMA2 what who n l e1 e2 e3 (aY ms) _ _ _ _ _ _ ⟨hs, wD hk hm (by decide), hmd, hv, hd, hpos, hno 3 (by decide), hno 2 (by decide), decide_eq_false (by omega), bG what 8 (by decide) (by decide), bG who 3 (by decide) (by decide)⟩
    ·exact doMB2 what who n l e1 e2 e3 (aY ms) _ _ _ _ _ _ _ ⟨hs, wD hk hm (by decide), hmd, hv, hd, hpos, hno 3 (by decide), hno 2 (by decide), decide_eq_false (by omega), bG what 8 (by decide) (by decide), bG who 3 (by decide) (by decide)⟩
theorem do_ok (what who n : Int) (l : List Int) (hl : NumOk l 0) {k : Nat} {U : List (List UInt8)} {e1 e2 e3 : RS} {ms : List Ms} (h : WOk k U e1 e2 e3 ms) (hk : k <= 60) : ∃ U' f1 f2 f3 ns, WOk (k + 1) U' f1 f2 f3 ns /\ Gr e1 f1 /\ Gr e2 f2 /\ Gr e3 f3 /\ DoS g what who n l e1 e2 e3 (aY ms) f1 f2 f3 (aY ns) := by
 have hb := i6 what (m := 8) (by decide)
 by_cases h1 : mdL what 8 < 2
 exact do_give what who n l hl h hk h1
 by_cases h2 : mdL what 8 = 2
 exact aBO what who n l h hk h2
 by_cases h3 : mdL what 8 = 3
 exact do_tick what who n l h hk h3
 exact do_take what who n l h hk (by omega)
end Go.Proofs.YtclaplngjmgnoaaGreatDoor
namespace Go.Proofs.YtclaplngjmgnoaaGreatDoor
open Go.RowKit Go.V
variable {g : Gv}
theorem eqvX (k : Int) (s : ByteArray) (h : conj [Value.bool (decide (k = k)) = .bool true, Value.bool ((s).toList == (s).toList) = .bool true]) : SX g 63 [.agg [cI k, cS s, cI 0, cI 0, cI 0, cM 1 [], cM 1 []], .agg [cI k, cS s, cI 0, cI 0, cI 0, cM 1 [], cM 1 []]] (.c (cB true)) :=
 sX nFQ ((fun k => bif (Nat.beq k 107 || Nat.beq k 113) then some (.bool true) else none)) nFQ (T := []) (by kernel_rfl) h
theorem aNA (v : Tv) : SX g 63 [.agg ((TvD v).map .d), .agg ((TvD v).map .d)] (.c (cB true)) := eqvX (tvK v) (S (tvS v)) ⟨by simp, by simp [conj]⟩
theorem eqiX (it : It) (h : conj [Value.bool (decide (it.id = it.id)) = .bool true, Value.bool (decide (it.author = it.author)) = .bool true, Value.bool (decide (it.rank = it.rank)) = .bool true, Value.bool (decide (it.time = it.time)) = .bool true, Value.bool (decide (it.kind = it.kind)) = .bool true, SX g 62 [.c (cM 7 (aG it.input)), .c (cM 7 (aG it.input))] (.c (cB true)), SX g 63 [.agg ((TvD it.output).map .d), .agg ((TvD it.output).map .d)] (.c (cB true)), Value.bool ((S it.prop).toList == (S it.prop).toList) = .bool true, Value.bool ((S it.param).toList == (S it.param).toList) = .bool true, SX g 64 [.c (cM 1 (intsD it.program)), .c (cM 1 (intsD it.program))] (.c (cB true))]) : SX g 37 [itC it, itC it] (.c (cB true)) :=
 sX nFQ (fun k => bif (Nat.beq k 107 || Nat.beq k 113 || Nat.beq k 120 || Nat.beq k 127 || Nat.beq k 134 || Nat.beq k 155 || Nat.beq k 162) then some (.bool true) else none) nFQ (T := [aS 62 (.c (cB true)), aS 63 (.c (cB true)), aS 64 (.c (cB true))]) (by kernel_rfl) h
end Go.Proofs.YtclaplngjmgnoaaGreatDoor
namespace Go.Proofs.YtclaplngjmgnoaaGreatDoor
open Go.RowKit Go.V
open Go.Eng (inR byteAt u8 dB)
variable {g : Gv}
theorem ints_ok (l : List Int) (hl : l.length <= 1000000) :
  SpG g 64 [.c (cM 1 (intsD l)), .c (cM 1 (intsD l))] [] (.c (cB true)) [] := by
 refine aO 26 Tryz.func64 (by kernel_rfl) fun fr hG => ?_
 refine zC hG [] [1, 0, 1] (!decide ((((intsD l).length : Int) : Int) = ((intsD l).length : Int))) (⟨[zM 0 1 (intsD l), zM 1 1 (intsD l), zB 4 false], []⟩) aB (fun hc1 => ?_) (fun hc1 => ?_)
 (try simp only [eV, aG, aQ] at hc1)
 simp at hc1
 (try simp only [eV, aG, aQ] at hc1)
 refine zL hG [] [0, 1, 0, 1, 1] (fun (zz : Nat) => match zz with | k => (l.length - k, ⟨[zM 0 1 (intsD l), zM 1 1 (intsD l), zB 4 false, zI 5 (k : Int)], []⟩, k <= l.length)) 0 aB ?_ ?_
 exact Nat.zero_le _
 rintro k hk
 refine zc hG [] [1, 0] (decide (((k : Int) : Int) < ((intsD l).length : Int))) aB (fun hc3 => ?_) (fun hc3 => ?_)
 (try simp only [eV, aG, aQ] at hc3)
 refine zc hG [(6, 2, .elem (intD ((l).getD k 0))), (6, 6, .elem (intD ((l).getD k 0)))] [1, 0, 0, 1] (!decide (((l).getD k 0 : Int) = ((l).getD k 0))) (aA (by intros; exact bV _ (by omega) (by (try simp only [s3] at *); omega) : (0 : Int) <= (k : Int) /\ (intsD l)[k]? = some (intD ((l).getD k 0))) (aC (by intros; exact bV _ (by omega) (by (try simp only [s3] at *); omega) : (0 : Int) <= (k : Int) /\ (intsD l)[k]? = some (intD ((l).getD k 0))))) (fun hc4 => ?_) (fun hc4 => ?_)
 (try simp only [eV, aG, aQ] at hc4)
 simp at hc4
 (try simp only [eV, aG, aQ] at hc4)
 refine zD hG [] (k + 1) (aC (by intros; (try simp only [inR, intsD, aG, aQ, List.length_map] at *); omega : inR ((k : Int) + 1))) ?_ ?_
 (try dsimp only); omega
 (try simp only [s3, aG, aQ] at *); omega
 (try simp only [eV, aG, aQ] at hc3)
 refine zE hG [] (.exit 0) (⟨[zB 4 false], []⟩) aB rfl ?_
 exact zr hG [] [] aB
theorem aHO (l : List Tv) (hl : l.length <= 1000000) :
  SpG g 62 [.c (cM 7 (aG l)), .c (cM 7 (aG l))] [] (.c (cB true)) [] := by
 refine aO 29 Tryz.func62 (by kernel_rfl) fun fr hG => ?_
 refine zC hG [] [1, 0, 1] (!decide ((((aG l).length : Int) : Int) = ((aG l).length : Int))) (⟨[zM 0 7 (aG l), zM 1 7 (aG l), zB 4 false], []⟩) aB (fun hc1 => ?_) (fun hc1 => ?_)
 (try simp only [eV, aG, aQ] at hc1)
 simp at hc1
 (try simp only [eV, aG, aQ] at hc1)
 refine zL hG [] [0, 1, 0, 1, 1] (fun (zz : Nat) => match zz with | k => (l.length - k, ⟨[zM 0 7 (aG l), zM 1 7 (aG l), zB 4 false, zI 5 (k : Int)], []⟩, k <= l.length)) 0 aB ?_ ?_
 exact Nat.zero_le _
 rintro k hk
 refine zc hG [] [1, 0] (decide (((k : Int) : Int) < ((aG l).length : Int))) aB (fun hc3 => ?_) (fun hc3 => ?_)
 (try simp only [eV, aG, aQ] at hc3)
 refine zc hG [(6, 2, .elem (TvD ((l).getD k none))), (6, 6, .elem (TvD ((l).getD k none))), (6, 8, kB true)] [1, 1, 0, 0, 1] (false) (aA (by intros; exact bV _ (by omega) (by (try simp only [zq4, aG] at *); omega) : (0 : Int) <= (k : Int) /\ (aG l)[k]? = some (TvD ((l).getD k none))) (aA (by intros; exact bV _ (by omega) (by (try simp only [zq4, aG] at *); omega) : (0 : Int) <= (k : Int) /\ (aG l)[k]? = some (TvD ((l).getD k none))) (cS1 g (aNA (l.getD k none))))) (fun hc4 => absurd hc4 (by decide)) (fun _ => ?_)
 refine zD hG [] (k + 1) (aC (by intros; (try simp only [inR, intsD, aG, aQ, List.length_map] at *); omega : inR ((k : Int) + 1))) ?_ ?_
 (try dsimp only); omega
 (try simp only [s3, aG, aQ] at *); omega
 (try simp only [eV, aG, aQ] at hc3)
 refine zE hG [] (.exit 0) (⟨[zB 4 false], []⟩) aB rfl ?_
 exact zr hG [] [] aB
theorem eqi_ok (it : It) (h : ItOk it) : SX g 37 [itC it, itC it] (.c (cB true)) := eqiX it ⟨by simp, by simp, by simp, by simp, by simp, aHO it.input (by have := h.len; omega), aNA it.output, by simp, by simp, ints_ok it.program (by have := h.plen; omega)⟩
theorem aHN (l : List It) (hl : l.length <= 1000000) (hi : ∀ i, i ∈ l -> ItOk i) :
  SpG g 15 [.c (cM 16 (aQ l)), .c (cM 16 (aQ l))] [] (.c (cB true)) [] := by
 refine aO 29 Tryz.func15 (by kernel_rfl) fun fr hG => ?_
 refine zC hG [] [1, 0, 1] (!decide ((((aQ l).length : Int) : Int) = ((aQ l).length : Int))) (⟨[zM 0 16 (aQ l), zM 1 16 (aQ l), zB 4 false], []⟩) aB (fun hc1 => ?_) (fun hc1 => ?_)
 (try simp only [eV, aG, aQ] at hc1)
 simp at hc1
 (try simp only [eV, aG, aQ] at hc1)
 refine zL hG [] [0, 1, 0, 1, 1] (fun (zz : Nat) => match zz with | k => (l.length - k, ⟨[zM 0 16 (aQ l), zM 1 16 (aQ l), zB 4 false, zI 5 (k : Int)], []⟩, k <= l.length)) 0 aB ?_ ?_
 exact Nat.zero_le _
 rintro k hk
 refine zc hG [] [1, 0] (decide (((k : Int) : Int) < ((aQ l).length : Int))) aB (fun hc3 => ?_) (fun hc3 => ?_)
 (try simp only [eV, aG, aQ] at hc3)
 refine zc hG [(6, 2, .elem (ItD ((l).getD k It.z))), (6, 6, .elem (ItD ((l).getD k It.z))), (6, 8, kB true)] [1, 1, 0, 0, 1] (false) (aA (by intros; exact bV (f := ItD) It.z (by omega) (by (try simp only [aQ, List.length_map] at *); omega) : (0 : Int) <= (k : Int) /\ (aQ l)[k]? = some (ItD ((l).getD k It.z))) (aA (by intros; exact bV (f := ItD) It.z (by omega) (by (try simp only [aQ, List.length_map] at *); omega) : (0 : Int) <= (k : Int) /\ (aQ l)[k]? = some (ItD ((l).getD k It.z))) (cS1 g (eqi_ok (l.getD k It.z) (hi _ (aR (by (try simp only [aQ, List.length_map] at *); omega))))))) (fun hc4 => absurd hc4 (by decide)) (fun _ => ?_)
 refine zD hG [] (k + 1) (aC (by intros; (try simp only [inR, intsD, aG, aQ, List.length_map] at *); omega : inR ((k : Int) + 1))) ?_ ?_
 (try dsimp only); omega
 (try simp only [s3, aG, aQ] at *); omega
 (try simp only [eV, aG, aQ] at hc3)
 refine zE hG [] (.exit 0) (⟨[zB 4 false], []⟩) aB rfl ?_
 exact zr hG [] [] aB
end Go.Proofs.YtclaplngjmgnoaaGreatDoor
namespace Go.Proofs.YtclaplngjmgnoaaGreatDoor
open Go.RowKit Go.V
open Go.Eng (inR byteAt u8 dB)
variable {g : Gv}
theorem inF_ok {n : Int} {es : RS} (h : RsOk n es) : ∀ i, i ∈ inF (bL es) -> ItOk i := by
 intro i hi
 obtain ⟨m, hm, rfl⟩ := List.mem_map.1 hi
 exact aFS h _ (inP_is hm).1
theorem inF_len {n : Int} {es : RS} (h : RsOk n es) : (inF (bL es)).length <= 1000000 := by
 have h1 := aEX (bL es)
 have h2 := rM es
 have h3 := h.len
 rw [inF, List.length_map]; omega
end Go.Proofs.YtclaplngjmgnoaaGreatDoor
namespace Go.Proofs.YtclaplngjmgnoaaGreatDoor
open Go.RowKit Go.V
open Go.Eng (inR byteAt u8 dB)
variable {g : Gv}
theorem aFH (x a b : Option Bool) : orO (orO x a) b = orO (orO x b) a := by
 cases x <;> cases a <;> cases b <;> simp only [orO] <;> first | rfl | (rename_i x y; cases x <;> cases y <;> rfl) | (rename_i x y z; cases x <;> cases y <;> cases z <;> rfl)
theorem or_idem (x a : Option Bool) : orO (orO x a) a = orO x a := by
 cases x <;> cases a <;> simp only [orO] <;> first | rfl | (rename_i x; cases x <;> rfl) | (rename_i x y; cases x <;> cases y <;> rfl)
def orL (t : List UInt8) : List RS -> Option Bool
 | [] => none
 | M :: r => orO (orL t r) (lkM t M)
theorem aLM {t : List UInt8} {a b : List RS} (h : a.Perm b) : orL t a = orL t b := by
 induction h with
 | nil => rfl
 | cons x _ ih => simp only [orL, ih]
 | swap x y l => simp only [orL]; exact aFH _ _ _
 | trans _ _ h1 h2 => exact h1.trans h2
theorem aFI {t : List UInt8} {M : RS} : ∀ {l : List RS}, M ∈ l -> orO (orL t l) (lkM t M) = orL t l
 | x :: r, h => by
  simp only [orL]
  rcases List.mem_cons.1 h with rfl | h
  exact or_idem _ _
  rw [aFH, aFI h]
structure JnOk (U : List (List UInt8)) (e : RS) (l : List RS) : Prop where
 k : KOk U e
 lk : ∀ t, lkM t e = orL t l
theorem aMI (U : List (List UInt8)) : JnOk U [] [] := ⟨aFU U, fun t => rfl⟩
theorem JnOk.cons {U : List (List UInt8)} {e M : RS} {l : List RS} (h : JnOk U e l) (hM : KOk U M) (hU : U.length <= 100) : JnOk U (jnV e M) (M :: l) := ⟨(aMJ h.k hM hU).1, fun t => by rw [aFO h.k.rs.sort hM.rs.sort, h.lk]; rfl⟩
theorem JnOk.again {U : List (List UInt8)} {e M : RS} {l : List RS} (h : JnOk U e l) (hM : KOk U M) (hU : U.length <= 100) (hm : M ∈ l) : JnOk U (jnV e M) l := ⟨(aMJ h.k hM hU).1, fun t => by rw [aFO h.k.rs.sort hM.rs.sort, h.lk]; exact aFI hm⟩
theorem JnOk.same {U : List (List UInt8)} {a b : RS} {l m : List RS} (ha : JnOk U a l) (hb : JnOk U b m) (h : l.Perm m) : a = b := k_ext ha.k.rs.sort hb.k.rs.sort fun t => by rw [ha.lk, hb.lk, aLM h]
def ltD (M : RS) : List D := [.i 2, .i 1, .s (S (aI M))]
def bA (l : List RS) : LD := l.map ltD
theorem aL4 (l : List RS) (M : RS) : bA l ++ [ltD M] = bA (l ++ [M]) := by rw [bA, bA, List.map_append]; rfl
theorem aJ3 {l : List RS} {j : Nat} (h : j < l.length) : (l.take (j + 1)).reverse = l.getD j [] :: (l.take j).reverse := by rw [cH [] h, List.reverse_append]; rfl
theorem drop_at {l : List RS} {z : Int} (h0 : 0 <= z) (h : z < l.length) : l.drop z.toNat = l.getD z.toNat [] :: l.drop (z + 1).toNat := by
 have e : (z + 1).toNat = z.toNat + 1 := by omega
 have hl : z.toNat < l.length := by omega
 rw [e, List.drop_eq_getElem_cons hl, List.getD_eq_getElem?_getD, List.getElem?_eq_getElem hl]; rfl
theorem aL0 {l : List RS} {z i : Int} (h0 : 0 <= z) (hi : z <= i) (h : i < l.length) : l.getD i.toNat [] ∈ l.drop z.toNat := by
 have hl : i.toNat < l.length := by omega
 rw [List.getD_eq_getElem?_getD, List.getElem?_eq_getElem hl]
 refine List.mem_of_getElem? (i := i.toNat - z.toNat) ?_
 rw [List.getElem?_drop, show z.toNat + (i.toNat - z.toNat) = i.toNat by omega, List.getElem?_eq_getElem hl]; rfl
theorem tm_bd {a n : Int} (ha : 0 <= a) (h : 0 < n) : 0 <= Int.tmod a n /\ Int.tmod a n < n := ⟨Int.tmod_nonneg _ ha, Int.tmod_lt_of_pos _ h⟩
def lK := And.intro @List.length_cons.{0} (And.intro @List.length_map.{0, 0} (And.intro @List.length_nil.{0} (And.intro @Go.Eng.inR.eq_1 (@intsD.eq_1))))
abbrev y41 : Ob := .arr 0 ⟨35, [(0, .bx 302 0), (1, .bx 303 0), (2, .bx 304 0)]⟩ 1 ([[.v undef], [.v undef], [.v undef]])
abbrev y42 : Ob := .box 73 [cI 1, cI 3, .mp 305]
abbrev y43 : Ob := .box 73 [cI 2, cI 3, .mp 306]
abbrev y44 : Ob := .box 73 [cI 3, cI 3, .mp 307]
abbrev y45 : Ob := .box 34 [.ar 301 0, .ar 9008 0]
abbrev y46 : Ob := .box 73 [cI 1, cI 3, .mp 1002]
abbrev y47 : Ob := .box 73 [cI 1, cI 3, .mp 1003]
theorem order_ok (acts : List Ac) (order twice : List Int) (hN : ∀ k, NumOk (acts.getD k Ac.z).l 0) (hL : acts.length <= 9223372036854775807) (hL1 : order.length <= 9223372036854775807) (hL2 : twice.length <= 9223372036854775807) :
  SpG g 4 [.c (cM 4 (cZ acts)), .c (cM 1 (intsD order)), .c (cM 1 (intsD twice))] [] (.c (cB true)) [] := by
 refine aO 150 Tryz.func4 (by kernel_rfl) fun fr hG => ?_
 refine zC hG [(1, 0, kB true), (2, 0, .callG (.tup [(false, [.bx 100 0]), (false, [cB true])]) [] [(100, .box 34 [.ar 101 0, cN]), (101, .arr 0 ⟨35, [(0, .bx 102 0), (1, .bx 103 0), (2, .bx 104 0)]⟩ 1 ([[.v undef], [.v undef], [.v undef]])), (102, .box 73 [cI 1, cI 3, .mp 105]), (103, .box 73 [cI 2, cI 3, .mp 106]), (104, .box 73 [cI 3, cI 3, .mp 107]), (105, y32), (106, y32), (107, y32)])] [1, 0, 1, 1, 1] (false) (⟨[zM 0 4 (cZ acts), zM 1 1 (intsD order), zM 2 1 (intsD twice), zB 6 false, zB 7 true, zX 8 300 0], [(300, .box 34 [.ar 301 0, cN]), (301, y41), (302, y42), (303, y43), (304, y44), (305, y32), (306, y32), (307, y32)]⟩) (cS2 g (aHM) (cS1 g (aN6))) (fun hc1 => absurd hc1 (by decide)) (fun _ => ?_)
 refine zA hG [] [0, 1, 0, 1, 1, 1, 1] (⟨[zM 0 4 (cZ acts), zM 1 1 (intsD order), zM 2 1 (intsD twice), zB 6 false, zB 7 true, zX 8 300 0, zI 10 0], [(300, .box 34 [.ar 301 0, cN]), (301, y41), (302, y42), (303, y43), (304, y44), (305, y32), (306, y32), (307, y32)]⟩) [] [(300, 1, 9008, 43, 3)] (fun (zz : Nat × List (List UInt8) × RS × RS × RS × List Ms) => match zz with | (k, U, e1, e2, e3, ms) => (acts.length - k, ⟨[zM 0 4 (cZ acts), zM 1 1 (intsD order), zM 2 1 (intsD twice), zB 6 false, zB 7 true, zX 8 300 0, zI 10 (k : Int)], [(300, y45), (301, y41), (302, y42), (303, y43), (304, y44), (305, mBQ e1), (306, mBQ e2), (307, mBQ e3), (9008, .arr 0 43 3 (aY ms))]⟩, k <= acts.length /\ k <= 30 /\ WOk k U e1 e2 e3 ms)) (0, [], [], [], [], []) aB ?_ ?_
 exact ⟨Nat.zero_le _, Nat.zero_le _, w_0⟩
 rintro ⟨k, U, e1, e2, e3, ms⟩ ⟨hka, hk3, hw⟩
 obtain ⟨U', f1, f2, f3, ns, hw2, hg1, hg2, hg3, hs⟩ := do_ok (g := g) (acts.getD k Ac.z).what (acts.getD k Ac.z).who (acts.getD k Ac.z).n (acts.getD k Ac.z).l (hN k) hw (by omega)
 refine zc hG [] [1, 0] ((decide (((k : Int) : Int) < ((cZ acts).length : Int))) && (decide (((k : Int) : Int) < 30))) aB (fun hc3 => ?_) (fun hc3 => ?_)
 (try simp only [eV, cZ, aY, bA] at hc3)
 refine zD hG [(8, 3, .elem (AcD (acts.getD k Ac.z))), (8, 5, .callG (.tup []) [300, 301, 302, 305, 303, 306, 304, 307, 9008] [(0, .box 34 [.ar 1 0, .ar 8 0]), (1, .arr 0 ⟨35, [(0, .bx 2 0), (1, .bx 4 0), (2, .bx 6 0)]⟩ 1 ([[.v undef], [.v undef], [.v undef]])), (2, .box 73 [cI 1, cI 3, .mp 3]), (3, mBQ f1), (4, .box 73 [cI 2, cI 3, .mp 5]), (5, mBQ f2), (6, .box 73 [cI 3, cI 3, .mp 7]), (7, mBQ f3), (8, .arr 0 43 3 (aY ns))])] (k + 1, U', f1, f2, f3, ns) (aA (by intros; exact bV (f := AcD) Ac.z (by omega) (by (try simp only [cZ, List.length_map] at *); omega) : (0 : Int) <= (k : Int) /\ (cZ acts)[k]? = some (AcD (acts.getD k Ac.z))) (cS2 g (hs) (aC (by intros; (try simp only [lK, cZ, aY, bA] at *); omega : inR ((k : Int) + 1))))) ?_ ?_
 (try dsimp only); omega
 exact ⟨by omega, by omega, hw2⟩
 (try simp only [eV, cZ, aY, bA] at hc3)
 refine zE hG [] (.exit 0) (⟨[zM 1 1 (intsD order), zM 2 1 (intsD twice), zB 6 false, zB 7 true, zX 8 300 0], [(300, y45), (301, y41), (302, y42), (303, y43), (304, y44), (305, mBQ e1), (306, mBQ e2), (307, mBQ e3), (9008, .arr 0 43 3 (aY ms))]⟩) aB rfl ?_
 refine zC hG [(9, 0, .callG (.c (.bx 100 0)) [] [(100, .box 73 [cI 1, cI 3, .mp 102]), (102, y32)]), (9, 1, .callG (.c (.bx 100 0)) [] [(100, .box 73 [cI 1, cI 3, .mp 102]), (102, y32)])] [1, 0, 1, 1, 1, 1, 1, 1] (false) (⟨[zM 1 1 (intsD order), zM 2 1 (intsD twice), zB 6 false, zB 7 true, zX 8 300 0, zX 11 1000 0, zX 12 1001 0], [(300, y45), (301, y41), (302, y42), (303, y43), (304, y44), (305, mBQ e1), (306, mBQ e2), (307, mBQ e3), (1000, y46), (1001, y47), (1002, y32), (1003, y32), (9008, .arr 0 43 3 (aY ms))]⟩) (cS2 g (iE 1 3 (by decide)) (cS1 g (iE 1 3 (by decide)))) (fun hc4 => absurd hc4 (by decide)) (fun _ => ?_)
 refine zA hG [] [0, 1, 0, 1, 1, 1, 1, 1, 1, 1, 1] (⟨[zM 1 1 (intsD order), zM 2 1 (intsD twice), zB 6 false, zB 7 true, zX 8 300 0, zX 11 1000 0, zX 12 1001 0, zN 13, zI 14 0], [(300, y45), (301, y41), (302, y42), (303, y43), (304, y44), (305, mBQ e1), (306, mBQ e2), (307, mBQ e3), (1000, y46), (1001, y47), (1002, y32), (1003, y32), (9008, .arr 0 43 3 (aY ms))]⟩) [(13, 9013, 43, 3)] [] (fun (zz : Nat × LD × List RS) => match zz with | (q, lb, lm) => (order.length - q, ⟨[zM 1 1 (intsD order), zM 2 1 (intsD twice), zB 6 false, zB 7 true, zX 8 300 0, zX 11 1000 0, zX 12 1001 0, zY 13 9013 0, zI 14 (q : Int)], [(300, y45), (301, y41), (302, y42), (303, y43), (304, y44), (305, mBQ e1), (306, mBQ e2), (307, mBQ e3), (1000, y46), (1001, y47), (1002, y32), (1003, y32), (9008, .arr 0 43 3 (aY ms)), (9013, .arr 0 43 3 (lb))]⟩, q <= order.length /\ q <= 30 /\ lb = bA lm /\ lm.length <= q /\ ∀ M, M ∈ lm -> KOk U M)) (0, [], []) aB ?_ ?_
 exact ⟨Nat.zero_le _, Nat.zero_le _, rfl, Nat.zero_le _, by simp⟩
 rintro ⟨q, lb, lm⟩ ⟨hq1, hq2, hlb, hll, hlm⟩
 have hml := hw.ml
 have hul := hw.ul
 have hlbl : lb.length <= 30 := by rw [hlb, bA, List.length_map]; omega
 refine zc hG [] [1, 0] (((decide (((q : Int) : Int) < ((intsD order).length : Int))) && (decide (((q : Int) : Int) < 30))) && (decide ((((aY ms).length : Int) : Int) > 0))) aB (fun hc6 => ?_) (fun hc6 => ?_)
 (try simp only [eV, cZ, aY, bA] at hc6)
 have hmd := i6 (order.getD q 0) (m := ((aY ms).length : Int)) (by (try simp only [aY, List.length_map] at *); omega)
 refine zD hG [(16, 6, .elem (intD ((order).getD q 0))), (16, 13, kI (mdL ((order).getD q 0) ((aY ms).length : Int))), (16, 15, .elem (MsD (ms.getD (mdL ((order).getD q 0) ((aY ms).length : Int) : Int).toNat Ms.z)))] (q + 1, lb ++ ([[.i 2, .i 1, .s (S (aI (ms.getD (mdL ((order).getD q 0) ((aY ms).length : Int) : Int).toNat Ms.z).m))]] : LD), lm ++ [(ms.getD (mdL (order.getD q 0) ((aY ms).length : Int)).toNat Ms.z).m]) (aA (by intros; exact bV _ (by omega) (by (try simp only [s3] at *); omega) : (0 : Int) <= (q : Int) /\ (intsD order)[q]? = some (intD ((order).getD q 0))) (cS2 g (bG ((order).getD q 0) ((aY ms).length : Int) (by (try simp only [aY, bA, List.length_map] at *); omega) (by (try simp only [aY, bA, List.length_map] at *); omega)) (aA (by intros; (try simp only [lK, cZ, aY, bA] at *); omega : (0 : Int) <= (mdL ((order).getD q 0) ((aY ms).length : Int)) /\ (mdL ((order).getD q 0) ((aY ms).length : Int)) < ((aY ms).length : Int)) (aA (by intros; exact fJ (f := MsD) (l := ms) Ms.z (by (try simp only [aY, List.length_map] at *); omega) : (aY ms)[(mdL ((order).getD q 0) ((aY ms).length : Int) : Int).toNat]? = some (MsD (ms.getD (mdL ((order).getD q 0) ((aY ms).length : Int) : Int).toNat Ms.z))) (aA (by intros; (try simp only [lK, cZ, aY, bA] at *); omega : ((lb).length + ([[.i 2, .i 1, .s (S (aI (ms.getD (mdL ((order).getD q 0) ((aY ms).length : Int) : Int).toNat Ms.z).m))]] : LD).length) * (32 + 1) <= 140737488355328) (aC (by intros; (try simp only [lK, cZ, aY, bA] at *); omega : inR ((q : Int) + 1)))))))) ?_ ?_
 (try dsimp only); omega
 refine ⟨by omega, by omega, by rw [hlb]; exact aL4 _ _, by simp; omega, fun M hM => ?_⟩
 rcases List.mem_append.1 hM with hM | hM
 exact hlm M hM
 simp only [List.mem_singleton] at hM
 subst hM
 exact (hw.mo _ (aR (by (try simp only [aY, List.length_map] at *); omega))).k
 (try simp only [eV, cZ, aY, bA] at hc6)
 subst hlb
 refine zE hG [] (.exit 2) (⟨[zM 2 1 (intsD twice), zB 6 false, zB 7 true, zX 11 1000 0, zX 12 1001 0, zY 13 9013 0], [(1000, y46), (1001, y47), (1002, y32), (1003, y32), (9013, .arr 0 43 3 (bA lm))]⟩) aB rfl ?_
 refine zL hG [] [0, 1, 0, 1, 1, 1, 1, 1, 1, 1, 1, 1] (fun (zz : Nat × RS) => match zz with | (j, ea) => (lm.length - j, ⟨[zM 2 1 (intsD twice), zB 6 false, zB 7 true, zX 11 1000 0, zX 12 1001 0, zY 13 9013 0, zY 90 9013 0, zI 91 ((bA lm).length : Int), zI 92 (j : Int)], [(1000, y46), (1001, y47), (1002, mBQ ea), (1003, y32), (9013, .arr 0 43 3 (bA lm))]⟩, j <= lm.length /\ JnOk U ea (lm.take j).reverse)) (0, []) aB ?_ ?_
 exact ⟨Nat.zero_le _, aMI U⟩
 rintro ⟨j, ea⟩ ⟨hj, hja⟩
 refine zc hG [] [0, 1] (decide (((j : Int) : Int) < ((bA lm).length : Int))) aB (fun hc8 => ?_) (fun hc8 => ?_)
 (try simp only [eV, cZ, aY, bA] at hc8)
 refine zD hG [(21, 1, .elem (ltD (lm.getD j []))), (22, 2, .callG (.c (cM 3 (aY (rpL 1 2 ea (lm.getD j []))))) [1000, 1002] [(0, .box 73 [cI 1, cI 3, .mp 1]), (1, mBQ (jnV ea (lm.getD j [])))])] (j + 1, jnV ea (lm.getD j [])) (aA (by intros; (try simp only [lK, cZ, aY, bA] at *); omega : (0 : Int) <= (j : Int) /\ (j : Int) < ((bA lm).length : Int)) (aA (by intros; exact fJ (f := ltD) (l := lm) [] (by (try simp only [bA, List.length_map] at *); omega) : (bA lm)[j]? = some (ltD (lm.getD j []))) (cS2 g (gP 1 2 ea (lm.getD j []) hja.k.rs (hlm _ (aR (by (try simp only [bA, List.length_map] at *); omega))).rs (by have := hja.k.len; have := (hlm _ (aR (l := lm) (z := []) (k := j) (by (try simp only [bA, List.length_map] at *); omega))).len; omega) (by decide) (by decide) (by decide)) (aC (by intros; (try simp only [lK, cZ, aY, bA] at *); omega : inR ((j : Int) + 1)))))) ?_ ?_
 (try dsimp only); (try simp only [bA, List.length_map] at *); omega
 refine ⟨by (try simp only [bA, List.length_map] at *); omega, ?_⟩
 rw [aJ3 (by (try simp only [bA, List.length_map] at *); omega)]
 exact hja.cons (hlm _ (aR (by (try simp only [bA, List.length_map] at *); omega))) (by omega)
 (try simp only [eV, cZ, aY, bA] at hc8)
 refine zE hG [] (.exit 4) (⟨[zM 2 1 (intsD twice), zB 6 false, zB 7 true, zX 11 1000 0, zX 12 1001 0, zY 13 9013 0], [(1000, y46), (1001, y47), (1002, mBQ ea), (1003, y32), (9013, .arr 0 43 3 (bA lm))]⟩) aB rfl ?_
 refine zL hG [] [0, 1, 0, 1, 1, 1, 1, 1, 1, 1, 1, 1, 1] (fun (zz : Int × RS) => match zz with | (z, eb) => ((z + 1).toNat, ⟨[zM 2 1 (intsD twice), zB 6 false, zB 7 true, zX 11 1000 0, zX 12 1001 0, zY 13 9013 0, zI 18 z], [(1000, y46), (1001, y47), (1002, mBQ ea), (1003, mBQ eb), (9013, .arr 0 43 3 (bA lm))]⟩, -1 <= z /\ z < lm.length /\ JnOk U eb (lm.drop (z + 1).toNat))) ((((bA lm).length : Int) - 1), []) (aC (by intros; (try simp only [lK, cZ, aY, bA] at *); omega : inR (((bA lm).length : Int) - 1))) ?_ ?_
 exact ⟨by omega, by rw [bA, List.length_map]; omega, by rw [bA, List.length_map, show ((lm.length : Int) - 1 + 1).toNat = lm.length by omega, List.drop_length]; exact aMI U⟩
 rintro ⟨z, eb⟩ ⟨hz0, hz1, hjb⟩
 refine zc hG [] [1, 0] (decide ((z : Int) >= 0)) aB (fun hc10 => ?_) (fun hc10 => ?_)
 (try simp only [eV, cZ, aY, bA] at hc10)
 have hjb1 : JnOk U (jnV eb (lm.getD z.toNat [])) (lm.drop z.toNat) := by
  rw [drop_at (by omega) (by omega)]
  exact hjb.cons (hlm _ (aR (by omega))) (by omega)
 refine zC hG [(27, 4, .elem (ltD (lm.getD (z : Int).toNat []))), (27, 5, .callG (.c (cM 3 (aY (rpL 1 2 eb (lm.getD (z : Int).toNat []))))) [1001, 1003] [(0, .box 73 [cI 1, cI 3, .mp 1]), (1, mBQ (jnV eb (lm.getD (z : Int).toNat [])))])] [1, 1, 0, 0, 1] (decide ((((intsD twice).length : Int) : Int) > 0)) (⟨[zM 2 1 (intsD twice), zB 6 false, zB 7 true, zX 11 1000 0, zX 12 1001 0, zY 13 9013 0, zI 18 z], [(1000, y46), (1001, y47), (1002, mBQ ea), (1003, mBQ (jnV eb (lm.getD (z : Int).toNat []))), (9013, .arr 0 43 3 (bA lm))]⟩) (aA (by intros; (try simp only [lK, cZ, aY, bA] at *); omega : (0 : Int) <= z /\ z < ((bA lm).length : Int)) (aA (by intros; exact fJ (f := ltD) (l := lm) [] (by (try simp only [bA, List.length_map] at *); omega) : (bA lm)[(z : Int).toNat]? = some (ltD (lm.getD (z : Int).toNat []))) (cS1 g (gP 1 2 eb (lm.getD (z : Int).toNat []) hjb.k.rs (hlm _ (aR (by (try simp only [bA, List.length_map] at *); omega))).rs (by have := hjb.k.len; have := (hlm _ (aR (l := lm) (z := []) (k := (z : Int).toNat) (by (try simp only [bA, List.length_map] at *); omega))).len; omega) (by decide) (by decide) (by decide))))) (fun hc11 => ?_) (fun hc11 => ?_)
 (try simp only [eV, cZ, aY, bA] at hc11)
 have htm := tm_bd (a := z) (n := ((intsD twice).length : Int)) (by omega) (by (try simp only [s3] at *); omega)
 have hmd := i6 (twice.getD (Int.tmod z ((intsD twice).length : Int)).toNat 0) (m := ((bA lm).length : Int) - z) (by (try simp only [bA, List.length_map] at *); omega)
 refine zD hG [(29, 8, .elem (intD ((twice).getD (Int.tmod z ((intsD twice).length : Int) : Int).toNat 0))), (29, 14, kI (mdL ((twice).getD (Int.tmod z ((intsD twice).length : Int) : Int).toNat 0) (((bA lm).length : Int) - z))), (29, 17, .elem (ltD (lm.getD (z + (mdL ((twice).getD (Int.tmod z ((intsD twice).length : Int) : Int).toNat 0) (((bA lm).length : Int) - z)) : Int).toNat []))), (29, 18, .callG (.c (cM 3 (aY (rpL 1 2 (jnV eb (lm.getD (z : Int).toNat [])) (lm.getD (z + (mdL ((twice).getD (Int.tmod z ((intsD twice).length : Int) : Int).toNat 0) (((bA lm).length : Int) - z)) : Int).toNat []))))) [1001, 1003] [(0, .box 73 [cI 1, cI 3, .mp 1]), (1, mBQ (jnV (jnV eb (lm.getD (z : Int).toNat [])) (lm.getD (z + (mdL ((twice).getD (Int.tmod z ((intsD twice).length : Int) : Int).toNat 0) (((bA lm).length : Int) - z)) : Int).toNat [])))])] (z - 1, jnV (jnV eb (lm.getD z.toNat [])) (lm.getD (z + mdL (twice.getD (Int.tmod z ((intsD twice).length : Int)).toNat 0) (((bA lm).length : Int) - z)).toNat [])) (aA (by intros; (try simp only [lK, cZ, aY, bA] at *); omega : ((intsD twice).length : Int) ≠ (0 : Int)) (aA (by intros; exact bV _ (by omega) (by (try simp only [s3] at *); omega) : (0 : Int) <= (Int.tmod z ((intsD twice).length : Int)) /\ (intsD twice)[(Int.tmod z ((intsD twice).length : Int) : Int).toNat]? = some (intD ((twice).getD (Int.tmod z ((intsD twice).length : Int) : Int).toNat 0))) (aA (by intros; (try simp only [lK, cZ, aY, bA] at *); omega : inR (((bA lm).length : Int) - z)) (cS2 g (bG ((twice).getD (Int.tmod z ((intsD twice).length : Int) : Int).toNat 0) (((bA lm).length : Int) - z) (by (try simp only [aY, bA, List.length_map] at *); omega) (by (try simp only [aY, bA, List.length_map] at *); omega)) (aA (by intros; (try simp only [lK, cZ, aY, bA] at *); omega : inR (z + (mdL ((twice).getD (Int.tmod z ((intsD twice).length : Int) : Int).toNat 0) (((bA lm).length : Int) - z)))) (aA (by intros; (try simp only [lK, cZ, aY, bA] at *); omega : (0 : Int) <= (z + (mdL ((twice).getD (Int.tmod z ((intsD twice).length : Int) : Int).toNat 0) (((bA lm).length : Int) - z))) /\ (z + (mdL ((twice).getD (Int.tmod z ((intsD twice).length : Int) : Int).toNat 0) (((bA lm).length : Int) - z))) < ((bA lm).length : Int)) (aA (by intros; exact fJ (f := ltD) (l := lm) [] (by (try simp only [bA, List.length_map] at *); omega) : (bA lm)[(z + (mdL ((twice).getD (Int.tmod z ((intsD twice).length : Int) : Int).toNat 0) (((bA lm).length : Int) - z)) : Int).toNat]? = some (ltD (lm.getD (z + (mdL ((twice).getD (Int.tmod z ((intsD twice).length : Int) : Int).toNat 0) (((bA lm).length : Int) - z)) : Int).toNat []))) (cS2 g (gP 1 2 (jnV eb (lm.getD (z : Int).toNat [])) (lm.getD (z + (mdL ((twice).getD (Int.tmod z ((intsD twice).length : Int) : Int).toNat 0) (((bA lm).length : Int) - z)) : Int).toNat []) hjb1.k.rs (hlm _ (aR (by (try simp only [bA, List.length_map] at *); omega))).rs (by have := hjb1.k.len; have := (hlm _ (aR (l := lm) (z := []) (k := (z + (mdL ((twice).getD (Int.tmod z ((intsD twice).length : Int) : Int).toNat 0) (((bA lm).length : Int) - z)) : Int).toNat) (by (try simp only [bA, List.length_map] at *); omega))).len; omega) (by decide) (by decide) (by decide)) (aC (by intros; (try simp only [lK, cZ, aY, bA] at *); omega : inR (z - 1))))))))))) ?_ ?_
 (try dsimp only); omega
 refine ⟨by omega, by omega, ?_⟩
 rw [show (z - 1 + 1).toNat = z.toNat by omega]
 exact hjb1.again (hlm _ (aR (by (try simp only [bA, List.length_map] at *); omega))) (by omega) (aL0 (by omega) (by omega) (by (try simp only [bA, List.length_map] at *); omega))
 (try simp only [eV, cZ, aY, bA] at hc11)
 refine zD hG [] (z - 1, jnV eb (lm.getD z.toNat [])) (aC (by intros; (try simp only [lK, cZ, aY, bA] at *); omega : inR (z - 1))) ?_ ?_
 (try dsimp only); omega
 refine ⟨by omega, by omega, ?_⟩
 rw [show (z - 1 + 1).toNat = z.toNat by omega]
 exact hjb1
 (try simp only [eV, cZ, aY, bA] at hc10)
 refine zE hG [] (.exit 6) (⟨[zB 6 false, zB 7 true, zX 11 1000 0, zX 12 1001 0], [(1000, y46), (1001, y47), (1002, mBQ ea), (1003, mBQ eb)]⟩) aB rfl ?_
 obtain rfl : eb = ea := hjb.same hja (by
  rw [show z = -1 by omega, show j = lm.length by (try simp only [bA, List.length_map] at *); omega, List.take_length]
  exact (List.reverse_perm _).symm)
 have hx := hja.k
 refine qM (f := 100) (pos := [1, 1, 1, 1, 1, 1, 1, 1, 1, 1, 1]) (by kernel_rfl) ?_
 refine stepXX hG b9 [eM 14 fun _ => some (.c (cS (S (aI eb)))), eM 16 fun _ => some (.c (cM 16 (aQ (inF (bL eb))))), aS 15 (.c (cB true))] nFQ (fun k => bif Nat.beq k 110 then some (.bool true) else none) nFQ 100 .ret (⟨[zB 6 true], []⟩) (cs := [SpR g 14 1 [] eb (.c (cS (S (aI eb)))) eb, SpR g 14 1 [] eb (.c (cS (S (aI eb)))) eb, Go.Value.bool ((S (aI eb)).toList == (S (aI eb)).toList) = .bool true, SpR g 16 1 [] eb (.c (cM 16 (aQ (inF (bL eb))))) eb, SpR g 16 1 [] eb (.c (cM 16 (aQ (inF (bL eb))))) eb, SX g 15 [.c (cM 16 (aQ (inF (bL eb)))), .c (cM 16 (aQ (inF (bL eb))))] (.c (cB true))]) (by kernel_rfl) (⟨eO 1 3 _ hx.rs, eO 1 3 _ hx.rs, by simp, lA 1 3 _ hx.rs, lA 1 3 _ hx.rs, aHN _ (inF_len hx.rs) (inF_ok hx.rs)⟩) ?_
 refine iR hG b9 [] [] (.c (cB true)) [] (by kernel_rfl) aB ?_ ?_
 rfl
 first | rfl | (funext i; simp only [aN, upd]; ((repeat' split) <;> first | rfl | (exfalso; omega)))
end Go.Proofs.YtclaplngjmgnoaaGreatDoor
