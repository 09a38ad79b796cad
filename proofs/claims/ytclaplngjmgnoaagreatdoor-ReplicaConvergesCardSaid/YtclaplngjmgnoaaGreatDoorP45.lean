/- Part 45 of the proof: texts U34e, U34f, U34g, V34c, V34b. -/
import Derived.Test.YtclaplngjmgnoaaGreatDoorP29
import Derived.Test.YtclaplngjmgnoaaGreatDoorP32
import Derived.Test.YtclaplngjmgnoaaGreatDoorP44
set_option linter.all false
namespace Go.Proofs.YtclaplngjmgnoaaGreatDoor
set_option maxRecDepth 100000
open Go.RowKit Go.V
structure Ms where
 f : Int
 t : Int
 m : RS
def Ms.z : Ms := ⟨0, 0, []⟩
def MsD (m : Ms) : List D := [.i m.f, .i m.t, .s (S (aI m.m))]
def b9 (l : List Ms) : LD := l.map MsD
theorem aE1 : ∀ {l U : List (List UInt8)}, l.Nodup -> (∀ x, x ∈ l -> x ∈ U) -> l.length <= U.length
 | [], U, _, _ => Nat.zero_le _
 | x :: r, U, hn, hs => by
  rw [List.nodup_cons] at hn
  have hx := hs x List.mem_cons_self
  have h1 := aE1 (l := r) (U := U.erase x) hn.2 fun y hy => (List.mem_erase_of_ne (by rintro rfl; exact hn.1 hy)).2 (hs y (List.mem_cons_of_mem _ hy))
  rw [List.length_erase_of_mem hx] at h1
  have := List.length_pos_of_mem hx
  simp only [List.length_cons]; omega
structure KOk (U : List (List UInt8)) (e : RS) : Prop where
 rs : RsOk 3 e
 sub : ∀ x, x ∈ e -> x.1 ∈ U
theorem KOk.len {U : List (List UInt8)} {e : RS} (h : KOk U e) : e.length <= U.length := by
 have := aE1 h.rs.sort.nodup (U := U) fun x hx => by
  obtain ⟨y, hy, rfl⟩ := List.mem_map.1 hx
  exact h.sub y hy
 simpa using this
theorem KOk.up {U : List (List UInt8)} {e : RS} (h : KOk U e) (t : List UInt8) : KOk (t :: U) e := ⟨h.rs, fun x hx => List.mem_cons_of_mem _ (h.sub x hx)⟩
theorem aMF (U : List (List UInt8)) : KOk U [] := ⟨rs0 3, by simp⟩
def Gr (a b : RS) : Prop := ∀ t w, lkM t a = some w -> ∃ w', lkM t b = some w' /\ (w = true -> w' = true)
theorem a8 (a : RS) : Gr a a := fun t w h => ⟨w, h, id⟩
theorem aEA {U : List (List UInt8)} {e : RS} {a : Int} {i : It} (h : KOk U e) (hU : U.length <= 100) (hi : ItOk i) (ha : i.author = a) (h1 : 1 <= a) (h3 : a <= 3) : KOk (itT i :: U) (eF a e i) /\ Gr e (eF a e i) := by
 unfold eF
 split
 rename_i he
 have hn : lkM (itT i) e = none := by
  cases hl : lkM (itT i) e with
  | none => rfl
  | some w =>
   rw [eG, if_pos ha, if_pos (by rw [hl]; rfl)] at he
   exact absurd he (by decide)
 obtain ⟨u1, u2, u3, u4⟩ := qG (k := itT i) (v := false) h.rs.sort
 have hl := h.len
 have hk2 : ∀ x, x ∈ bU ltS (itT i) false e -> x.1 = itT i \/ ∃ y, y ∈ e /\ y.1 = x.1 := by
  intro x hx
  rcases (u2 x.1).1 (List.mem_map_of_mem hx) with e | hm
  exact .inl e
  obtain ⟨y, hy, e⟩ := List.mem_map.1 hm
  exact .inr ⟨y, hy, e⟩
 refine ⟨⟨⟨u1, by omega, fun x hx => ?_, fun x hx => ?_⟩, fun x hx => ?_⟩, fun t w ht => ⟨w, ?_, id⟩⟩
 rcases hk2 x hx with e | ⟨y, hy, e⟩
 rw [e]; exact ⟨i, hi, rfl⟩
 rw [<- e]; exact h.rs.it y hy
 rcases hk2 x hx with e | ⟨y, hy, e⟩
 rw [e, xO hi]; omega
 rw [<- e]; exact h.rs.au y hy
 rcases hk2 x hx with e | ⟨y, hy, e⟩
 rw [e]; exact List.mem_cons_self
 rw [<- e]; exact List.mem_cons_of_mem _ (h.sub y hy)
 rw [j6, if_neg (fun e => by rw [e, hn] at ht; cases ht)]; exact ht
 exact ⟨h.up _, a8 e⟩
theorem wd_k {U : List (List UInt8)} {e : RS} (h : KOk U e) (id : Int) : KOk U (wdR id e) /\ Gr e (wdR id e) := by
 refine ⟨⟨wdR_ok h.rs id, fun x hx => ?_⟩, fun t w ht => ?_⟩
 have := (aJR h.rs id e.length (Nat.le_refl _)).2.1 x.1
 obtain ⟨y, hy, e⟩ := List.mem_map.1 (this.1 (List.mem_map_of_mem hx))
 rw [<- e]; exact h.sub y hy
 rw [wdR_lk h.rs]
 split
 exact ⟨true, rfl, fun _ => rfl⟩
 exact ⟨w, ht, fun h => h⟩
theorem iK {a b : RS} (ha : kSort a) (hb : kSort b) (t : List UInt8) : lkM t (jnV a b) = orO (lkM t a) (lkM t b) := (aA8 ha b hb.nodup).2.1 t
theorem iE {a b : RS} (ha : kSort a) (hb : kSort b) : kSort (jnV a b) := (aA8 ha b hb.nodup).1
theorem aD0 {U : List (List UInt8)} {a b : RS} (ha : KOk U a) (hb : KOk U b) (hU : U.length <= 100) : KOk U (jnV a b) /\ Gr a (jnV a b) := by
 have h1 := ha.len
 have h2 := hb.len
 refine ⟨⟨aMG ha.rs hb.rs (by omega), fun x hx => ?_⟩, fun t w ht => ?_⟩
 have hx2 := (lk_some_mem (k := x.1)).2 (List.mem_map_of_mem hx)
 rw [iK ha.rs.sort hb.rs.sort] at hx2
 cases h3 : lkM x.1 a with
 | some w => exact ha.sub (x.1, w) ((aL8 ha.rs.sort).1 h3)
 | none =>
  rw [h3] at hx2
  cases h4 : lkM x.1 b with
  | some w => exact hb.sub (x.1, w) ((aL8 hb.rs.sort).1 h4)
  | none => rw [h4] at hx2; cases hx2
 rw [iK ha.rs.sort hb.rs.sort, ht]
 cases h4 : lkM t b with
 | some w' => exact ⟨w || w', rfl, fun h => by rw [h]; rfl⟩
 | none => exact ⟨w, rfl, fun h => h⟩
theorem aFX {a : RS} (h : kSort a) : jnV a a = a /\ c8 a a = false := by
 have e : jnV a a = a := aFW (iE h h) h fun t => by
  rw [iK h h]
  cases lkM t a with
  | none => rfl
  | some w => cases w <;> rfl
 refine ⟨e, ?_⟩
 unfold c8
 rw [e, List.any_eq_false]
 intro x hx
 have : aN x.1 x.2 ∈ a.map fun x => aN x.1 x.2 := List.mem_map_of_mem hx
 simp [this]
structure MsOk (U : List (List UInt8)) (m : Ms) : Prop where
 k : KOk U m.m
 f1 : 1 <= m.f
 f3 : m.f <= 3
 t1 : 1 <= m.t
 t3 : m.t <= 3
 ne : ¬ m.f = m.t
theorem MsOk.up {U : List (List UInt8)} {m : Ms} (h : MsOk U m) (t : List UInt8) : MsOk (t :: U) m := ⟨h.k.up t, h.f1, h.f3, h.t1, h.t3, h.ne⟩
structure WOk (k : Nat) (U : List (List UInt8)) (e1 e2 e3 : RS) (ms : List Ms) : Prop where
 ul : U.length <= k
 k1 : KOk U e1
 k2 : KOk U e2
 k3 : KOk U e3
 mo : ∀ m, m ∈ ms -> MsOk U m
 ml : ms.length <= 2 * k
theorem w_0 : WOk 0 [] [] [] [] [] := ⟨by simp, aMF _, aMF _, aMF _, by simp, by simp⟩
theorem WOk.next {k : Nat} {U : List (List UInt8)} {e1 e2 e3 : RS} {ms : List Ms} (h : WOk k U e1 e2 e3 ms) : WOk (k + 1) U e1 e2 e3 ms := ⟨by have := h.ul; omega, h.k1, h.k2, h.k3, h.mo, by have := h.ml; omega⟩
theorem aLM (x y z : Option Bool) : orO (orO x (orO y x)) (orO (orO z x) (orO y x)) = orO (orO z x) (orO y x) /\ orO (orO y x) (orO (orO z x) (orO y x)) = orO (orO z x) (orO y x) := by
 cases x with
 | none => cases y with
  | none => cases z <;> exact ⟨rfl, rfl⟩
  | some b => cases z with
   | none => cases b <;> exact ⟨rfl, rfl⟩
   | some c => cases b <;> cases c <;> exact ⟨rfl, rfl⟩
 | some a => cases y with
  | none => cases z with
   | none => cases a <;> exact ⟨rfl, rfl⟩
   | some c => cases a <;> cases c <;> exact ⟨rfl, rfl⟩
  | some b => cases z with
   | none => cases a <;> cases b <;> exact ⟨rfl, rfl⟩
   | some c => cases a <;> cases b <;> cases c <;> exact ⟨rfl, rfl⟩
def exV (e1 e2 e3 : RS) : RS := jnV (jnV e3 e1) (jnV e2 e1)
theorem ex_all {e1 e2 e3 : RS} (h1 : kSort e1) (h2 : kSort e2) (h3 : kSort e3) : jnV (jnV e1 (jnV e2 e1)) (exV e1 e2 e3) = exV e1 e2 e3 /\ jnV (jnV e2 e1) (exV e1 e2 e3) = exV e1 e2 e3 := by
 have a1 := iE h2 h1
 have a2 := iE h3 h1
 have a3 := iE h1 a1
 have a4 : kSort (exV e1 e2 e3) := iE a2 a1
 refine ⟨aFW (iE a3 a4) a4 fun t => ?_, aFW (iE a1 a4) a4 fun t => ?_⟩
 rw [iK a3 a4, iK h1 a1, exV, iK a2 a1, iK h3 h1, iK h2 h1]
 exact (aLM _ _ _).1
 rw [iK a1 a4, exV, iK a2 a1, iK h3 h1, iK h2 h1]
 exact (aLM _ _ _).2
end Go.Proofs.YtclaplngjmgnoaaGreatDoor
namespace Go.Proofs.YtclaplngjmgnoaaGreatDoor
open Go.RowKit Go.V
variable {g : Gv}
def mdL (n m : Int) : Int := (n.tmod m + m).tmod m
theorem oH (n : Int) {m : Int} (h : 0 < m) : 0 <= mdL n m /\ mdL n m < m := by
 unfold mdL
 have h1 := Int.tmod_lt_of_pos n h
 have h2 : -m < n.tmod m := by
  have := Int.lt_tmod_of_pos n h
  omega
 exact ⟨Int.tmod_nonneg _ (by omega), Int.tmod_lt_of_pos _ h⟩
theorem bI (n m : Int) (h : 0 < m) (hm : m <= 1000000) : SpM g n m (mdL n m) := by
 have h1 := Int.tmod_lt_of_pos n h
 have h2 : -m < n.tmod m := by
  have := Int.lt_tmod_of_pos n h
  omega
 exact lmodX n m ⟨(show m ≠ 0 by omega), (by unfold Go.Eng.inR; omega), (show m ≠ 0 by omega)⟩
theorem cW {n m v : Int} (h : 0 < m) (hm : m <= 1000000) (e : mdL n m = v) : SpM g n m v := e ▸ bI n m h hm
theorem aN4 : V.Spec Tryz.prog (Gl g) 11 [] [] (.tup [(false, [.bx 100 0]), (false, [cB true])]) bO := beginX ⟨mF 3 3 (by decide), mF 2 3 (by decide), mF 1 3 (by decide)⟩
theorem gP (a b : List Ms) : b9 (a ++ b) = b9 a ++ b9 b := by simp [b9]
theorem mH (a : List Ms) : (b9 a).length = a.length := by simp [b9]
def rpL (a f : Int) (es ms : RS) : List Ms := bif c8 es ms then [⟨a, f, jnV es ms⟩] else []
theorem lZ (a f : Int) (es ms : RS) (hes : RsOk 3 es) (hms : RsOk 3 ms) (hl : es.length + ms.length <= 4000) (hf1 : 1 <= f) (hf2 : f <= 3) (hfa : ¬ f = a) : SpR g 19 a [.agg [cI f, cI a, cS (S (aI ms))]] es (.c (cM 3 (b9 (rpL a f es ms)))) (jnV es ms) := by
 unfold rpL
 cases h : c8 es ms with
 | true => exact tI a 3 f es ms hes hms hl hf1 hf2 hfa h
 | false => exact aKP [some 3] (tJ a 3 f es ms hes hms hl hf1 hf2 hfa h)
theorem wD {k : Nat} {ms : List Ms} (hk : k <= 60) (h : ms.length <= 2 * k) {c : Nat} (hc : c <= 10) : ((b9 ms).length + c) * (32 + 1) <= 140737488355328 := by rw [mH]; omega
theorem do_give (what who n : Int) (l : List Int) (hl : NumOk l 0) {k : Nat} {U : List (List UInt8)} {e1 e2 e3 : RS} {ms : List Ms} (h : WOk k U e1 e2 e3 ms) (hk : k <= 60) (hw : mdL what 8 < 2) : ∃ U' f1 f2 f3 ns, WOk (k + 1) U' f1 f2 f3 ns /\ Gr e1 f1 /\ Gr e2 f2 /\ Gr e3 f3 /\ DoS g what who n l e1 e2 e3 (b9 ms) f1 f2 f3 (b9 ns) := by
 have hp := oH who (m := 3) (by decide)
 have hU := h.ul
 have hq : mdL who 3 = 0 \/ mdL who 3 = 1 \/ mdL who 3 = 2 := by omega
 rcases hq with hq | hq | hq
 obtain ⟨it, hit, -, hau, hs⟩ := lU (g := g) what who n 1 l hl ⟨by decide, by decide⟩
 obtain ⟨a1, a2⟩ := aEA h.k1 (by omega) hit hau (by decide) (by decide)
 exact ⟨itT it :: U, eF 1 e1 it, e2, e3, ms, ⟨by simp; omega, a1, h.k2.up _, h.k3.up _, fun m hm => (h.mo m hm).up _, by have := h.ml; omega⟩, a2, a8 _, a8 _, doG0 what who n l e1 e2 e3 (b9 ms) _ _ it _ ⟨hs, p4 1 3 e1 it h.k1.rs hit, decide_eq_true hw, bI what 8 (by decide) (by decide), cW (by decide) (by decide) hq⟩⟩
 obtain ⟨it, hit, -, hau, hs⟩ := lU (g := g) what who n 2 l hl ⟨by decide, by decide⟩
 obtain ⟨a1, a2⟩ := aEA h.k2 (by omega) hit hau (by decide) (by decide)
 exact ⟨itT it :: U, e1, eF 2 e2 it, e3, ms, ⟨by simp; omega, h.k1.up _, a1, h.k3.up _, fun m hm => (h.mo m hm).up _, by have := h.ml; omega⟩, a8 _, a2, a8 _, doG1 what who n l e1 e2 e3 (b9 ms) _ _ it _ ⟨hs, p4 2 3 e2 it h.k2.rs hit, decide_eq_true hw, bI what 8 (by decide) (by decide), cW (by decide) (by decide) hq⟩⟩
 obtain ⟨it, hit, -, hau, hs⟩ := lU (g := g) what who n 3 l hl ⟨by decide, by decide⟩
 obtain ⟨a1, a2⟩ := aEA h.k3 (by omega) hit hau (by decide) (by decide)
 exact ⟨itT it :: U, e1, e2, eF 3 e3 it, ms, ⟨by simp; omega, h.k1.up _, h.k2.up _, a1, fun m hm => (h.mo m hm).up _, by have := h.ml; omega⟩, a8 _, a8 _, a2, doG2 what who n l e1 e2 e3 (b9 ms) _ _ it _ ⟨hs, p4 3 3 e3 it h.k3.rs hit, decide_eq_true hw, bI what 8 (by decide) (by decide), cW (by decide) (by decide) hq⟩⟩
theorem aBR (what who n : Int) (l : List Int) {k : Nat} {U : List (List UInt8)} {e1 e2 e3 : RS} {ms : List Ms} (h : WOk k U e1 e2 e3 ms) (hk : k <= 60) (hw : mdL what 8 = 2) : ∃ U' f1 f2 f3 ns, WOk (k + 1) U' f1 f2 f3 ns /\ Gr e1 f1 /\ Gr e2 f2 /\ Gr e3 f3 /\ DoS g what who n l e1 e2 e3 (b9 ms) f1 f2 f3 (b9 ns) := by
 have hp := oH who (m := 3) (by decide)
 have hv := oH n (m := 4) (by decide)
 have hU := h.ul
 have hq : mdL who 3 = 0 \/ mdL who 3 = 1 \/ mdL who 3 = 2 := by omega
 rcases hq with hq | hq | hq
 obtain ⟨a1, a2⟩ := wd_k h.k1 (1 + mdL n 4)
 exact ⟨U, _, e2, e3, ms, ⟨by omega, a1, h.k2, h.k3, h.mo, by have := h.ml; omega⟩, a2, a8 _, a8 _, doW0 what who n l e1 e2 e3 (b9 ms) _ _ _ ⟨bI n 4 (by decide) (by decide), (by unfold Go.Eng.inR; omega), f4 1 3 _ e1 h.k1.rs, cW (by decide) (by decide) hw, cW (by decide) (by decide) hq⟩⟩
 obtain ⟨a1, a2⟩ := wd_k h.k2 (1 + mdL n 4)
 exact ⟨U, e1, _, e3, ms, ⟨by omega, h.k1, a1, h.k3, h.mo, by have := h.ml; omega⟩, a8 _, a2, a8 _, doW1 what who n l e1 e2 e3 (b9 ms) _ _ _ ⟨bI n 4 (by decide) (by decide), (by unfold Go.Eng.inR; omega), f4 2 3 _ e2 h.k2.rs, cW (by decide) (by decide) hw, cW (by decide) (by decide) hq⟩⟩
 obtain ⟨a1, a2⟩ := wd_k h.k3 (1 + mdL n 4)
 exact ⟨U, e1, e2, _, ms, ⟨by omega, h.k1, h.k2, a1, h.mo, by have := h.ml; omega⟩, a8 _, a8 _, a2, doW2 what who n l e1 e2 e3 (b9 ms) _ _ _ ⟨bI n 4 (by decide) (by decide), (by unfold Go.Eng.inR; omega), f4 3 3 _ e3 h.k3.rs, cW (by decide) (by decide) hw, cW (by decide) (by decide) hq⟩⟩
theorem do_tick (what who n : Int) (l : List Int) {k : Nat} {U : List (List UInt8)} {e1 e2 e3 : RS} {ms : List Ms} (h : WOk k U e1 e2 e3 ms) (hk : k <= 60) (hw : mdL what 8 = 3) : ∃ U' f1 f2 f3 ns, WOk (k + 1) U' f1 f2 f3 ns /\ Gr e1 f1 /\ Gr e2 f2 /\ Gr e3 f3 /\ DoS g what who n l e1 e2 e3 (b9 ms) f1 f2 f3 (b9 ns) := by
 have hp := oH who (m := 3) (by decide)
 have hU := h.ul
 have hm := h.ml
 have hq : mdL who 3 = 0 \/ mdL who 3 = 1 \/ mdL who 3 = 2 := by omega
 have two : ∀ (a b c : Int) (e : RS), KOk U e -> 1 <= a -> a <= 3 -> 1 <= b -> b <= 3 -> 1 <= c -> c <= 3 -> ¬ a = b -> ¬ a = c -> ∀ m, m ∈ ms ++ [⟨a, b, e⟩, ⟨a, c, e⟩] -> MsOk U m := by
  intro a b c e he h1 h2 h3 h4 h5 h6 h7 h8 m hm
  simp only [List.mem_append, List.mem_cons, List.not_mem_nil, or_false] at hm
  rcases hm with hm | rfl | rfl
  exact h.mo m hm
  exact ⟨he, h1, h2, h3, h4, h7⟩
  exact ⟨he, h1, h2, h5, h6, h8⟩
 rcases hq with hq | hq | hq
 refine ⟨U, e1, e2, e3, ms ++ [⟨1, 2, e1⟩, ⟨1, 3, e1⟩], ⟨by omega, h.k1, h.k2, h.k3, two 1 2 3 e1 h.k1 (by decide) (by decide) (by decide) (by decide) (by decide) (by decide) (by decide) (by decide), by simp; omega⟩, a8 _, a8 _, a8 _, ?_⟩
 rw [gP]
 exact doT0 what who n l e1 e2 e3 (b9 ms) _ ⟨k7 1 3 e1 _ h.k1.rs (by decide) (by decide) rfl, wD hk hm (by decide), cW (by decide) (by decide) hw, cW (by decide) (by decide) hq⟩
 refine ⟨U, e1, e2, e3, ms ++ [⟨2, 1, e2⟩, ⟨2, 3, e2⟩], ⟨by omega, h.k1, h.k2, h.k3, two 2 1 3 e2 h.k2 (by decide) (by decide) (by decide) (by decide) (by decide) (by decide) (by decide) (by decide), by simp; omega⟩, a8 _, a8 _, a8 _, ?_⟩
 rw [gP]
 exact doT1 what who n l e1 e2 e3 (b9 ms) _ ⟨k7 2 3 e2 _ h.k2.rs (by decide) (by decide) rfl, wD hk hm (by decide), cW (by decide) (by decide) hw, cW (by decide) (by decide) hq⟩
 refine ⟨U, e1, e2, e3, ms ++ [⟨3, 1, e3⟩, ⟨3, 2, e3⟩], ⟨by omega, h.k1, h.k2, h.k3, two 3 1 2 e3 h.k3 (by decide) (by decide) (by decide) (by decide) (by decide) (by decide) (by decide) (by decide), by simp; omega⟩, a8 _, a8 _, a8 _, ?_⟩
 rw [gP]
 exact doT2 what who n l e1 e2 e3 (b9 ms) _ ⟨k7 3 3 e3 _ h.k3.rs (by decide) (by decide) rfl, wD hk hm (by decide), cW (by decide) (by decide) hw, cW (by decide) (by decide) hq⟩
theorem do_take (what who n : Int) (l : List Int) {k : Nat} {U : List (List UInt8)} {e1 e2 e3 : RS} {ms : List Ms} (h : WOk k U e1 e2 e3 ms) (hk : k <= 60) (hw : 3 < mdL what 8) : ∃ U' f1 f2 f3 ns, WOk (k + 1) U' f1 f2 f3 ns /\ Gr e1 f1 /\ Gr e2 f2 /\ Gr e3 f3 /\ DoS g what who n l e1 e2 e3 (b9 ms) f1 f2 f3 (b9 ns) := by
 have hU := h.ul
 have hm := h.ml
 by_cases h0 : ms = []
 ·subst h0
  exact ⟨U, e1, e2, e3, [], h.next, a8 _, a8 _, a8 _, doN what who n l e1 e2 e3 _ _ ⟨decide_eq_false (by omega), decide_eq_false (by omega), decide_eq_false (by omega), bI what 8 (by decide) (by decide), bI who 3 (by decide) (by decide)⟩⟩
 ·have hlen : 0 < ms.length := List.length_pos_iff.2 h0
  have hv := oH n (m := (ms.length : Int)) (by omega)
  have hat : ms[(mdL n ms.length).toNat]? = some (ms.getD (mdL n ms.length).toNat Ms.z) := by
   rw [List.getD_eq_getElem?_getD, List.getElem?_eq_getElem (by omega)]; rfl
  have hmm := h.mo _ (a7 (l := ms) (k := (mdL n ms.length).toNat) (z := Ms.z) (by omega))
  generalize ms.getD (mdL n ms.length).toNat Ms.z = m at hat hmm
  obtain ⟨f, t, M⟩ := m
  have hd : (b9 ms)[(mdL n (ms.length : Int)).toNat]? = some (MsD ⟨f, t, M⟩) := by rw [b9, List.getElem?_map, hat]; rfl
  rw [<- mH ms] at hd hv
  have hmd : SpM g n ((b9 ms).length : Int) (mdL n ((b9 ms).length : Int)) := bI n _ (by omega) (by rw [mH]; omega)
  have ht : t = 1 \/ t = 2 \/ t = 3 := by have := hmm.t1; have := hmm.t3; simp only at *; omega
  have hpos : decide (((b9 ms).length : Int) > 0) = true := decide_eq_true (by rw [mH]; omega)
  have hno : ∀ c : Int, c <= 3 -> decide (mdL what 8 = c) = false := fun c hc => decide_eq_false (by omega)
  have hf := hmm.f1
  have hf3 := hmm.f3
  have hne := hmm.ne
  have hkm := hmm.k
  simp only at hf hf3 hne hkm
  have hlm := hkm.len
  rcases ht with rfl | rfl | rfl
  ·have hl := h.k1.len
   obtain ⟨a1, a2⟩ := aD0 h.k1 hkm (by omega)
   have hs := lZ (g := g) 1 f e1 M h.k1.rs hkm.rs (by omega) hf hf3 hne
   refine ⟨U, jnV e1 M, e2, e3, ms ++ rpL 1 f e1 M, ⟨by omega, a1, h.k2, h.k3, ?_, ?_⟩, a2, a8 _, a8 _, ?_⟩
   ·intro m hm
    rcases List.mem_append.1 hm with hm | hm
    ·exact h.mo m hm
    ·unfold rpL at hm
     cases hb : c8 e1 M <;> rw [hb] at hm <;> simp only [cond_true, cond_false, List.mem_cons, List.not_mem_nil, or_false] at hm
     subst hm
     exact ⟨a1, show (1 : Int) <= 1 by decide, show (1 : Int) <= 3 by decide, hf, hf3, fun e => hne e.symm⟩
   ·unfold rpL; cases c8 e1 M <;> simp <;> omega
   ·rw [gP]
    unfold rpL at hs ⊢
    cases hb : c8 e1 M <;> rw [hb] at hs <;> simp only [cond_true, cond_false] at hs ⊢
    ·exact doMA0 what who n l e1 e2 e3 (b9 ms) _ _ _ _ _ _ ⟨hs, wD hk hm (by decide), hmd, hv, hd, hpos, hno 3 (by decide), hno 2 (by decide), decide_eq_false (by omega), bI what 8 (by decide) (by decide), bI who 3 (by decide) (by decide)⟩
    ·exact doMB0 what who n l e1 e2 e3 (b9 ms) _ _ _ _ _ _ _ ⟨hs, wD hk hm (by decide), hmd, hv, hd, hpos, hno 3 (by decide), hno 2 (by decide), decide_eq_false (by omega), bI what 8 (by decide) (by decide), bI who 3 (by decide) (by decide)⟩
  ·have hl := h.k2.len
   obtain ⟨a1, a2⟩ := aD0 h.k2 hkm (by omega)
   have hs := lZ (g := g) 2 f e2 M h.k2.rs hkm.rs (by omega) hf hf3 hne
   refine ⟨U, e1, jnV e2 M, e3, ms ++ rpL 2 f e2 M, ⟨by omega, h.k1, a1, h.k3, ?_, ?_⟩, a8 _, a2, a8 _, ?_⟩
   ·intro m hm
    rcases List.mem_append.1 hm with hm | hm
    ·exact h.mo m hm
    ·unfold rpL at hm
     cases hb : c8 e2 M <;> rw [hb] at hm <;> simp only [cond_true, cond_false, List.mem_cons, List.not_mem_nil, or_false] at hm
     subst hm
     exact ⟨a1, show (1 : Int) <= 2 by decide, show (2 : Int) <= 3 by decide, hf, hf3, fun e => hne e.symm⟩
   ·unfold rpL; cases c8 e2 M <;> simp <;> omega
   ·rw [gP]
    unfold rpL at hs ⊢
    cases hb : c8 e2 M <;> rw [hb] at hs <;> simp only [cond_true, cond_false] at hs ⊢
    ·exact doMA1 what who n l e1 e2 e3 (b9 ms) _ _ _ _ _ _ ⟨hs, wD hk hm (by decide), hmd, hv, hd, hpos, hno 3 (by decide), hno 2 (by decide), decide_eq_false (by omega), bI what 8 (by decide) (by decide), bI who 3 (by decide) (by decide)⟩
    ·exact doMB1 what who n l e1 e2 e3 (b9 ms) _ _ _ _ _ _ _ ⟨hs, wD hk hm (by decide), hmd, hv, hd, hpos, hno 3 (by decide), hno 2 (by decide), decide_eq_false (by omega), bI what 8 (by decide) (by decide), bI who 3 (by decide) (by decide)⟩
  ·have hl := h.k3.len
   obtain ⟨a1, a2⟩ := aD0 h.k3 hkm (by omega)
   have hs := lZ (g := g) 3 f e3 M h.k3.rs hkm.rs (by omega) hf hf3 hne
   refine ⟨U, e1, e2, jnV e3 M, ms ++ rpL 3 f e3 M, ⟨by omega, h.k1, h.k2, a1, ?_, ?_⟩, a8 _, a8 _, a2, ?_⟩
   ·intro m hm
    rcases List.mem_append.1 hm with hm | hm
    ·exact h.mo m hm
    ·unfold rpL at hm
     cases hb : c8 e3 M <;> rw [hb] at hm <;> simp only [cond_true, cond_false, List.mem_cons, List.not_mem_nil, or_false] at hm
     subst hm
     exact ⟨a1, show (1 : Int) <= 3 by decide, show (3 : Int) <= 3 by decide, hf, hf3, fun e => hne e.symm⟩
   ·unfold rpL; cases c8 e3 M <;> simp <;> omega
   ·rw [gP]
    unfold rpL at hs ⊢
    cases hb : c8 e3 M <;> rw [hb] at hs <;> simp only [cond_true, cond_false] at hs ⊢
    ·exact doMA2 what who n l e1 e2 e3 (b9 ms) _ _ _ _ _ _ ⟨hs, wD hk hm (by decide), hmd, hv, hd, hpos, hno 3 (by decide), hno 2 (by decide), decide_eq_false (by omega), bI what 8 (by decide) (by decide), bI who 3 (by decide) (by decide)⟩
    ·exact doMB2 what who n l e1 e2 e3 (b9 ms) _ _ _ _ _ _ _ ⟨hs, wD hk hm (by decide), hmd, hv, hd, hpos, hno 3 (by decide), hno 2 (by decide), decide_eq_false (by omega), bI what 8 (by decide) (by decide), bI who 3 (by decide) (by decide)⟩
theorem do_ok (what who n : Int) (l : List Int) (hl : NumOk l 0) {k : Nat} {U : List (List UInt8)} {e1 e2 e3 : RS} {ms : List Ms} (h : WOk k U e1 e2 e3 ms) (hk : k <= 60) : ∃ U' f1 f2 f3 ns, WOk (k + 1) U' f1 f2 f3 ns /\ Gr e1 f1 /\ Gr e2 f2 /\ Gr e3 f3 /\ DoS g what who n l e1 e2 e3 (b9 ms) f1 f2 f3 (b9 ns) := by
 have hb := oH what (m := 8) (by decide)
 by_cases h1 : mdL what 8 < 2
 exact do_give what who n l hl h hk h1
 by_cases h2 : mdL what 8 = 2
 exact aBR what who n l h hk h2
 by_cases h3 : mdL what 8 = 3
 exact do_tick what who n l h hk h3
 exact do_take what who n l h hk (by omega)
theorem aKV (a f : Int) {x : RS} (h : kSort x) : b9 (rpL a f x x) = [] := by unfold rpL; rw [(aFX h).2]; rfl
theorem exch_ok {k : Nat} {U : List (List UInt8)} {e1 e2 e3 : RS} {ms : List Ms} (h : WOk k U e1 e2 e3 ms) (hk : k <= 60) (ns : LD) : KOk U (exV e1 e2 e3) /\ V.Spec Tryz.prog (Gl g) 13 [.c (.bx 0 0)] (wO e1 e2 e3 ns) (.tup []) (wO (exV e1 e2 e3) (exV e1 e2 e3) (exV e1 e2 e3) ns) := by
 have hU := h.ul
 have k2 := (aD0 h.k2 h.k1 (by omega)).1
 have k3 := (aD0 h.k3 h.k1 (by omega)).1
 have g1 := (aD0 h.k1 k2 (by omega)).1
 have kx : KOk U (exV e1 e2 e3) := (aD0 k3 k2 (by omega)).1
 obtain ⟨x1, x2⟩ := ex_all h.k1.rs.sort h.k2.rs.sort h.k3.rs.sort
 have hle : ∀ {a b : RS}, KOk U a -> KOk U b -> a.length + b.length <= 4000 := fun ha hb => by have := ha.len; have := hb.len; omega
 have tk : ∀ {a : Int} {e : RS} {l : LD}, KOk U e -> aDY a (aI e) (tkL a 3) = l -> SpR g 25 a [] e (.c (cM 3 l)) e := fun he hl => k7 _ 3 _ _ he.rs (by decide) (by decide) hl
 have ta : ∀ {a f : Int} {e m r : RS}, KOk U e -> KOk U m -> 1 <= f -> f <= 3 -> ¬ f = a -> jnV e m = r -> SpR g 19 a [.agg [cI f, cI a, cS (S (aI m))]] e (.c (cM 3 (b9 (rpL a f e m)))) r := fun he hm h1 h2 h3 hr => hr ▸ lZ _ _ _ _ he.rs hm.rs (hle he hm) h1 h2 h3
 have tx : ∀ {a f : Int}, 1 <= f -> f <= 3 -> ¬ f = a -> SpR g 19 a [.agg [cI f, cI a, cS (S (aI (exV e1 e2 e3)))]] (exV e1 e2 e3) (.c (cM 3 [])) (exV e1 e2 e3) := fun h1 h2 h3 => by
  have := ta kx kx h1 h2 h3 (aFX kx.rs.sort).1
  rwa [aKV _ _ kx.rs.sort] at this
 refine ⟨kx, exchX e1 e2 e3 (jnV e2 e1) (jnV e3 e1) (jnV e1 (jnV e2 e1)) (exV e1 e2 e3) _ _ _ _ _ _ _ _ _ ns ⟨tx (by decide) (by decide) (by decide), tx (by decide) (by decide) (by decide), tk kx rfl, tx (by decide) (by decide) (by decide), tx (by decide) (by decide) (by decide), tk kx rfl, tx (by decide) (by decide) (by decide), tx (by decide) (by decide) (by decide), tk kx rfl, ta k2 kx (by decide) (by decide) (by decide) x2, ta g1 kx (by decide) (by decide) (by decide) x1, tk kx rfl, ta k3 k2 (by decide) (by decide) (by decide) rfl, ta h.k1 k2 (by decide) (by decide) (by decide) rfl, tk k2 rfl, ta h.k3 h.k1 (by decide) (by decide) (by decide) rfl, ta h.k2 h.k1 (by decide) (by decide) (by decide) rfl, tk h.k1 rfl⟩⟩
end Go.Proofs.YtclaplngjmgnoaaGreatDoor
namespace Go.Proofs.YtclaplngjmgnoaaGreatDoor
open Go.RowKit Go.V
variable {g : Gv}
theorem eqvX (k : Int) (s : ByteArray) (h : conj [Value.bool (decide (k = k)) = .bool true, Value.bool ((s).toList == (s).toList) = .bool true]) : SX g 63 [.agg [cI k, cS s, cI 0, cI 0, cI 0, cM 1 [], cM 1 []], .agg [cI k, cS s, cI 0, cI 0, cI 0, cM 1 [], cM 1 []]] (.c (cB true)) :=
 sX nFQ ((fun k => bif (Nat.beq k 107 || Nat.beq k 113) then some (.bool true) else none)) nFQ (T := []) (by kernel_rfl) h
theorem aM8 (v : Tv) : SX g 63 [.agg ((TvD v).map .d), .agg ((TvD v).map .d)] (.c (cB true)) := eqvX (tvK v) (S (tvS v)) ⟨by simp, by simp [conj]⟩
theorem eqiX (it : It) (h : conj [Value.bool (decide (it.id = it.id)) = .bool true, Value.bool (decide (it.author = it.author)) = .bool true, Value.bool (decide (it.rank = it.rank)) = .bool true, Value.bool (decide (it.time = it.time)) = .bool true, Value.bool (decide (it.kind = it.kind)) = .bool true, SX g 62 [.c (cM 7 (aG it.input)), .c (cM 7 (aG it.input))] (.c (cB true)), SX g 63 [.agg ((TvD it.output).map .d), .agg ((TvD it.output).map .d)] (.c (cB true)), Value.bool ((S it.prop).toList == (S it.prop).toList) = .bool true, Value.bool ((S it.param).toList == (S it.param).toList) = .bool true, SX g 64 [.c (cM 1 (intsD it.program)), .c (cM 1 (intsD it.program))] (.c (cB true))]) : SX g 37 [itC it, itC it] (.c (cB true)) :=
 sX nFQ (fun k => bif (Nat.beq k 107 || Nat.beq k 113 || Nat.beq k 120 || Nat.beq k 127 || Nat.beq k 134 || Nat.beq k 155 || Nat.beq k 162) then some (.bool true) else none) nFQ (T := [aR 62 (.c (cB true)), aR 63 (.c (cB true)), aR 64 (.c (cB true))]) (by kernel_rfl) h
end Go.Proofs.YtclaplngjmgnoaaGreatDoor
namespace Go.Proofs.YtclaplngjmgnoaaGreatDoor
open Go.RowKit Go.V
open Go.Eng (inR byteAt u8 dM)
variable {g : Gv}
theorem ints_ok (l : List Int) (hl : l.length <= 1000000) :
  SpG g 64 [.c (cM 1 (intsD l)), .c (cM 1 (intsD l))] [] (.c (cB true)) [] := by
 refine aP 26 Tryz.func64 (by kernel_rfl) fun fr hG => ?_
 refine zC hG [] [1, 0, 1] (!decide ((((intsD l).length : Int) : Int) = ((intsD l).length : Int))) (⟨[zM 0 1 (intsD l), zM 1 1 (intsD l), zB 4 false], []⟩) aB (fun hc1 => ?_) (fun hc1 => ?_)
 (try simp only [kJ, aG, aQ] at hc1)
 simp at hc1
 (try simp only [kJ, aG, aQ] at hc1)
 refine zL hG [] [0, 1, 0, 1, 1] (fun (zz : Nat) => match zz with | k => (l.length - k, ⟨[zM 0 1 (intsD l), zM 1 1 (intsD l), zB 4 false, zI 5 (k : Int)], []⟩, k <= l.length)) 0 aB ?_ ?_
 exact Nat.zero_le _
 rintro k hk
 refine zc hG [] [1, 0] (decide (((k : Int) : Int) < ((intsD l).length : Int))) aB (fun hc3 => ?_) (fun hc3 => ?_)
 (try simp only [kJ, aG, aQ] at hc3)
 refine zc hG [(6, 2, .elem (intD ((l).getD k 0))), (6, 6, .elem (intD ((l).getD k 0)))] [1, 0, 0, 1] (!decide (((l).getD k 0 : Int) = ((l).getD k 0))) (aA (by intros; exact cA _ (by omega) (by (try simp only [aCA] at *); omega) : (0 : Int) <= (k : Int) /\ (intsD l)[k]? = some (intD ((l).getD k 0))) (aC (by intros; exact cA _ (by omega) (by (try simp only [aCA] at *); omega) : (0 : Int) <= (k : Int) /\ (intsD l)[k]? = some (intD ((l).getD k 0))))) (fun hc4 => ?_) (fun hc4 => ?_)
 (try simp only [kJ, aG, aQ] at hc4)
 simp at hc4
 (try simp only [kJ, aG, aQ] at hc4)
 refine zD hG [] (k + 1) (aC (by intros; (try simp only [inR, intsD, aG, aQ, List.length_map] at *); omega : inR ((k : Int) + 1))) ?_ ?_
 (try dsimp only); omega
 (try simp only [aCA, aG, aQ] at *); omega
 (try simp only [kJ, aG, aQ] at hc3)
 refine zE hG [] (.exit 0) (⟨[zB 4 false], []⟩) aB rfl ?_
 exact zr hG [] [] aB
theorem aHQ (l : List Tv) (hl : l.length <= 1000000) :
  SpG g 62 [.c (cM 7 (aG l)), .c (cM 7 (aG l))] [] (.c (cB true)) [] := by
 refine aP 29 Tryz.func62 (by kernel_rfl) fun fr hG => ?_
 refine zC hG [] [1, 0, 1] (!decide ((((aG l).length : Int) : Int) = ((aG l).length : Int))) (⟨[zM 0 7 (aG l), zM 1 7 (aG l), zB 4 false], []⟩) aB (fun hc1 => ?_) (fun hc1 => ?_)
 (try simp only [kJ, aG, aQ] at hc1)
 simp at hc1
 (try simp only [kJ, aG, aQ] at hc1)
 refine zL hG [] [0, 1, 0, 1, 1] (fun (zz : Nat) => match zz with | k => (l.length - k, ⟨[zM 0 7 (aG l), zM 1 7 (aG l), zB 4 false, zI 5 (k : Int)], []⟩, k <= l.length)) 0 aB ?_ ?_
 exact Nat.zero_le _
 rintro k hk
 refine zc hG [] [1, 0] (decide (((k : Int) : Int) < ((aG l).length : Int))) aB (fun hc3 => ?_) (fun hc3 => ?_)
 (try simp only [kJ, aG, aQ] at hc3)
 refine zc hG [(6, 2, .elem (TvD ((l).getD k none))), (6, 6, .elem (TvD ((l).getD k none))), (6, 8, kB true)] [1, 1, 0, 0, 1] (false) (aA (by intros; exact cA _ (by omega) (by (try simp only [zq4, aG] at *); omega) : (0 : Int) <= (k : Int) /\ (aG l)[k]? = some (TvD ((l).getD k none))) (aA (by intros; exact cA _ (by omega) (by (try simp only [zq4, aG] at *); omega) : (0 : Int) <= (k : Int) /\ (aG l)[k]? = some (TvD ((l).getD k none))) (cS1 g (aM8 (l.getD k none))))) (fun hc4 => absurd hc4 (by decide)) (fun _ => ?_)
 refine zD hG [] (k + 1) (aC (by intros; (try simp only [inR, intsD, aG, aQ, List.length_map] at *); omega : inR ((k : Int) + 1))) ?_ ?_
 (try dsimp only); omega
 (try simp only [aCA, aG, aQ] at *); omega
 (try simp only [kJ, aG, aQ] at hc3)
 refine zE hG [] (.exit 0) (⟨[zB 4 false], []⟩) aB rfl ?_
 exact zr hG [] [] aB
theorem eqi_ok (it : It) (h : ItOk it) : SX g 37 [itC it, itC it] (.c (cB true)) := eqiX it ⟨by simp, by simp, by simp, by simp, by simp, aHQ it.input (by have := h.len; omega), aM8 it.output, by simp, by simp, ints_ok it.program (by have := h.plen; omega)⟩
theorem tM (l : List It) (hl : l.length <= 1000000) (hi : ∀ i, i ∈ l -> ItOk i) :
  SpG g 15 [.c (cM 16 (aQ l)), .c (cM 16 (aQ l))] [] (.c (cB true)) [] := by
 refine aP 29 Tryz.func15 (by kernel_rfl) fun fr hG => ?_
 refine zC hG [] [1, 0, 1] (!decide ((((aQ l).length : Int) : Int) = ((aQ l).length : Int))) (⟨[zM 0 16 (aQ l), zM 1 16 (aQ l), zB 4 false], []⟩) aB (fun hc1 => ?_) (fun hc1 => ?_)
 (try simp only [kJ, aG, aQ] at hc1)
 simp at hc1
 (try simp only [kJ, aG, aQ] at hc1)
 refine zL hG [] [0, 1, 0, 1, 1] (fun (zz : Nat) => match zz with | k => (l.length - k, ⟨[zM 0 16 (aQ l), zM 1 16 (aQ l), zB 4 false, zI 5 (k : Int)], []⟩, k <= l.length)) 0 aB ?_ ?_
 exact Nat.zero_le _
 rintro k hk
 refine zc hG [] [1, 0] (decide (((k : Int) : Int) < ((aQ l).length : Int))) aB (fun hc3 => ?_) (fun hc3 => ?_)
 (try simp only [kJ, aG, aQ] at hc3)
 refine zc hG [(6, 2, .elem (ItD ((l).getD k It.z))), (6, 6, .elem (ItD ((l).getD k It.z))), (6, 8, kB true)] [1, 1, 0, 0, 1] (false) (aA (by intros; exact cA (f := ItD) It.z (by omega) (by (try simp only [aQ, List.length_map] at *); omega) : (0 : Int) <= (k : Int) /\ (aQ l)[k]? = some (ItD ((l).getD k It.z))) (aA (by intros; exact cA (f := ItD) It.z (by omega) (by (try simp only [aQ, List.length_map] at *); omega) : (0 : Int) <= (k : Int) /\ (aQ l)[k]? = some (ItD ((l).getD k It.z))) (cS1 g (eqi_ok (l.getD k It.z) (hi _ (a7 (by (try simp only [aQ, List.length_map] at *); omega))))))) (fun hc4 => absurd hc4 (by decide)) (fun _ => ?_)
 refine zD hG [] (k + 1) (aC (by intros; (try simp only [inR, intsD, aG, aQ, List.length_map] at *); omega : inR ((k : Int) + 1))) ?_ ?_
 (try dsimp only); omega
 (try simp only [aCA, aG, aQ] at *); omega
 (try simp only [kJ, aG, aQ] at hc3)
 refine zE hG [] (.exit 0) (⟨[zB 4 false], []⟩) aB rfl ?_
 exact zr hG [] [] aB
end Go.Proofs.YtclaplngjmgnoaaGreatDoor
namespace Go.Proofs.YtclaplngjmgnoaaGreatDoor
open Go.RowKit Go.V
open Go.Eng (inR byteAt u8 dM)
variable {g : Gv}
theorem aMQ {n : Int} {es : RS} (h : RsOk n es) : ∀ i, i ∈ inF (bE es) -> ItOk i := by
 intro i hi
 obtain ⟨m, hm, rfl⟩ := List.mem_map.1 hi
 exact aFU h _ (inP_is hm).1
theorem aF9 {n : Int} {es : RS} (h : RsOk n es) : (inF (bE es)).length <= 1000000 := by
 have h1 := aE3 (bE es)
 have h2 := rJ es
 have h3 := h.len
 rw [inF, List.length_map]; omega
abbrev y41 : Ob := .arr 0 ⟨35, [(0, .bx 302 0), (1, .bx 303 0), (2, .bx 304 0)]⟩ 1 ([[.v undef], [.v undef], [.v undef]])
theorem converges_ok (acts : List Ac) (hN : ∀ k, NumOk (acts.getD k Ac.z).l 0) (hL : acts.length <= 9223372036854775807) :
  SpG g 3 [.c (cM 4 (iU acts))] [] (.c (cB true)) [] := by
 refine aP 69 Tryz.func3 (by kernel_rfl) fun fr hG => ?_
 refine zC hG [(1, 0, kB true), (2, 0, .callG (.tup [(false, [.bx 100 0]), (false, [cB true])]) [] [(100, .box 34 [.ar 101 0, cN]), (101, .arr 0 ⟨35, [(0, .bx 102 0), (1, .bx 103 0), (2, .bx 104 0)]⟩ 1 ([[.v undef], [.v undef], [.v undef]])), (102, .box 73 [cI 1, cI 3, .mp 105]), (103, .box 73 [cI 2, cI 3, .mp 106]), (104, .box 73 [cI 3, cI 3, .mp 107]), (105, y32), (106, y32), (107, y32)])] [1, 0, 1, 1, 1] (false) (⟨[zM 0 4 (iU acts), zB 2 false, zB 3 true, zX 4 300 0], [(300, .box 34 [.ar 301 0, cN]), (301, y41), (302, .box 73 [cI 1, cI 3, .mp 305]), (303, .box 73 [cI 2, cI 3, .mp 306]), (304, .box 73 [cI 3, cI 3, .mp 307]), (305, y32), (306, y32), (307, y32)]⟩) (cS2 g (aHP) (cS1 g (aN4))) (fun hc1 => absurd hc1 (by decide)) (fun _ => ?_)
 refine zA hG [] [0, 1, 0, 1, 1, 1, 1] (⟨[zM 0 4 (iU acts), zB 2 false, zB 3 true, zX 4 300 0, zI 6 0], [(300, .box 34 [.ar 301 0, cN]), (301, y41), (302, .box 73 [cI 1, cI 3, .mp 305]), (303, .box 73 [cI 2, cI 3, .mp 306]), (304, .box 73 [cI 3, cI 3, .mp 307]), (305, y32), (306, y32), (307, y32)]⟩) [] [(300, 1, 9008, 43, 3)] (fun (zz : Nat × List (List UInt8) × RS × RS × RS × List Ms) => match zz with | (k, U, e1, e2, e3, ms) => (acts.length - k, ⟨[zM 0 4 (iU acts), zB 2 false, zB 3 true, zX 4 300 0, zI 6 (k : Int)], [(300, .box 34 [.ar 301 0, .ar 9008 0]), (301, y41), (302, .box 73 [cI 1, cI 3, .mp 305]), (303, .box 73 [cI 2, cI 3, .mp 306]), (304, .box 73 [cI 3, cI 3, .mp 307]), (305, mBQ e1), (306, mBQ e2), (307, mBQ e3), (9008, .arr 0 43 3 (b9 ms))]⟩, k <= acts.length /\ k <= 40 /\ WOk k U e1 e2 e3 ms)) (0, [], [], [], [], []) aB ?_ ?_
 exact ⟨Nat.zero_le _, Nat.zero_le _, w_0⟩
 rintro ⟨k, U, e1, e2, e3, ms⟩ ⟨hka, hk3, hw⟩
 obtain ⟨U', f1, f2, f3, ns, hw2, hg1, hg2, hg3, hs⟩ := do_ok (g := g) (acts.getD k Ac.z).what (acts.getD k Ac.z).who (acts.getD k Ac.z).n (acts.getD k Ac.z).l (hN k) hw (by omega)
 refine zc hG [] [1, 0] ((decide (((k : Int) : Int) < ((iU acts).length : Int))) && (decide (((k : Int) : Int) < 40))) aB (fun hc3 => ?_) (fun hc3 => ?_)
 (try simp only [blS, iU, List.length_map] at hc3)
 refine zD hG [(8, 3, .elem (AcD (acts.getD k Ac.z))), (8, 5, .callG (.tup []) [300, 301, 302, 305, 303, 306, 304, 307, 9008] [(0, .box 34 [.ar 1 0, .ar 8 0]), (1, .arr 0 ⟨35, [(0, .bx 2 0), (1, .bx 4 0), (2, .bx 6 0)]⟩ 1 ([[.v undef], [.v undef], [.v undef]])), (2, .box 73 [cI 1, cI 3, .mp 3]), (3, mBQ f1), (4, .box 73 [cI 2, cI 3, .mp 5]), (5, mBQ f2), (6, .box 73 [cI 3, cI 3, .mp 7]), (7, mBQ f3), (8, .arr 0 43 3 (b9 ns))])] (k + 1, U', f1, f2, f3, ns) (aA (by intros; exact cA (f := AcD) Ac.z (by omega) (by (try simp only [iU, List.length_map] at *); omega) : (0 : Int) <= (k : Int) /\ (iU acts)[k]? = some (AcD (acts.getD k Ac.z))) (cS2 g (hs) (aC (by intros; (try simp only [inR, iU, List.length_map] at *); omega : inR ((k : Int) + 1))))) ?_ ?_
 (try dsimp only); omega
 exact ⟨by omega, by omega, hw2⟩
 (try simp only [blS, iU, List.length_map] at hc3)
 refine zE hG [] (.exit 0) (⟨[zB 2 false, zB 3 true, zX 4 300 0], [(300, .box 34 [.ar 301 0, .ar 9008 0]), (301, y41), (302, .box 73 [cI 1, cI 3, .mp 305]), (303, .box 73 [cI 2, cI 3, .mp 306]), (304, .box 73 [cI 3, cI 3, .mp 307]), (305, mBQ e1), (306, mBQ e2), (307, mBQ e3), (9008, .arr 0 43 3 (b9 ms))]⟩) aB rfl ?_
 obtain ⟨hx, hex⟩ := exch_ok (g := g) hw (by omega) (b9 ms)
 refine qL (f := 100) (pos := [1, 1, 1, 1, 1]) (by kernel_rfl) ?_
 refine stepXX hG bX [eT 13 fun _ _ => some (.tup [], wO (exV e1 e2 e3) (exV e1 e2 e3) (exV e1 e2 e3) (b9 ms)), eM 14 fun _ => some (.c (cS (S (aI (exV e1 e2 e3))))), eM 16 fun _ => some (.c (cM 16 (aQ (inF (bE (exV e1 e2 e3)))))), aR 15 (.c (cB true))] nFQ (fun k => bif Nat.beq k 135 || Nat.beq k 172 then some (.bool false) else none) nFQ 100 .ret (⟨[zB 2 true], []⟩) (cs := [SpR g 14 3 [] (exV e1 e2 e3) (.c (cS (S (aI (exV e1 e2 e3))))) (exV e1 e2 e3), SpR g 14 1 [] (exV e1 e2 e3) (.c (cS (S (aI (exV e1 e2 e3))))) (exV e1 e2 e3), Go.Value.bool (!((S (aI (exV e1 e2 e3))).toList == (S (aI (exV e1 e2 e3))).toList)) = .bool false, SpR g 16 3 [] (exV e1 e2 e3) (.c (cM 16 (aQ (inF (bE (exV e1 e2 e3)))))) (exV e1 e2 e3), SpR g 16 1 [] (exV e1 e2 e3) (.c (cM 16 (aQ (inF (bE (exV e1 e2 e3)))))) (exV e1 e2 e3), SX g 15 [.c (cM 16 (aQ (inF (bE (exV e1 e2 e3))))), .c (cM 16 (aQ (inF (bE (exV e1 e2 e3)))))] (.c (cB true)), SpR g 14 2 [] (exV e1 e2 e3) (.c (cS (S (aI (exV e1 e2 e3))))) (exV e1 e2 e3), SpR g 14 1 [] (exV e1 e2 e3) (.c (cS (S (aI (exV e1 e2 e3))))) (exV e1 e2 e3), Go.Value.bool (!((S (aI (exV e1 e2 e3))).toList == (S (aI (exV e1 e2 e3))).toList)) = .bool false, SpR g 16 2 [] (exV e1 e2 e3) (.c (cM 16 (aQ (inF (bE (exV e1 e2 e3)))))) (exV e1 e2 e3), SpR g 16 1 [] (exV e1 e2 e3) (.c (cM 16 (aQ (inF (bE (exV e1 e2 e3)))))) (exV e1 e2 e3), SX g 15 [.c (cM 16 (aQ (inF (bE (exV e1 e2 e3))))), .c (cM 16 (aQ (inF (bE (exV e1 e2 e3)))))] (.c (cB true)), V.Spec Tryz.prog (Gl g) 13 [.c (.bx 0 0)] (wO e1 e2 e3 (b9 ms)) (.tup []) (wO (exV e1 e2 e3) (exV e1 e2 e3) (exV e1 e2 e3) (b9 ms))]) (by kernel_rfl) (⟨dP 3 3 _ hx.rs, dP 1 3 _ hx.rs, by simp, fV 3 3 _ hx.rs, fV 1 3 _ hx.rs, tM _ (aF9 hx.rs) (aMQ hx.rs), dP 2 3 _ hx.rs, dP 1 3 _ hx.rs, by simp, fV 2 3 _ hx.rs, fV 1 3 _ hx.rs, tM _ (aF9 hx.rs) (aMQ hx.rs), hex⟩) ?_
 refine iV hG bX [] [] (.c (cB true)) [] (by kernel_rfl) aB ?_ ?_
 rfl
 first | rfl | (funext i; simp only [aO, upd]; ((repeat' split) <;> first | rfl | (exfalso; omega)))
end Go.Proofs.YtclaplngjmgnoaaGreatDoor
