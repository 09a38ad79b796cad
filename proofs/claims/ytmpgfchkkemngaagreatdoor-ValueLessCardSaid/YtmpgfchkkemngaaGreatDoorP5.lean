/- Part 5 of the proof: texts Eng5. -/
import Derived.Test.YtmpgfchkkemngaaGreatDoorP4
import Derived.Deep.RegionHeld3
set_option linter.all false
namespace Go.Eng
open Go.RowKit
def lastB (ops : Array Oper) (j : Nat) : Bool := match ops[j]? with
 | some o => (List.range ops.size).all fun k => k == j || o.after.any fun e => Region.binds .any e && e.on == k
 | none => false
theorem lastB_spec {ops : Array Oper} {i j : Nat} {listed : Array Bool} (h : lastB ops j = true) (hi : i ∈ Region.ready .any ops listed) (hj : j ∈ Region.ready .any ops listed) : j = i := by
 obtain ⟨hiun, oi, hoi, _⟩ := mem_ready.1 hi
 obtain ⟨_, oj, hoj, hall⟩ := mem_ready.1 hj
 unfold lastB at h
 rw [hoj] at h
 simp only [List.all_eq_true, List.mem_range] at h
 have h1 := h i (Array.getElem?_eq_some_iff.1 hoi).1
 simp only [Bool.or_eq_true, beq_iff_eq] at h1
 rcases h1 with h1 | h1
 ·exact h1.symm
 ·obtain ⟨e, he, hb⟩ := Array.any_eq_true'.1 h1
  simp only [Bool.and_eq_true, beq_iff_eq] at hb
  have h2 := hall e he hb.1
  rw [hb.2] at h2
  exfalso
  rcases Nat.lt_or_ge i listed.size with h' | h'
  ·simp [h'] at hiun h2; rw [hiun] at h2; cases h2
  ·simp [Array.getElem?_eq_none h'] at h2
def wpD (P : Program) (ops : Array Oper) (Q : Exit → Act → World → Prop) (S : World → Prop) : Nat → Array Bool → Act → World → Prop
 | 0, listed, a, w => Region.ready .any ops listed = [] ∧ Q .normal a w
 | fuel + 1, listed, a, w =>
  (Region.ready .any ops listed = [] → Q .normal a w) ∧
  ∀ i ∈ Region.ready .any ops listed, wpOp P ops Q i (fun a' w' => (lastB ops i = false → S w') ∧ wpD P ops Q S fuel (listed.setIfInBounds i true) a' w') a w
section
variable {P : Program} {n : Nat} {ops : Array Oper} {Q : Exit → Act → World → Prop} {S : World → Prop} {own : List Bx} {w : World} {env : List En}
theorem wpAny_of_wpD : ∀ (fuel : Nat) (listed : Array Bool) (a : Act) (w : World), wpD P ops Q S fuel listed a w → wpAny P .any ops Q fuel listed a w
 | 0, _, _, _, h => h
 | fuel + 1, _, _, _, h => ⟨h.1, fun i hi => wpOp_mono (fun a' w' h' => wpAny_of_wpD fuel _ a' w' h'.2) (h.2 i hi)⟩
theorem wpD_first {i : Nat} {oi : Oper} {v : Value} (hi : ops[i]? = some oi) (hsel : ∀ (j : Nat) (o : Oper) cs b, ops[j]? = some o → o.op ≠ .select cs b)
  (hQ : ∀ c a w, Q (.panic c) (a.put oi.dst v) w → Q (.panic c) a w) :
  ∀ (fuel : Nat) (listed : Array Bool) (a : Act) (w : World),
   (∀ j oj, ops[j]? = some oj → j ≠ i → listed.getD j true = false → (∀ e ∈ oj.after, Region.binds .any e = true → e.on ≠ i) → oi.apart ops oj = true) →
   i ∈ Region.ready .any ops listed → YieldsIf P ops S oi v a → S w →
   wpD P ops Q S fuel (listed.setIfInBounds i true) (a.put oi.dst v) w → wpD P ops Q S (fuel + 1) listed a w := by
 intro fuel
 induction fuel with
 | zero =>
  intro listed a w _ hr hy hS H
  refine ⟨fun h => (by rw [h] at hr; cases hr), fun j hj => ?_⟩
  by_cases hji : j = i
  ·subst hji; exact hy.wpOp hi hS ⟨fun _ => hS, H⟩
  ·have := ready_mono hj hji
   rw [H.1] at this
   cases this
 | succ fuel ih =>
  intro listed a w hfree hr hy hS H
  refine ⟨fun h => (by rw [h] at hr; cases hr), fun j hj => ?_⟩
  by_cases hji : j = i
  ·subst hji; exact hy.wpOp hi hS ⟨fun _ => hS, H⟩
  ·have h1 := H.2 j (ready_mono hj hji)
   obtain ⟨hjun, oj, hoj, hall⟩ := mem_ready.1 hj
   have hnot : ∀ e ∈ oj.after, Region.binds .any e = true → e.on ≠ i := fun e he hb heq => by
    have h1 := hall e he hb
    have h0 := (mem_ready.1 hr).1
    rw [heq] at h1
    rcases Nat.lt_or_ge i listed.size with h' | h'
    ·simp [h'] at h0 h1; rw [h0] at h1; cases h1
    ·simp [Array.getElem?_eq_none h'] at h1
   have h2 := wpOp_putIf hoj (hfree j oj hoj hji hjun hnot) (fun cs b => hsel i oi cs b hi) (fun cs b => hsel j oj cs b hoj) hQ hy h1
   have hfree' : ∀ k ok, ops[k]? = some ok → k ≠ i → (listed.setIfInBounds j true).getD k true = false →
     (∀ e ∈ ok.after, Region.binds .any e = true → e.on ≠ i) → oi.apart ops ok = true := fun k ok hk hki hun hno => by
    refine hfree k ok hk hki ?_ hno
    by_cases hjk : j = k
    ·subst hjk; exact hjun
    ·rw [getD_set_ne true hjk] at hun; exact hun
   have hri : i ∈ Region.ready .any ops (listed.setIfInBounds j true) := ready_mono hr (Ne.symm hji)
   have hlast : lastB ops j = false := by
    cases hb : lastB ops j with
    | false => rfl
    | true => exact absurd (lastB_spec hb hr hj) hji
   refine wpOp_mono (fun a' w' h3 => ?_) h2
   obtain ⟨hy', hS', hw'⟩ := h3
   refine ⟨fun _ => hS' hlast, ih (listed.setIfInBounds j true) a' w' hfree' hri hy' (hS' hlast) ?_⟩
   rw [Array.setIfInBounds_comm _ _ hji]
   exact hw'
def RunD (P : Program) (n : Nat) (ops : Array Oper) (S : World → Prop) (fuel : Nat) (listed : Array Bool) (Q : Exit → Act → World → Prop) (env : List En) (own : List Bx) (w : World) : Prop :=
 ∀ a, Fits n env (nums own) a → wpD P ops (NoPanic Q) S fuel listed a w
def mark (k : Nat) (is : List Nat) : Array Bool := is.foldl (fun l i => l.setIfInBounds i true) (Array.replicate k false)
theorem run_drawn {id : Nat} (S : World → Prop) (hm : P.follows .mixedOrders = true) (hown : OwnOk w own)
  (h : ∀ w1, Below w.heap.size w w1 → OwnOk w1 own → RunD P n ops S ops.size (mark ops.size []) Q env own w1) : Run P n (.region id ops true) Q env own w := by
 intro a hf
 refine wp_region_noPanic (wp_region_any hm (wpAny_of_wpD (S := S) _ _ _ _ ?_))
 exact h { w with drawn := w.drawn + 1 } ⟨rfl, rfl, rfl, Nat.le_refl _, fun _ _ => rfl⟩ ⟨hown.at_, hown.inj⟩ a hf
theorem endD {fuel : Nat} {listed : Array Bool} (hr : Region.ready .any ops listed = []) (h : At n Q .normal env own w) : RunD P n ops S fuel listed Q env own w := by
 intro a hf
 cases fuel with
 | zero => exact ⟨hr, h a hf⟩
 | succ f => exact ⟨fun _ => h a hf, by rw [hr]; simp⟩
theorem noPanic_put {oi : Oper} {v : Value} : ∀ c a w, NoPanic Q (.panic c) (a.put oi.dst v) w → NoPanic Q (.panic c) a w := fun _ _ _ h => (h : False).elim
def takeB (ops : Array Oper) (is : List Nat) (i : Nat) : Bool := Region.noSelect ops && Region.free .any ops (mark ops.size is) i && (Region.ready .any ops (mark ops.size is)).contains i
theorem takeD {fuel : Nat} {is : List Nat} (i : Nat) {o : Oper} (ho : ops[i]? = some o) (hb : takeB ops is i = true) {t : Nat} {p : Path} {sv : SV} (hpl : place n ops env o = some (t, p)) (hS : S w)
  (hrun : ∀ a, Fits n env (nums own) a → Holds a p → ∀ w, S w → (execOp a.eval o).run P w = .ok (.value (sv.val (nums own))) w)
  (h : RunD P n ops S fuel (mark ops.size (is ++ [i])) Q (⟨t, p, sv⟩ :: drop env t) own w) : RunD P n ops S (fuel + 1) (mark ops.size is) Q env own w := by
 intro a hf
 simp only [takeB, Bool.and_eq_true] at hb
 obtain ⟨⟨hs, hfr⟩, hr⟩ := hb
 obtain ⟨hd, hpath, htn, hm, hcl, hpt⟩ := place_spec hpl
 have hw := wanted_iff hf hpath
 have em : mark ops.size (is ++ [i]) = (mark ops.size is).setIfInBounds i true := by simp [mark, List.foldl_append]
 rw [em] at h
 by_cases hh : Holds a p
 ·refine wpD_first (v := sv.val (nums own)) ho (Region.noSelect_spec hs) noPanic_put fuel _ a w (Region.free_spec ho hfr) (by simpa using hr) (.inl ⟨hw.2 hh, fun w' hw' => hrun a hf hh w' hw'⟩) hS ?_
  rw [hd]
  exact h _ (hf.put htn hm hpt (fun _ => rfl) (fun h => absurd hh h))
 ·refine wpD_first (v := undef) ho (Region.noSelect_spec hs) noPanic_put fuel _ a w (Region.free_spec ho hfr) (by simpa using hr) (.inr ⟨?_, rfl⟩) hS ?_
  ·cases hb : Region.wanted o (yielded ops a.tmps) with
   | false => rfl
   | true => exact absurd (hw.1 hb) hh
  rw [hd]
  exact h _ (hf.put htn hm hpt (fun h => absurd h hh) (fun _ => rfl))
def evD (P : Program) (n : Nat) (ops : Array Oper) (own : List Bx) : List Nat → List Nat → List En → Option (List En × List Prop)
 | _, [], env => some (env, [])
 | is, i :: r, env => match ops[i]? with
  | some o => if takeB ops is i then match ev1 P n ops own env o with
    | some (env', some c) => match evD P n ops own (is ++ [i]) r env' with
     | some (env'', cs) => some (env'', c :: cs)
     | none => none
    | some (env', none) => evD P n ops own (is ++ [i]) r env'
    | none => none
   else none
  | none => none
theorem ev1_spec {env' : List En} {o : Oper} {c : Option Prop} (h : ev1 P n ops own env o = some (env', c)) :
  ∃ t p sv obl, place n ops env o = some (t, p) ∧ opS P env own p o = some (sv, obl) ∧ env' = ⟨t, p, sv⟩ :: drop env t ∧ (okP c → ∀ a, Fits n env (nums own) a → Holds a p → okP obl) := by
 unfold ev1 at h
 split at h
 ·rename_i t p hpl
  obtain ⟨hd, hp, htn, hm, hcl, hpt⟩ := place_spec hpl
  split at h
  ·rename_i sv obl hop
   simp only [Option.some.injEq, Prod.mk.injEq] at h
   obtain ⟨rfl, rfl⟩ := h
   exact ⟨t, p, sv, some obl, hpl, hop, rfl, fun hc a hf hh => imp_use hf hh hcl p (fun _ h => h) hc⟩
  ·rename_i sv hop
   simp only [Option.some.injEq, Prod.mk.injEq] at h
   obtain ⟨rfl, rfl⟩ := h
   exact ⟨t, p, sv, none, hpl, hop, rfl, fun _ _ _ _ => trivial⟩
  ·cases h
 ·cases h
theorem evD_ok (hSown : ∀ w, S w → OwnOk w own) (hS : S w) : ∀ (r is : List Nat) {env env' : List En} {c : List Prop} {fuel : Nat}, evD P n ops own is r env = some (env', c) → conj c →
  RunD P n ops S fuel (mark ops.size (is ++ r)) Q env' own w → RunD P n ops S (fuel + r.length) (mark ops.size is) Q env own w
 | [], is, env, env', c, fuel, h, _, hr => by
  simp only [evD, Option.some.injEq, Prod.mk.injEq] at h
  obtain ⟨rfl, _⟩ := h
  simpa using hr
 | i :: r, is, env, env', c, fuel, h, hc, hr => by
  have hr' : RunD P n ops S fuel (mark ops.size ((is ++ [i]) ++ r)) Q env' own w := by simpa using hr
  simp only [evD] at h
  split at h
  ·rename_i o ho
   split at h
   ·rename_i hb
    have key : ∀ {env1 : List En} {c1 : Option Prop} {cs : List Prop}, ev1 P n ops own env o = some (env1, c1) → okP c1 → evD P n ops own (is ++ [i]) r env1 = some (env', cs) → conj cs →
      RunD P n ops S (fuel + (r.length + 1)) (mark ops.size is) Q env own w := by
     intro env1 c1 cs h1 hc1 h2 hc2
     obtain ⟨t, p, sv, obl, hpl, hop, rfl, hobl⟩ := ev1_spec h1
     exact takeD i ho hb hpl hS (fun a hf hh w' hw' => opS_ok hf hh (hSown w' hw') hop (hobl hc1 a hf hh)) (evD_ok hSown hS r (is ++ [i]) h2 hc2 hr')
    split at h
    ·rename_i env1 c1 h1
     split at h
     ·rename_i env2 cs h2
      simp only [Option.some.injEq, Prod.mk.injEq] at h
      obtain ⟨rfl, rfl⟩ := h
      obtain ⟨hc1, hc2⟩ := conj_cons hc
      exact key h1 hc1 h2 hc2
     ·cases h
    ·rename_i env1 h1
     exact key h1 trivial h hc
    ·cases h
   ·cases h
  ·cases h
def evDE (P : Program) (n : Nat) (ops : Array Oper) (own : List Bx) (is r : List Nat) (env env' : List En) : Option (List (Option (Path × SV)) × List Prop) :=
 match evD P n ops own is r env with
 | some (env1, c) => some (gotE env1 env', c)
 | none => none
theorem segD {k fuel : Nat} {is : List Nat} (r : List Nat) (env' : List En) (c : List Prop) (hk : k = fuel + r.length) (hev : evDE P n ops own is r env env' = some (svsE env', c)) (hSown : ∀ w, S w → OwnOk w own) (hS : S w) (hc : conj c)
  (h : RunD P n ops S fuel (mark ops.size (is ++ r)) Q env' own w) : RunD P n ops S k (mark ops.size is) Q env own w := by
 subst hk
 unfold evDE at hev
 split at hev
 ·rename_i env1 c1 h1
  simp only [Option.some.injEq, Prod.mk.injEq] at hev
  obtain ⟨h2, rfl⟩ := hev
  exact evD_ok hSown hS r is h1 hc (fun a hf => h a (hf.keepE h2))
 ·cases hev
theorem effD {fuel : Nat} {is : List Nat} (i : Nat) {o : Oper} (ho : opAt ops i = some o) (hr : Region.ready .any ops (mark ops.size is) = [i])
  (h : KF n (wpK P ops (NoPanic Q) o (fun a' w' => (lastB ops i = false → S w') ∧ wpD P ops (NoPanic Q) S fuel (mark ops.size (is ++ [i])) a' w')) env own w) : RunD P n ops S (fuel + 1) (mark ops.size is) Q env own w := by
 intro a hf
 have ho' : ops[i]? = some o := by unfold opAt at ho; simpa using ho
 have em : mark ops.size (is ++ [i]) = (mark ops.size is).setIfInBounds i true := by simp [mark, List.foldl_append]
 rw [em] at h
 refine ⟨fun h0 => by rw [hr] at h0; simp at h0, fun j hj => ?_⟩
 rw [hr] at hj
 simp only [List.mem_singleton] at hj
 subst hj
 unfold wpOp
 rw [ho']
 exact h a hf
theorem nextD {fuel : Nat} {is : List Nat} {i : Nat} (hS : lastB ops i = false → S w) (h : RunD P n ops S fuel (mark ops.size (is ++ [i])) Q env own w) :
  KF n (fun a' w' => (lastB ops i = false → S w') ∧ wpD P ops (NoPanic Q) S fuel (mark ops.size (is ++ [i])) a' w') env own w := fun a hf => ⟨hS, h a hf⟩
end
end Go.Eng
