/- Part 24 of the proof: texts W15. -/
import Derived.Test.YtdejnaokkdndeaaGreatDoorP23
set_option linter.all false
namespace Go.V
open Go.RowKit
def gO (own : Own) (keep : Nat → Bool) : C → C
 | .ar i k => match own i with
  | some (.arr k' e sz es) => if k' == k then (if keep i then .ar i 0 else match e.ov, sz, es with
    | [], _, _ => .d (.sl sz es)
    | [(0, .d x)], 1, [_] :: rest => .d (.sl 1 ([x] :: rest))
    | [(0, .ar j kj)], 1, [_] :: rest => match own j with
     | some (.arr kj' ⟨_, []⟩ szj esj) => if kj' == kj && !keep j then .d (.sl 1 ([.sl szj esj] :: rest)) else .any
     | _ => .any
    | _, _, _ => .any) else .any
  | _ => .any
 | .bx i off => if keep i then .bx i off else .any
 | .ea i k idx off => match own i with
  | some (.arr k' _ _ _) => if k' == k && keep i then .ea i 0 idx off else .any
  | _ => .any
 | .sd _ _ => .any
 | .fn f l m => if (l ++ m).all (fun x => keep x.1) then .fn f l m else .any
 | .mp i => if keep i then .mp i else .any
 | .yl i => if keep i then .yl i else .any
 | .ib t i => if keep i then .ib t i else .any
 | .av _ _ _ _ => .any
 | c => c
def kU (own : Own) (keep : Nat → Bool) : Ob → Ob
 | .box ty cells => .box ty (cells.map (gO own keep))
 | .arr _ e sz es => .arr 0 ⟨e.e, e.ov.map fun x => (x.1, gO own keep x.2)⟩ sz es
def aEY (own : Own) (keep : Nat → Bool) : SV → SV
 | .c x => .c (gO own keep x)
 | .agg xs => .agg (xs.map (gO own keep))
 | .tup xs => .tup (xs.map fun p => (p.1, p.2.map (gO own keep)))
def bP (own : Own) (keep : Nat → Bool) : Own := fun i => if keep i then match own i with
  | some o => some (kU own keep o)
  | none => none
 else none
section
variable {fr : Fr} {n : Nat} {env : Env} {own : Own} {a : Act} {w w' : World} {pl : Pl} {keep : Nat → Bool}
theorem f0 (i : Nat) : aI pl (bP own keep) i = if keep i then aI pl own i else none := by
 unfold aI bP
 cases keep i with
 | false => simp
 | true =>
  simp only [if_true]
  cases own i with
  | none => rfl
  | some o => cases o <;> rfl
theorem p3 {b : Nat} (h : Sh pl own b) : Sh pl (bP own keep) b := ⟨h.1, fun i hi => by
 rw [f0] at hi
 split at hi
 exact h.2 i hi
 cases hi⟩
theorem g9 (m : Mem fr own w pl) (hk100 : ∀ i b, (i, b) ∈ fr.X → keep i = true) {c : C} {v : Value} (h : COk w pl own c v) : COk w pl (bP own keep) (gO own keep c) v := by
 have T : ∀ d v, Rd w (Sh pl own) d v → Rd w (Sh pl (bP own keep)) d v := fun d v h => Rd.frame (fun _ _ _ => rfl) (fun _ _ h => p3 h) h
 have hone := COk.one h
 cases c with
 | d x => exact T _ _ h
 | bx i off =>
  simp only [gO]
  split
  ·rename_i hk
   obtain ⟨⟨ty, cs, ho⟩, hv⟩ := h
   exact ⟨⟨ty, cs.map (gO own keep), by simp [bP, hk, ho, kU]⟩, hv⟩
  ·exact hone
 | ar i k =>
  simp only [gO]
  obtain ⟨k', e, sz, es, ho, hkk, hv, h1⟩ := h
  rw [ho]
  simp only
  split
  ·rename_i hk
   simp only [beq_iff_eq] at hk
   split
   ·rename_i hkeep
    exact ⟨0, _, sz, es, by simp [bP, hkeep, ho, kU]; rfl, Nat.le_refl _, fun _ => hv hk, h1⟩
   ·rename_i hkeep
    have may : ∀ q b, keep q = false → aI pl own q = some b → Sh pl (bP own keep) b := by
     intro q b hkq hbi
     refine ⟨?_, fun j hj => ?_⟩
     ·rcases m.base q b hbi with h2 | h2
      ·exact (m.hS b).2 (.inr h2)
      ·exact absurd (hk100 q b h2) (by rw [hkq]; decide)
     ·rw [f0] at hj
      split at hj
      ·rename_i hkj
       have := m.inj q j b hbi hj
       subst this
       rw [hkq] at hkj; cases hkj
      ·cases hj
    have hki : keep i = false := by simpa using hkeep
    have hblk : ∀ b, (pl.sl i).1.map (·.block) = some b → Sh pl (bP own keep) b := fun b hb => may i b hki (by simp only [aI, ho]; exact hb)
    obtain ⟨e, ov⟩ := e
    split
    ·rename_i hov
     have hov : ov = [] := hov
     subst hov
     rw [hv hk]
     exact vF (m.obj i _ ho) hblk T
    ·rename_i x d rest hov
     have hov : ov = [(0, .d x)] := hov
     subst hov
     obtain ⟨xs, hx, hr, hs⟩ := m.obj i _ ho
     rw [hv hk]
     refine tQ (es := [x] :: rest) hx hblk ⟨by simpa using hr.1, fun j d' u hd hu => ?_⟩ (fun ds hds => ?_)
     ·cases j with
      | zero =>
       simp only [List.flatten_cons, List.cons_append, List.getElem?_cons_zero, Option.some.injEq] at hd
       subst hd
       exact T _ _ (hr.2 0 d u (by simp) hu)
      | succ j => exact T _ _ (hr.2 (j + 1) d' u (by simpa using hd) hu)
     ·rcases List.mem_cons.1 hds with rfl | hds
      ·rfl
      ·exact hs ds (by simp [hds])
    ·rename_i j kj d rest hov
     have hov : ov = [(0, .ar j kj)] := hov
     subst hov
     split
     ·rename_i kj' ej szj esj hoj
      split
      ·rename_i hkk2
       simp only [Bool.and_eq_true, beq_iff_eq, Bool.not_eq_true'] at hkk2
       obtain ⟨rfl, hkj⟩ := hkk2
       obtain ⟨xs, hx, hr, hs⟩ := m.obj i _ ho
       rw [hv hk]
       refine tQ (es := [.sl szj esj] :: rest) hx hblk ⟨by simpa using hr.1, fun q d' u hd hu => ?_⟩ (fun ds hds => ?_)
       ·cases q with
        | zero =>
         simp only [List.flatten_cons, List.cons_append, List.getElem?_cons_zero, Option.some.injEq] at hd
         subst hd
         have hc : COk w pl own (.ar j kj') u := hr.2 0 d u (by simp) hu
         rw [bX (w := w) hc hoj]
         exact vF (m.obj j _ hoj) (fun b hb => may j b hkj (by simp only [aI, hoj]; exact hb)) T
        | succ q => exact T _ _ (hr.2 (q + 1) d' u (by simpa using hd) hu)
       ·rcases List.mem_cons.1 hds with rfl | hds
        ·rfl
        ·exact hs ds (by simp [hds])
      ·exact h1
     ·exact h1
    ·exact h1
  ·exact h1
 | pe ds off =>
  obtain ⟨b, o, cs, e, fz, us, hv, hF, hb, hd⟩ := h
  exact ⟨b, o, cs, e, fz, us, hv, p3 hF, hb, fun j d hj => ⟨(hd j d hj).1, T _ _ (hd j d hj).2⟩⟩
 | ea i k idx off =>
  simp only [gO]
  obtain ⟨k', e, sz, es, ho, hkk, hv, h1⟩ := h
  rw [ho]
  simp only
  split
  ·rename_i hk
   simp only [Bool.and_eq_true, beq_iff_eq] at hk
   exact ⟨0, _, sz, es, by simp [bP, hk.2, ho, kU]; rfl, Nat.le_refl _, fun _ => hv hk.1, h1⟩
  ·exact h1
 | pg g off => exact h
 | sd i k => exact hone
 | fn f l m =>
  simp only [gO]
  split
  ·rename_i hk
   obtain ⟨h1, h2⟩ := h
   refine ⟨fun x hx => ?_, h2⟩
   obtain ⟨ty, cs, ho⟩ := h1 x hx
   exact ⟨ty, cs.map (gO own keep), by simp [bP, List.all_eq_true.1 hk x hx, ho, kU]⟩
  ·exact hone
 | mp i =>
  simp only [gO]
  split
  ·rename_i hk
   obtain ⟨⟨ty, cs, ho⟩, hv⟩ := h
   exact ⟨⟨ty, cs.map (gO own keep), by simp [bP, hk, ho, kU]⟩, hv⟩
  ·exact hone
 | yl i =>
  simp only [gO]
  split
  ·rename_i hk
   obtain ⟨⟨ty, cs, ho⟩, hv⟩ := h
   exact ⟨⟨ty, cs.map (gO own keep), by simp [bP, hk, ho, kU]⟩, hv⟩
  ·exact hone
 | ib t i =>
  simp only [gO]
  split
  ·rename_i hk
   obtain ⟨⟨ty, cs, ho⟩, hv⟩ := h
   exact ⟨⟨ty, cs.map (gO own keep), by simp [bP, hk, ho, kU]⟩, hv⟩
  ·exact hone
 | av i k l n => exact hone
 | nn => exact h
 | any => exact h
theorem mA {α α' β : Type} {R : α → β → Prop} {S : α' → β → Prop} {f : α → α'} (hf : ∀ x y, R x y → S (f x) y) {xs : List α} {ys : List β} (h : All2 R xs ys) : All2 S (xs.map f) ys := by
 refine ⟨by simpa using h.1, fun j x y hx hy => ?_⟩
 simp only [List.getElem?_map, Option.map_eq_some_iff] at hx
 obtain ⟨x', hx', rfl⟩ := hx
 exact hf _ _ (h.2 j x' y hx' hy)
theorem xS (m : Mem fr own w pl) (hk100 : ∀ i b, (i, b) ∈ fr.X → keep i = true) {s : SV} {v : Value} (h : SvOk w pl own s v) : SvOk w pl (bP own keep) (aEY own keep s) v := by
 cases s with
 | c x => exact g9 m hk100 h
 | agg xs => obtain ⟨vs, rfl, h2⟩ := h; exact ⟨vs, rfl, mA (fun _ _ h => g9 m hk100 h) h2⟩
 | tup xs =>
  obtain ⟨vs, rfl, h2⟩ := h
  refine ⟨vs, rfl, mA (fun p y hp => ?_) h2⟩
  obtain ⟨b, cs⟩ := p
  cases b with
  | true => obtain ⟨us, rfl, h3⟩ := hp; exact ⟨us, rfl, mA (fun _ _ h => g9 m hk100 h) h3⟩
  | false =>
   match cs, hp with
   | [c], hp => exact g9 m hk100 hp
theorem aCH (m : Mem fr own w pl) (hk100 : ∀ i, i < 100 → keep i = true) {s : SV} {v : Value} (h : SvOk w pl own s v) : SvOk w pl (bP own keep) (aEY own keep s) v := xS m (fun i b h => hk100 i (m.frOk.few i b h)) h
theorem sB (m : Mem fr own w pl) (hk : ∀ i b, (i, b) ∈ fr.X → keep i = true) : Mem fr (bP own keep) w pl := by
 refine ⟨m.frOk, m.hS, fun i o ho => ?_, fun i j b hi hj => ?_, fun i b hi => ?_, fun i b hi => ?_, m.os, m.tape, m.output, m.grow, m.keep, fun i ty cs b hi hb => ?_⟩
 unfold bP at ho
 split at ho
 split at ho
 rename_i o' ho'
 simp only [Option.some.injEq] at ho
 subst ho
 have hobj := m.obj i o' ho'
 cases o' with
 | box ty cells => obtain ⟨vs, h1, h2⟩ := hobj; exact ⟨vs, h1, mA (fun _ _ h => g9 m hk h) h2⟩
 | arr k e sz es =>
  obtain ⟨xs, h1, h2, h3⟩ := hobj
  refine ⟨xs, by show ownsQ (mkd (e.ov.map fun x => (x.1, gO own keep x.2))) w _ _ _ _ _ _; rw [aBW (fun x => gO own keep x.2)]; exact h1, ⟨h2.1, fun q d x hd hx => ?_⟩, h3⟩
  have hh := h2.2 q d x hd hx
  show vL w _ _ d x ((e.ov.map fun x => (x.1, gO own keep x.2)).lookup q)
  rw [kM]
  cases ho : e.ov.lookup q with
  | none => rw [ho] at hh; exact Rd.frame (fun _ _ _ => rfl) (fun _ _ h => p3 h) hh
  | some c => rw [ho] at hh; exact g9 m hk hh
 cases ho
 cases ho
 rw [f0] at hi hj
 split at hi
 split at hj
 exact m.inj i j b hi hj
 cases hj
 cases hi
 rw [f0] at hi
 split at hi
 exact m.base i b hi
 cases hi
 rcases m.bor i b hi with ⟨ty, cs, h1, h2⟩ | ⟨k, e, sz, es, h1⟩
 exact .inl ⟨ty, cs.map (gO own keep), by simp [bP, hk i b hi, h1, kU], h2⟩
 exact .inr ⟨0, _, sz, es, by simp [bP, hk i b hi, h1, kU]; rfl⟩
 unfold bP at hi
 split at hi
 split at hi
 rename_i o' ho'
 simp only [Option.some.injEq] at hi
 cases o' with
 | box ty' cells => simp only [kU, Ob.box.injEq] at hi; obtain ⟨rfl, _⟩ := hi; exact m.pin i _ _ b ho' hb
 | arr k e sz es => simp only [kU] at hi; cases hi
 cases hi
 cases hi
theorem pZ (m : Mem fr own w pl) (hk : ∀ i, i < 100 → keep i = true) : Mem fr (bP own keep) w pl := sB m fun i b h => hk i (m.frOk.few i b h)
end
def fT (ids : List Nat) (i : Nat) : Bool := decide (i < 100) || ids.contains i
def cW (ids : List Nat) (st : St) : St :=
 ⟨st.env.map (fun e => (e.1, e.2.1, aEY (lookO st.own) (fT ids) e.2.2)), (st.own.filter (fun e => fT ids e.1)).map (fun e => (e.1, kU (lookO st.own) (fT ids) e.2))⟩
theorem sP (f : SV → SV) : ∀ (env : bK) (u : Nat), aF (env.map (fun e => (e.1, e.2.1, f e.2.2))) u = (aF env u).map fun x => (x.1, f x.2)
 | [], u => rfl
 | e :: r, u => by
  simp only [List.map_cons, aF]
  split
  rfl
  exact sP f r u
theorem gH (own : Own) (keep : Nat → Bool) : ∀ (l : aS) (i : Nat), lookO ((l.filter (fun e => keep e.1)).map (fun e => (e.1, kU own keep e.2))) i = if keep i then (lookO l i).map (kU own keep) else none
 | [], i => by simp [lookO]
 | e :: r, i => by
  have ih := gH own keep r i
  simp only [List.filter_cons]
  by_cases he : keep e.1 = true
  rw [if_pos he]
  simp only [List.map_cons, lookO]
  by_cases hi : e.1 = i
  have : (e.1 == i) = true := by simpa using hi
  rw [this, ← hi]
  simp [he]
  have : (e.1 == i) = false := by simpa using hi
  rw [this]
  simpa using ih
  rw [if_neg he, ih]
  by_cases hi : e.1 = i
  rw [← hi]; simp [he]
  have : (e.1 == i) = false := by simpa using hi
  simp only [lookO, this]
  rfl
section
variable {fr : Fr} {n : Nat} {a : Act} {w : World}
theorem p0 {pl : Pl} {st : St} (ids : List Nat) (hl : fr.lat = []) (hok : Ok fr n (aF st.env) (lookO st.own) a w pl) : Ok fr n (aF (cW ids st).env) (lookO (cW ids st).own) a w pl := by
 have hown : lookO (cW ids st).own = bP (lookO st.own) (fT ids) := by
  funext i
  simp only [cW]
  rw [gH]
  unfold bP
  cases lookO st.own i <;> rfl
 rw [hown]
 have hfe : ∀ t p sv, aF (cW ids st).env t = some (p, sv) → ∃ sv', aF st.env t = some (p, sv') ∧ sv = aEY (lookO st.own) (fT ids) sv' := by
  intro t p sv hf
  simp only [cW, sP, Option.map_eq_some_iff, Prod.mk.injEq] at hf
  obtain ⟨⟨p', sv'⟩, h1, h2, h3⟩ := hf
  simp only at h2 h3
  subst h2
  exact ⟨sv', h1, h3.symm⟩
 refine ⟨pZ hok.mem (fun i hi => by simp [fT, hi]), hok.defers, hok.size, fun t p sv hf hh => ?_, fun t p sv hf hh => ?_, ⟨fun q hq => (by rw [hl] at hq; cases hq), fun hf => ?_⟩⟩
 obtain ⟨sv', h1, rfl⟩ := hfe t p sv hf
 exact aCH hok.mem (fun i hi => by simp [fT, hi]) (hok.yes t p sv' h1 hh)
 obtain ⟨sv', h1, rfl⟩ := hfe t p sv hf
 exact hok.no t p sv' h1 hh
 obtain ⟨Ds, e1, e2, e3⟩ := hok.late.2 hf
 refine ⟨Ds, e1, e2, fun D hD => ⟨(e3 D hD).1, ⟨(e3 D hD).2.1.1, fun i hi => (e3 D hD).2.1.2 i ?_⟩, (e3 D hD).2.2⟩⟩
 rw [f0] at hi
 split at hi
 exact hi
 cases hi
theorem jZ {st : St} (ids : List Nat) (hl : fr.lat = []) (h : OkS fr n st a w) : OkS fr n (cW ids st) a w := by
 obtain ⟨pl, hok⟩ := h
 exact ⟨pl, p0 ids hl hok⟩
theorem aAE {st : St} (ids : List Nat) : lookO (cW ids st).own = bP (lookO st.own) (fT ids) := by
 funext i
 simp only [cW]
 rw [gH]
 unfold bP
 cases lookO st.own i <;> rfl
theorem aBK {pl : Pl} {st st' : St} (he : st'.env.map (fun e => aF st.env e.1) = st'.env.map (fun e => some e.2)) (ho : st'.own.map (fun e => lookO st.own e.1) = st'.own.map (fun e => some e.2)) (hk : ∀ i o, lookO st.own i = some o → ∃ o', lookO st'.own i = some o')
  (hok : Ok fr n (aF st.env) (lookO st.own) a w pl) : Ok fr n (aF st'.env) (lookO st'.own) a w pl := by
 have e1 : ∀ u x, aF st'.env u = some x → aF st.env u = some x := by
  intro u x hf
  have : ∃ e ∈ st'.env, e.1 = u ∧ e.2 = x := by
   have : ∀ (l : bK), aF l u = some x → ∃ e ∈ l, e.1 = u ∧ e.2 = x := by
    intro l
    induction l with
    | nil => intro h; simp [aF] at h
    | cons e r ih =>
     intro h
     simp only [aF] at h
     split at h
     rename_i hu; simp only [beq_iff_eq] at hu; simp only [Option.some.injEq] at h; exact ⟨e, by simp, hu, h⟩
     obtain ⟨e', h1, h2⟩ := ih h; exact ⟨e', by simp [h1], h2⟩
   exact this _ hf
  obtain ⟨e, hm, rfl, rfl⟩ := this
  exact List.map_inj_left.1 he e hm
 have e2 : lookO st'.own = lookO st.own := by
  funext i
  cases h' : lookO st'.own i with
  | some o =>
   have hm := eZ h'
   exact (List.map_inj_left.1 ho (i, o) hm).symm
  | none =>
   cases h'' : lookO st.own i with
   | none => rfl
   | some o => obtain ⟨o', h3⟩ := hk i o h''; rw [h'] at h3; cases h3
 rw [e2]; exact uB hok fun u q sv h => e1 u _ h
theorem tP {st st' : St} (he : st'.env.map (fun e => aF st.env e.1) = st'.env.map (fun e => some e.2)) (ho : st'.own.map (fun e => lookO st.own e.1) = st'.own.map (fun e => some e.2)) (hk : ∀ i o, lookO st.own i = some o → ∃ o', lookO st'.own i = some o')
  (h : OkS fr n st a w) : OkS fr n st' a w := by
 obtain ⟨pl, hok⟩ := h
 exact ⟨pl, aBK he ho hk hok⟩
theorem sel_own {st st' : St} (ho : st'.own.map (fun e => lookO st.own e.1) = st'.own.map (fun e => some e.2)) (hk : ∀ i o, lookO st.own i = some o → ∃ o', lookO st'.own i = some o') : lookO st'.own = lookO st.own := by
 funext i
 cases h' : lookO st'.own i with
 | some o =>
  have hm := eZ h'
  exact (List.map_inj_left.1 ho (i, o) hm).symm
 | none =>
  cases h'' : lookO st.own i with
  | none => rfl
  | some o => obtain ⟨o', h3⟩ := hk i o h''; rw [h'] at h3; cases h3
end
end Go.V
