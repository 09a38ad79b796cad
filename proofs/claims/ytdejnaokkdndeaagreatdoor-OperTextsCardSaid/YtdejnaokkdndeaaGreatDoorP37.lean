/- Part 37 of the proof: texts W21. -/
import Derived.Test.YtdejnaokkdndeaaGreatDoorP29
import Derived.Test.YtdejnaokkdndeaaGreatDoorP36
set_option linter.all false
namespace Go.V
open Go.RowKit
section
variable {P : Program} {fr : Fr} {n : Nat} {own own' : Own} {a : Act} {w w' : World} {pl pl' : Pl} {G : List (Nat × List Value)} {pids : List Nat}
def Same (w w' : World) : Prop := ∀ (b : Nat) (cs : Array Value) (e : TypeId) (fz : Nat × Nat), w.heap[b]? = some (.cells cs e fz) → w'.heap[b]? = some (.cells cs e fz)
theorem Rd.same (hs : Same w w') {F : Nat → Prop} {d : D} {v : Value} (h : Rd w F d v) : Rd w' F d v := by
 induction h with
 | v x h => exact .v x h
 | nil sz => exact .nil sz
 | far sz a => exact .far sz a
 | sl us hFb hb hc hm hs' hu _ ih => exact .sl us hFb (hs _ _ _ _ hb) hc hm hs' hu ih
theorem COk.same (hs : Same w w') {c : C} {v : Value} (h : COk w pl own c v) : COk w' pl own c v := by
 cases c with
 | d x => exact Rd.same hs h
 | pe ds off =>
  obtain ⟨b, o, cs, e, fz, us, hv, hF, hb, hd⟩ := h
  exact ⟨b, o, cs, e, fz, us, hv, hF, hs _ _ _ _ hb, fun j d hj => ⟨(hd j d hj).1, Rd.same hs (hd j d hj).2⟩⟩
 | _ => exact h
theorem PartOk.same (hs : Same w w') {c : Bool × List C} {v : Value} (h : PartOk w pl own c v) : PartOk w' pl own c v := by
 unfold PartOk at h ⊢
 split at h
 obtain ⟨vs, hv, h2⟩ := h; exact ⟨vs, hv, h2.mono fun _ _ h => COk.same hs h⟩
 exact COk.same hs h
 exact h.elim
theorem SvOk.same (hs : Same w w') {c : SV} {v : Value} (h : SvOk w pl own c v) : SvOk w' pl own c v := by
 cases c with
 | c x => exact COk.same hs h
 | agg xs => obtain ⟨vs, hv, h2⟩ := h; exact ⟨vs, hv, h2.mono fun _ _ h => COk.same hs h⟩
 | tup xs => obtain ⟨vs, hv, h2⟩ := h; exact ⟨vs, hv, h2.mono fun _ _ h => PartOk.same hs h⟩
theorem Mem.same (m : Mem fr own w pl) (hs : Same w w') (hb : ∀ i b, aI pl own i = some b → w'.heap[b]? = w.heap[b]?) (ho : w'.os = w.os) (ht : w'.tape = w.tape) (hp : w'.output = w.output) (hz : w'.heap.size = w.heap.size)
  (hk : ∀ b, b < fr.w0.heap.size → w'.heap[b]? = w.heap[b]?) : Mem fr own w' pl := by
 refine ⟨m.frOk, m.hS, fun i o hi => ?_, m.inj, m.base, m.bor, ho.trans m.os, ht.trans m.tape, hp.trans m.output, by rw [hz]; exact m.grow, fun b h1 h2 => (hk b h1).trans (m.keep b h1 h2), m.pin⟩
 have h := m.obj i o hi
 cases o with
 | box ty cells =>
  obtain ⟨vs, h1, h2⟩ := h
  refine ⟨vs, ?_, h2.mono fun _ _ h => COk.same hs h⟩
  rw [hb i _ (by unfold aI; rw [hi])]
  exact h1
 | arr k e sz es =>
  obtain ⟨xs, h1, h2, h3⟩ := h
  refine ⟨xs, h1.move fun g hg => hb i g (by unfold aI; rw [hi]; exact hg), h2.mono (fun h => COk.same hs h) (fun h => Rd.same hs h), h3⟩
def Fr.freed (fr : Fr) : Fr := { fr with pin := [(0, 0)], ds := [], free := true }
theorem Mem.freed (m : Mem fr own w pl) : Mem fr.freed own w pl := ⟨⟨m.frOk.glob, m.frOk.inW, m.frOk.few⟩, m.hS, m.obj, m.inj, m.base, m.bor, m.os, m.tape, m.output, m.grow, m.keep, m.pin⟩
theorem Mem.unfreed (m : Mem fr.freed own w pl) : Mem fr own w pl := ⟨⟨m.frOk.glob, m.frOk.inW, m.frOk.few⟩, m.hS, m.obj, m.inj, m.base, m.bor, m.os, m.tape, m.output, m.grow, m.keep, m.pin⟩
theorem aHZ (hG : FrIs fr G pids) : FrIs fr.freed G [0] := ⟨hG.G, rfl, fun h => (by cases h), hG.lat⟩
variable {R : Wp P} {root : Code} {Q : Exit → Act → World → Prop}
theorem stepF (hG : FrIs fr G []) {now : Now} {st : St} (hk : W R fr.freed n root Q now st) : W R fr n root Q now st := by
 have hsel : ∀ a w, OkS fr n st a w → OkS fr.freed n st a w := by
  rintro a w ⟨pl, hok⟩
  refine ⟨pl, hok.mem.freed, fun h => (by cases h), hok.size, hok.yes, hok.no, fun q hq => hok.late.1 q hq, fun _ => ⟨[], ?_, List.nodup_nil, fun D hD => by cases hD⟩⟩
  rw [hok.defers (hG.ds rfl).2, (hG.ds rfl).1]; rfl
 cases now with
 | code pos => exact fun c hc a w hok => hk c hc a w (hsel a w hok)
 | exit pos e => exact fun a w hok => hk a w (hsel a w hok)
theorem aFW {w : World} {D : Nat} (hD : w.heap[D]? = some (.deferred (some []))) : Same w (w.putObj D (.deferred none)) := by
 intro b cs e fz hb
 have hne : D ≠ b := fun h => by rw [h, hb] at hD; cases hD
 show (w.heap.setIfInBounds D _)[b]? = _
 rw [Array.getElem?_setIfInBounds_ne hne]; exact hb
theorem zJ {w : World} {D b : Nat} (h : D ≠ b) : (w.putObj D (.deferred none)).heap[b]? = w.heap[b]? := by
 show (w.heap.setIfInBounds D _)[b]? = _
 rw [Array.getElem?_setIfInBounds_ne h]
theorem lV {fn : Func} {Rt : Ending → World → Prop} {tmps : Array Value} {env : Env} : ∀ (Ds : List Nat) (w : World), Ds.Nodup → (∀ D ∈ Ds, fr.w0.heap.size ≤ D ∧ Sh pl own D ∧ w.heap[D]? = some (.deferred (some []))) → fr.lat = [] → fr.free = false → fr.ds = [] →
  Ok fr n env own ⟨tmps, []⟩ w pl → (∀ w', Ok fr n env own ⟨tmps, []⟩ w' pl → LeavesInM Fence.wide 0 P fn tmps Rt [] .returning w') → LeavesInM Fence.wide 0 P fn tmps Rt (Ds.map aCJ) .returning w
 | [], w, _, _, _, _, _, hok, hfin => hfin w hok
 | D :: r, w, hnd, hm, hl, hf, hds, hok, hfin => by
  obtain ⟨hB, hS, hh⟩ := hm D (by simp)
  have hnd' := List.nodup_cons.1 hnd
  refine ⟨by simp, .inl ⟨D, _, rfl, run_takeDeferred hh, ?_⟩⟩
  have hs := aFW hh
  refine lV r _ hnd'.2 (fun E hE => ?_) hl hf hds ?_ hfin
  obtain ⟨a1, a2, a3⟩ := hm E (by simp [hE])
  exact ⟨a1, a2, (zJ (fun h : D = E => hnd'.1 (by rw [h]; exact hE))).trans a3⟩
  refine ⟨hok.mem.same hs (fun i b hi => zJ fun h : D = b => hS.2 i (by rw [h]; exact hi)) rfl rfl rfl (by simp [World.putObj]) (fun b hb => zJ (by omega)), hok.defers, hok.size, fun t p sv h1 h2 => SvOk.same hs (hok.yes t p sv h1 h2), hok.no, fun q hq => (by rw [hl] at hq; cases hq), fun h => (by rw [hf] at h; cases h)⟩
theorem stepRF (hG : FrIs fr G []) (hm : P.follows .mixedOrders = true) {now : Now} {st : St} {fn : Func} {out : SV} {post : aS} (hs : bO) (ids : List Nat) (out' : SV) (post' : aS) {cs : List Prop} (h : goR P G n root hs 1000 now st fn ids = some (out', post', cs)) (hc : conj cs) (ho : out' = out) (hp : post' = post) :
  W (cU P) fr.freed n root (bodyPostM Fence.wide 0 P fn (iO fr out post)) now st := by
 subst ho; subst hp
 obtain ⟨rfl, hpin, hds, hlat⟩ := hG
 unfold goR at h
 split at h
 rename_i e st1 cs1 hgo
 split at h
 cases h
 rename_i hne
 split at h
 rename_i out' post' hfin
 simp only [Option.some.injEq, Prod.mk.injEq] at h
 obtain ⟨rfl, rfl, rfl⟩ := h
 refine xC (fr := fr.freed) hm 1000 now hgo hc fun a w hok => ?_
 obtain ⟨pl, ok⟩ := hok
 obtain ⟨Ds, hd, hnd, hDs⟩ := ok.late.2 rfl
 have ok0 : Ok fr n (aF st1.env) (lookO st1.own) ⟨a.tmps, []⟩ w pl := ⟨ok.mem.unfreed, fun _ => (hds rfl).1.symm, ok.size, ok.yes, ok.no, fun q hq => (by rw [hlat] at hq; cases hq), fun h => (by rw [(hds rfl).2] at h; cases h)⟩
 have : LeavesInM Fence.wide 0 P fn a.tmps (iO fr out' post') a.defers .returning w := by
  rw [hd]
  refine lV (fr := fr) Ds w hnd hDs hlat (hds rfl).2 (hds rfl).1 ok0 fun w' hok' => ?_
  obtain ⟨h1, v, h2, h3⟩ := uZ hfin (hds rfl) ⟨pl, hok'⟩
  exact ⟨v, h2, h3⟩
 cases e with
 | normal => exact this
 | exit id => exact absurd rfl (hne id)
 | ret => exact this
 cases h
 cases h
def hO : Ob → Ob
 | .box ty cells => .box ⟨ty.k, none⟩ cells
 | .arr k e sz es => .arr k e sz es
def eK (own : aS) : aS := own.map fun e => (e.1, hO e.2)
theorem jC : ∀ (own : aS) (i : Nat), lookO (eK own) i = (lookO own i).map hO
 | [], i => rfl
 | e :: r, i => by
  simp only [eK, List.map_cons, lookO]
  by_cases h : e.1 = i
  have h1 : (e.1 == i) = true := by simpa using h
  rw [h1]; rfl
  have h1 : (e.1 == i) = false := by simpa using h
  rw [h1]; exact jC r i
theorem aE4 (own : aS) (i : Nat) : aI pl (lookO (eK own)) i = aI pl (lookO own) i := by
 unfold aI
 rw [jC]
 cases lookO own i with
 | none => rfl
 | some o => cases o <;> rfl
theorem Mem.unpinnedF {own : aS} (m : Mem fr (lookO own) w pl) : Mem fr (lookO (eK own)) w pl ∧ Later w pl (lookO own) w pl (lookO (eK own)) := by
 have hlk : ∀ i, lookO (eK own) i = (lookO own i).map hO := jC own
 have hblk : ∀ i, aI pl (lookO (eK own)) i = aI pl (lookO own) i := by
  intro i
  unfold aI
  rw [hlk i]
  cases lookO own i with
  | none => rfl
  | some o => cases o <;> rfl
 have hinv : ∀ i ty cs, lookO (eK own) i = some (.box ty cs) → ∃ ty', lookO own i = some (.box ty' cs) ∧ ty = ⟨ty'.k, none⟩ := by
  intro i ty cs h
  rw [hlk i] at h
  cases ho : lookO own i with
  | none => rw [ho] at h; cases h
  | some o =>
   rw [ho] at h
   cases o with
   | box ty' cs' => simp only [Option.map_some, hO, Option.some.injEq, Ob.box.injEq] at h; exact ⟨ty', by rw [h.2], h.1.symm⟩
   | arr k e sz es => simp [hO] at h
 have hfw : ∀ i ty cs, lookO own i = some (.box ty cs) → lookO (eK own) i = some (.box ⟨ty.k, none⟩ cs) := fun i ty cs h => by rw [hlk i, h]; rfl
 have har : ∀ i k e sz es, lookO own i = some (.arr k e sz es) → lookO (eK own) i = some (.arr k e sz es) := fun i k e sz es h => by rw [hlk i, h]; rfl
 have hsh : ∀ b, Sh pl (lookO own) b → Sh pl (lookO (eK own)) b := fun b h => ⟨h.1, fun i hi => h.2 i (by rw [← hblk i]; exact hi)⟩
 have L : Later w pl (lookO own) w pl (lookO (eK own)) := ⟨fun b _ h => ⟨rfl, hsh b h⟩, fun i ty cs h => ⟨⟨_, _, hfw i ty cs h⟩, rfl⟩, fun i k e sz es h => ⟨k, e, sz, es, har i k e sz es h, Nat.le_refl _, fun _ => ⟨rfl, rfl, rfl⟩⟩⟩
 refine ⟨⟨m.frOk, m.hS, fun i o ho => ?_, fun i j b hi hj => m.inj i j b (by rw [← hblk i]; exact hi) (by rw [← hblk j]; exact hj), fun i b hi => m.base i b (by rw [← hblk i]; exact hi), fun i b hi => ?_, m.os, m.tape, m.output, m.grow, m.keep, fun i ty cs b ho hb => ?_⟩, L⟩
 cases o with
 | box ty cs =>
  obtain ⟨ty', h1, rfl⟩ := hinv i ty cs ho
  obtain ⟨vs, h2, h3⟩ := m.obj i _ h1
  exact ⟨vs, h2, h3.mono fun _ _ h => L.c h⟩
 | arr k e sz es =>
  have h1 : lookO own i = some (.arr k e sz es) := by
   rw [hlk i] at ho
   cases h' : lookO own i with
   | none => rw [h'] at ho; cases ho
   | some o =>
    rw [h'] at ho
    cases o with
    | box ty' cs' => simp [hO] at ho
    | arr k2 e2 sz2 es2 => simp only [Option.map_some, hO] at ho; exact ho
  obtain ⟨xs, h2, h3, h4⟩ := m.obj i _ h1
  exact ⟨xs, h2, h3.mono (fun h => L.c h) (fun h => L.rd h), h4⟩
 rcases m.bor i b hi with ⟨ty, cs, h1, h2⟩ | ⟨k, e, sz, es, h1⟩
 exact .inl ⟨_, _, hfw i ty cs h1, h2⟩
 exact .inr ⟨k, e, sz, es, har i k e sz es h1⟩
 obtain ⟨ty', h1, rfl⟩ := hinv i ty cs ho
 cases hb
def aBQ (P : Program) (G : List (Nat × List Value)) (st : St) (b : Nat → Nat) (D l : Nat) (r : Loop) (dD dL g nid : Nat) (out : SV) (rs : List Nat) (post : List (Nat × Ob)) (st' : St) : Option (Option Code × List (Option (Path × SV)) × List (Option Ob) × Bool × List Prop) :=
 match mK P G st b D l r dD dL g nid out rs post with
 | some (j, st1, cs) => let st2 := cW (st'.own.map (·.1)) ⟨st1.env, eK st1.own⟩
  some (j, st'.env.map (fun e => aF st2.env e.1), st'.own.map (fun e => lookO st2.own e.1), qO st2.own st'.own, cs)
 | none => none
def isDef (st : St) (b : Nat → Nat) (D l : Nat) (r : Loop) (P : Program) (G : List (Nat × List Value)) (dD dL g nid : Nat) (out : SV) (rs : List Nat) (post : List (Nat × Ob)) : Option Ob :=
 match mK P G st b D l r dD dL g nid out rs post with
 | some (_, st1, _) => lookO st1.own dD
 | none => none
theorem rangeF (hG : FrIs fr G [0]) (hF : fr.free = true) {pos : List Nat} {g : Nat} {ps : Array Tmp} {assign body : Code} {st : St} (hcode : fM root pos = some (.rangeFunc (.tmp g) ps assign body)) (dD dL nid : Nat)
  (hfr : ((lookO st.own dD).isNone && (lookO st.own dL).isNone && !(dD == dL)) = true) {gf : FuncId} {cap : List (Nat × Nat)} (hg : aF st.env g = some ([], .c (.fn gf [] cap))) (hent : enters P gf = true)
  (h : ∀ (b : Nat → Nat) (D l : Nat) (fn : FuncId) (tm : Array Value), TmOk st.env b tm → tm.size = n →
   ∃ (out : SV) (rs : List Nat) (post : List (Nat × Ob)) (j : Option Code) (st' : St) (cs : List Prop) (e : Ex),
    aBQ P G st b D l { state := .ready, pending := none, fn := fn, tmps := tm, params := ps, assign := assign, body := body, defers := D } dD dL g nid out rs post st' = aBE j st' cs ∧ (isDef st b D l { state := .ready, pending := none, fn := fn, tmps := tm, params := ps, assign := assign, body := body, defers := D } P G dD dL g nid out rs post, st'.own.any (fun x => x.1 == dD)) = (some (.box ⟨.raw (.deferred (some [])), some D⟩ []), false) ∧ conj cs ∧ g7 j = some e ∧
    W (cU P) fr n root Q (.exit pos e) st') : W (cU P) fr n root Q (.code pos) st := by
 obtain ⟨rfl, hpn, hds, hlat⟩ := hG
 intro c hc a w hok
 rw [hcode] at hc
 injection hc with hc
 subst hc
 obtain ⟨pl, ok⟩ := hok
 simp only [Bool.and_eq_true, Option.isNone_iff_eq_none, Bool.not_eq_true', beq_eq_false_iff_ne] at hfr
 obtain ⟨⟨hD0, hL0⟩, hne⟩ := hfr
 refine wpIn_wide.1 (wpIn_rangeFunc (n := 0) fun fnid _ => ?_)
 generalize hr : ({ state := .ready, pending := none, fn := fnid, tmps := a.tmps, params := ps, assign := assign, body := body, defers := w.heap.size } : Loop) = r
 obtain ⟨pl1, m1, L1, hb1⟩ := ok.mem.newBox (i := dD) hD0 ⟨.raw (.deferred (some [])), some w.heap.size⟩ (fun b hb => by injection hb with hb; exact hb.symm) (cells := []) (vs := []) All2.nil
 have ok1 := ok.later m1 L1
 obtain ⟨pl2, m2, L2, hb2⟩ := m1.newBox (i := dL) (by rw [upd_ne _ _ (Ne.symm hne)]; exact hL0) ⟨.raw (.loop r), some (w.heap.size + 1)⟩ (fun b hb => by injection hb with hb; rw [← hb]; simp) (cells := []) (vs := []) All2.nil
 have ok2 := ok1.later m2 L2
 have hbD : pl2.blk dD = w.heap.size := ((L2.bx dD _ _ (upd_same _ _ _)).2).trans hb1
 have hbL : pl2.blk dL = w.heap.size + 1 := by rw [hb2]; simp
 rw [← a8, ← a8] at m2 ok2
 obtain ⟨m3, L3⟩ := m2.pinned
 have ok3 := ok2.later m3 L3
 have hpl : cG pl2.blk ((dL, Ob.box ⟨.raw (.loop r), some (w.heap.size + 1)⟩ []) :: (dD, Ob.box ⟨.raw (.deferred (some [])), some w.heap.size⟩ []) :: st.own) = (dL, Ob.box ⟨.raw (.loop r), some (w.heap.size + 1)⟩ []) :: (dD, Ob.box ⟨.raw (.deferred (some [])), some w.heap.size⟩ []) :: cG pl2.blk st.own := by
  simp only [cG, List.map_cons, lI, hbD, hbL]
 rw [hpl] at m3 ok3
 have hT : TmOk st.env pl2.blk a.tmps := ⟨fun t i off hf => (ok2.yes t [] _ hf holds_nil).2, fun t x hf => Rd.exact (ok2.yes t [] _ hf holds_nil)⟩
 obtain ⟨out, rs, post, j, st', cs, ex, hS, hdef, hcs, hex, hW⟩ := h pl2.blk w.heap.size (w.heap.size + 1) fnid a.tmps hT ok.size
 rw [hr] at hS
 unfold aBQ aBE at hS
 split at hS
 rename_i j1 st1 cs1 hE
 simp only [Option.some.injEq, Prod.mk.injEq] at hS
 obtain ⟨rfl, h1, h2, h3, rfl⟩ := hS
 unfold mK at hE
 split at hE
 rename_i e he
 split at hE
 rename_i r' q hdL
 have hst : r'.state ≠ .busy ∧ (r'.pending, (⟨st.env, bU (bU ((dL, Ob.box ⟨.raw (.loop r), some (w.heap.size + 1)⟩ []) :: (dD, Ob.box ⟨.raw (.deferred (some [])), some w.heap.size⟩ []) :: cG pl2.blk st.own) e.upd) [(dL, .box ⟨.raw (.loop { r' with state := .exhausted }), q⟩ [])]⟩ : St), e.obl) = (j1, st1, cs1) := by
  split at hE
  cases hE
  rename_i hb
  simp only [Option.some.injEq] at hE
  exact ⟨hb, hE⟩
 obtain ⟨hnb, hE⟩ := hst
 simp only [Prod.mk.injEq] at hE
 obtain ⟨rfl, rfl, rfl⟩ := hE
 let o : Oper := { dst := none, op := .call (rangeCall (.tmp g) (w.heap.size + 1)), type := 0, pos := "", after := #[], guard := none }
 obtain ⟨hbs, hv⟩ := ok3.yes g [] _ hg holds_nil
 have hv : a.eval (.tmp g) = .func (.func gf) (([] : List (Nat × Nat)).map (adV pl2)).toArray (cap.map (adV pl2)).toArray := hv
 have hrun : ∀ w2 : World, (execOp a.eval o).run P w2 = .ok (.enter gf (([] : List Value) ++ [Value.func (.yield (w.heap.size + 1)) #[] #[]] ++ cap.map (adV pl2)).toArray) w2 := fun w2 => gU (P := P) (o := o) (w := w2) (xs := #[.const (.func (.yield (w.heap.size + 1)) #[] #[])]) rfl hv hent
 have hdoes := qS (o := o) (p := []) m3 (gG ok3 []) holds_nil rfl he (fun _ _ => rfl) hcs
 have hop := hdoes (fun a' w' => ∃ pl', Mem fr (aM (lookO ((dL, Ob.box ⟨.raw (.loop r), some (w.heap.size + 1)⟩ []) :: (dD, Ob.box ⟨.raw (.deferred (some [])), some w.heap.size⟩ []) :: cG pl2.blk st.own)) e.upd) w' pl' ∧ Later _ pl2 (lookO ((dL, Ob.box ⟨.raw (.loop r), some (w.heap.size + 1)⟩ []) :: (dD, Ob.box ⟨.raw (.deferred (some [])), some w.heap.size⟩ []) :: cG pl2.blk st.own)) w' pl' (aM (lookO ((dL, Ob.box ⟨.raw (.loop r), some (w.heap.size + 1)⟩ []) :: (dD, Ob.box ⟨.raw (.deferred (some [])), some w.heap.size⟩ []) :: cG pl2.blk st.own)) e.upd)) (fun v w' pl' m' L' _ => ⟨pl', m', L'⟩)
 have hcalls : Calls P gf (([] : List Value) ++ [Value.func (.yield (w.heap.size + 1)) #[] #[]] ++ cap.map (adV pl2)).toArray ((w.alloc (.deferred (some []))).alloc (.loop r)) fun en w' => ∃ v, en = .returned v ∧ ∃ pl', Mem fr (aM (lookO ((dL, Ob.box ⟨.raw (.loop r), some (w.heap.size + 1)⟩ []) :: (dD, Ob.box ⟨.raw (.deferred (some [])), some w.heap.size⟩ []) :: cG pl2.blk st.own)) e.upd) w' pl' ∧ Later ((w.alloc (.deferred (some []))).alloc (.loop r)) pl2 (lookO ((dL, Ob.box ⟨.raw (.loop r), some (w.heap.size + 1)⟩ []) :: (dD, Ob.box ⟨.raw (.deferred (some [])), some w.heap.size⟩ []) :: cG pl2.blk st.own)) w' pl' (aM (lookO ((dL, Ob.box ⟨.raw (.loop r), some (w.heap.size + 1)⟩ []) :: (dD, Ob.box ⟨.raw (.deferred (some [])), some w.heap.size⟩ []) :: cG pl2.blk st.own)) e.upd) := by
  rcases hop with hop | ⟨l', f', t', as', bo', hbad, _⟩
  have := hop (fun _ _ _ => False)
  unfold Oper.wp at this
  rw [hrun, Oper.upon_enter] at this
  refine Calls.mono this fun en w' hen => ?_
  cases en with
  | returned v => exact ⟨v, rfl, hen⟩
  | panicked ch => exact hen.elim
  | outgrown => obtain ⟨_, _, hf⟩ := hen; exact hf.elim
  rw [hrun] at hbad; cases hbad
 refine ⟨w.heap.size + 1, [{ target := .collected w.heap.size, args := #[] }], (w.alloc (.deferred (some []))).alloc (.loop r), { target := .fn (.func gf) (cap.map (adV pl2)).toArray, args := #[] ++ #[.func (.yield (w.heap.size + 1)) #[] #[]] }, (w.alloc (.deferred (some []))).alloc (.loop r), gf, _, _, ?_, ?_, fun _ _ => trivial, ?_, fun h => (by cases h), callsIn_wide.2 (Calls.mono hcalls ?_)⟩
 rw [← hr]; exact run_enterLoop_outer fnid a.tmps ps assign body
 simp only [resolve, hv, Deferred.ofValue]
 simp [Act.eval]
 simp only [invoke]
 rw [eD hent]
 congr 2
 apply Array.ext'
 simp
 rintro en w3 ⟨v, rfl, pl3, m4, L4⟩
 have hbL4 : pl3.blk dL = w.heap.size + 1 := by
  rw [(L4.bx dL _ _ (by rw [a8]; exact upd_same _ _ _)).2, hbL]
 have hown : lookO (bU ((dL, Ob.box ⟨.raw (.loop r), some (w.heap.size + 1)⟩ []) :: (dD, Ob.box ⟨.raw (.deferred (some [])), some w.heap.size⟩ []) :: cG pl2.blk st.own) e.upd) dL = some (.box ⟨.raw (.loop r'), q⟩ []) := hdL
 rw [bB] at hown
 obtain ⟨vs, hh, _⟩ := m4.obj dL _ hown
 rw [hbL4] at hh
 have hh : w3.heap[w.heap.size + 1]? = some (.loop r') := hh
 refine ⟨r'.pending, _, run_endLoop hh hnb, ?_⟩
 obtain ⟨m5, L5⟩ := m4.turnObj (ty' := ⟨.raw (.loop { r' with state := .exhausted }), q⟩) (cells' := []) (vs' := []) hown rfl All2.nil
 rw [hbL4] at m5 L5
 have okL := (ok3.later m4 L4).later m5 L5
 have hD0 : lookO (bU (bU ((dL, Ob.box ⟨.raw (.loop r), some (w.heap.size + 1)⟩ []) :: (dD, Ob.box ⟨.raw (.deferred (some [])), some w.heap.size⟩ []) :: cG pl2.blk st.own) e.upd) [(dL, .box ⟨.raw (.loop { r' with state := .exhausted }), q⟩ [])]) dD = some (.box ⟨.raw (.deferred (some [])), some w.heap.size⟩ []) ∧ lookO st'.own dD = none := by
  rw [Prod.mk.injEq] at hdef
  obtain ⟨hd1, hd2⟩ := hdef
  rw [hr] at hd1
  unfold isDef mK at hd1
  rw [he] at hd1
  simp only [hdL] at hd1
  constructor
  exact hd1
  cases hl : lookO st'.own dD with
  | none => rfl
  | some o =>
   have hm := eZ hl
   simp only [List.any_eq_false] at hd2
   exact absurd (by simp) (hd2 _ hm)
 obtain ⟨hDo, hDn⟩ := hD0
 have ok5 : Ok { fr with ds := [{ target := .collected w.heap.size, args := #[] }] ++ a.defers, free := false } n (aF st.env) (lookO (bU (bU ((dL, Ob.box ⟨.raw (.loop r), some (w.heap.size + 1)⟩ []) :: (dD, Ob.box ⟨.raw (.deferred (some [])), some w.heap.size⟩ []) :: cG pl2.blk st.own) e.upd) [(dL, .box ⟨.raw (.loop { r' with state := .exhausted }), q⟩ [])])) { a with defers := [{ target := .collected w.heap.size, args := #[] }] ++ a.defers } (w3.putObj (w.heap.size + 1) (.loop { r' with state := .exhausted })) pl3 := by
  simp only [bB, aM]
  exact ⟨⟨⟨m5.frOk.glob, m5.frOk.inW, m5.frOk.few⟩, m5.hS, m5.obj, m5.inj, m5.base, m5.bor, m5.os, m5.tape, m5.output, m5.grow, m5.keep, m5.pin⟩, fun _ => rfl, okL.size, okL.yes, okL.no, fun q hq => (by rw [show fr.lat = [] from hlat] at hq; cases hq), fun hf => (by cases hf)⟩
 have ok5u : Ok { fr with ds := [{ target := .collected w.heap.size, args := #[] }] ++ a.defers, free := false } n (aF st.env) (lookO (eK (bU (bU ((dL, Ob.box ⟨.raw (.loop r), some (w.heap.size + 1)⟩ []) :: (dD, Ob.box ⟨.raw (.deferred (some [])), some w.heap.size⟩ []) :: cG pl2.blk st.own) e.upd) [(dL, .box ⟨.raw (.loop { r' with state := .exhausted }), q⟩ [])]))) { a with defers := [{ target := .collected w.heap.size, args := #[] }] ++ a.defers } (w3.putObj (w.heap.size + 1) (.loop { r' with state := .exhausted })) pl3 :=
  Ok.later ok5 (ok5.mem.unpinnedF).1 (ok5.mem.unpinnedF).2
 have ok7 := aBK (fr := { fr with ds := [{ target := .collected w.heap.size, args := #[] }] ++ a.defers, free := false }) h1 h2 (f5 h3) (p0 (fr := { fr with ds := [{ target := .collected w.heap.size, args := #[] }] ++ a.defers, free := false }) (st := ⟨st.env, _⟩) _ hlat ok5u)
 have hown' := (sel_own h2 (f5 h3)).trans (aAE _)
 have hbk : ∀ i b, aI pl3 (lookO st'.own) i = some b → aI pl3 (lookO (bU (bU ((dL, Ob.box ⟨.raw (.loop r), some (w.heap.size + 1)⟩ []) :: (dD, Ob.box ⟨.raw (.deferred (some [])), some w.heap.size⟩ []) :: cG pl2.blk st.own) e.upd) [(dL, .box ⟨.raw (.loop { r' with state := .exhausted }), q⟩ [])])) i = some b := by
  intro i b hi
  rw [hown', f0] at hi
  split at hi
  rw [← aE4]; exact hi
  cases hi
 have m5' := ok5.mem
 obtain ⟨vs0, hh0, _⟩ := m5'.obj dD _ hDo
 have hb0 : pl3.blk dD = w.heap.size := m5'.pin dD _ _ _ hDo rfl
 rw [hb0] at hh0
 have hh0 : (w3.putObj (w.heap.size + 1) (.loop { r' with state := .exhausted })).heap[w.heap.size]? = some (.deferred (some [])) := hh0
 have hlow : ∀ D, aCJ D ∈ a.defers → D < w.heap.size := by
  intro D hD
  obtain ⟨Ds, e1, e2, e3⟩ := ok.late.2 hF
  rw [e1] at hD
  obtain ⟨D', hD', he'⟩ := List.mem_map.1 hD
  have : D' = D := by simp only [aCJ, Deferred.mk.injEq, Target.collected.injEq] at he'; exact he'.1
  subst this
  exact (Array.getElem?_eq_some_iff.1 (e3 D' hD').2.2).1
 have hmk : Marks fr.w0.heap.size (w3.putObj (w.heap.size + 1) (.loop { r' with state := .exhausted })) pl3 (lookO st'.own) ([{ target := .collected w.heap.size, args := #[] }] ++ a.defers) := by
  obtain ⟨Ds, e1, e2, e3⟩ := okL.late.2 hF
  refine ⟨w.heap.size :: Ds, by rw [e1]; rfl, List.nodup_cons.2 ⟨fun hm => ?_, e2⟩, fun D hD => ?_⟩
  have := hlow w.heap.size (by rw [e1]; exact List.mem_map.2 ⟨_, hm, rfl⟩)
  omega
  rcases List.mem_cons.1 hD with rfl | hD
  refine ⟨ok.mem.grow, ⟨(m5'.hS _).2 (.inr ok.mem.grow), fun i hi => ?_⟩, hh0⟩
  have h9 := m5'.inj i dD _ (hbk i _ hi) (by unfold aI; rw [hDo]; show some (pl3.blk dD) = _; rw [hb0])
  subst h9
  unfold aI at hi
  rw [hDn] at hi
  cases hi
  obtain ⟨f1, f2, f3⟩ := e3 D hD
  have f2 : Sh pl3 (lookO (bU (bU ((dL, Ob.box ⟨.raw (.loop r), some (w.heap.size + 1)⟩ []) :: (dD, Ob.box ⟨.raw (.deferred (some [])), some w.heap.size⟩ []) :: cG pl2.blk st.own) e.upd) [(dL, .box ⟨.raw (.loop { r' with state := .exhausted }), q⟩ [])])) D := by
   simp only [bB, aM]; exact f2
  exact ⟨f1, ⟨f2.1, fun i hi => f2.2 i (hbk i _ hi)⟩, f3⟩
 have ok6 : OkS fr n st' { a with defers := [{ target := .collected w.heap.size, args := #[] }] ++ a.defers } (w3.putObj (w.heap.size + 1) (.loop { r' with state := .exhausted })) := by
  have mm := ok7.mem
  exact ⟨pl3, ⟨⟨mm.frOk.glob, mm.frOk.inW, mm.frOk.few⟩, mm.hS, mm.obj, mm.inj, mm.base, mm.bor, mm.os, mm.tape, mm.output, mm.grow, mm.keep, mm.pin⟩, fun h => (by rw [hF] at h; cases h), ok7.size, ok7.yes, ok7.no, fun q hq => (by rw [hlat] at hq; cases hq), fun _ => hmk⟩
 have := hW _ _ ok6
 generalize w3.putObj (w.heap.size + 1) (.loop { r' with state := .exhausted }) = wv at this ⊢
 cases hj : r'.pending with
 | none =>
  rw [hj] at hex
  simp only [g7, Option.some.injEq] at hex
  subst hex
  exact this
 | some c =>
  rw [hj] at hex
  cases c with
  | ret => simp only [g7, Option.some.injEq] at hex; subst hex; exact wpIn_ret this
  | exit id => simp only [g7, Option.some.injEq] at hex; subst hex; exact wpIn_exit this
  | _ => simp [g7] at hex
 cases hE
 cases hE
 cases hS
end
end Go.V
