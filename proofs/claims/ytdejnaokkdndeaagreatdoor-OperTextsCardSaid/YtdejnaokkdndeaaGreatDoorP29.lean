/- Part 29 of the proof: texts W20. -/
import Derived.Test.YtdejnaokkdndeaaGreatDoorP28
set_option linter.all false
namespace Go.V
open Go.RowKit
def Fr.marked (fr : Fr) (D : Nat) : Fr := { fr with pin := [(0, 0)], ds := [{ target := .collected D, args := #[] }] }
section
variable {P : Program} {fr : Fr} {n : Nat} {own : Own} {a : Act} {w : World} {pl : Pl} {D : Nat} {G : List (Nat × List Value)} {pids : List Nat}
theorem Mem.marked (m : Mem fr own w pl) : Mem (fr.marked D) own w pl := ⟨⟨m.frOk.glob, m.frOk.inW, m.frOk.few⟩, m.hS, m.obj, m.inj, m.base, m.bor, m.os, m.tape, m.output, m.grow, m.keep, m.pin⟩
theorem Mem.unmarked (m : Mem (fr.marked D) own w pl) : Mem fr own w pl := ⟨⟨m.frOk.glob, m.frOk.inW, m.frOk.few⟩, m.hS, m.obj, m.inj, m.base, m.bor, m.os, m.tape, m.output, m.grow, m.keep, m.pin⟩
theorem r7 (hG : FrIs fr G pids) : FrIs (fr.marked D) G [0] := ⟨hG.G, rfl, fun h => (by cases h), hG.lat⟩
end
def lI (b : Nat → Nat) (i : Nat) : Ob → Ob
 | .box ty cells => .box ⟨ty.k, some (b i)⟩ cells
 | .arr k e sz es => .arr k e sz es
def cG (b : Nat → Nat) (own : aS) : aS := own.map fun e => (e.1, lI b e.1 e.2)
theorem sA (b : Nat → Nat) : ∀ (own : aS) (i : Nat), lookO (cG b own) i = (lookO own i).map (lI b i)
 | [], i => rfl
 | e :: r, i => by
  simp only [cG, List.map_cons, lookO]
  by_cases h : e.1 = i
  have h1 : (e.1 == i) = true := by simpa using h
  rw [h1, h]; rfl
  have h1 : (e.1 == i) = false := by simpa using h
  rw [h1]; exact sA b r i
section
variable {P : Program} {fr : Fr} {n : Nat} {a : Act} {w : World} {pl : Pl}
theorem Mem.pinned {own : aS} (m : Mem fr (lookO own) w pl) : Mem fr (lookO (cG pl.blk own)) w pl ∧ Later w pl (lookO own) w pl (lookO (cG pl.blk own)) := by
 have hlk : ∀ i, lookO (cG pl.blk own) i = (lookO own i).map (lI pl.blk i) := sA pl.blk own
 have hblk : ∀ i, aI pl (lookO (cG pl.blk own)) i = aI pl (lookO own) i := by
  intro i
  unfold aI
  rw [hlk i]
  cases lookO own i with
  | none => rfl
  | some o => cases o <;> rfl
 have hinv : ∀ i ty cs, lookO (cG pl.blk own) i = some (.box ty cs) → ∃ ty', lookO own i = some (.box ty' cs) ∧ ty = ⟨ty'.k, some (pl.blk i)⟩ := by
  intro i ty cs h
  rw [hlk i] at h
  cases ho : lookO own i with
  | none => rw [ho] at h; cases h
  | some o =>
   rw [ho] at h
   cases o with
   | box ty' cs' => simp only [Option.map_some, lI, Option.some.injEq, Ob.box.injEq] at h; exact ⟨ty', by rw [h.2], h.1.symm⟩
   | arr k e sz es => simp [lI] at h
 have hfw : ∀ i ty cs, lookO own i = some (.box ty cs) → lookO (cG pl.blk own) i = some (.box ⟨ty.k, some (pl.blk i)⟩ cs) := fun i ty cs h => by rw [hlk i, h]; rfl
 have har : ∀ i k e sz es, lookO own i = some (.arr k e sz es) → lookO (cG pl.blk own) i = some (.arr k e sz es) := fun i k e sz es h => by rw [hlk i, h]; rfl
 have hsh : ∀ b, Sh pl (lookO own) b → Sh pl (lookO (cG pl.blk own)) b := fun b h => ⟨h.1, fun i hi => h.2 i (by rw [← hblk i]; exact hi)⟩
 have L : Later w pl (lookO own) w pl (lookO (cG pl.blk own)) := ⟨fun b _ h => ⟨rfl, hsh b h⟩, fun i ty cs h => ⟨⟨_, _, hfw i ty cs h⟩, rfl⟩, fun i k e sz es h => ⟨k, e, sz, es, har i k e sz es h, Nat.le_refl _, fun _ => ⟨rfl, rfl, rfl⟩⟩⟩
 refine ⟨⟨m.frOk, m.hS, fun i o ho => ?_, fun i j b hi hj => m.inj i j b (by rw [← hblk i]; exact hi) (by rw [← hblk j]; exact hj), fun i b hi => m.base i b (by rw [← hblk i]; exact hi), fun i b hi => ?_, m.os, m.tape, m.output, m.grow, m.keep, fun i ty cs b ho hb => ?_⟩, L⟩
 cases o with
 | box ty cs =>
  obtain ⟨ty', h1, rfl⟩ := hinv i ty cs ho
  obtain ⟨vs, h2, h3⟩ := m.obj i _ h1
  exact ⟨vs, h2, h3.mono fun _ _ h => L.c h⟩
 | arr k e sz es =>
  have h1 : lookO own i = some (.arr k e sz es) := by
   rw [hlk i] at ho
   cases h' : lookO own i with
   | none => rw [h'] at ho; cases ho
   | some o =>
    rw [h'] at ho
    cases o with
    | box ty' cs' => simp [lI] at ho
    | arr k2 e2 sz2 es2 => simp only [Option.map_some, lI] at ho; exact ho
  obtain ⟨xs, h2, h3, h4⟩ := m.obj i _ h1
  exact ⟨xs, h2, h3.mono (fun h => L.c h) (fun h => L.rd h), h4⟩
 rcases m.bor i b hi with ⟨ty, cs, h1, h2⟩ | ⟨k, e, sz, es, h1⟩
 exact .inl ⟨_, _, hfw i ty cs h1, h2⟩
 exact .inr ⟨k, e, sz, es, har i k e sz es h1⟩
 obtain ⟨ty', h1, rfl⟩ := hinv i ty cs ho
 simp only [Option.some.injEq] at hb
 exact hb
structure TmOk (env : bK) (b : Nat → Nat) (tm : Array Value) : Prop where
 bx : ∀ t i off, aF env t = some ([], .c (.bx i off)) → tm.getD t undef = .pointer (some ⟨b i, off, none⟩)
 v : ∀ t x, aF env t = some ([], .c (.d (.v x))) → tm.getD t undef = x
theorem a8 (j : Nat) (o : Ob) (l : aS) : lookO ((j, o) :: l) = upd (lookO l) j o := by
 funext i
 by_cases h : i = j
 subst h; simp [lookO, upd]
 have : (j == i) = false := by simp; exact fun e => h e.symm
 simp [lookO, upd, h, this]
end
def rgP (root : Code) (pos : List Nat) : Array Tmp := match fM root pos with
 | some (.rangeFunc _ ps _ _) => ps
 | _ => #[]
def rgA (root : Code) (pos : List Nat) : Code := match fM root pos with
 | some (.rangeFunc _ _ a _) => a
 | _ => .skip
def rgB (root : Code) (pos : List Nat) : Code := match fM root pos with
 | some (.rangeFunc _ _ _ b) => b
 | _ => .skip
def aZ (root : Code) (pos : List Nat) (fn : FuncId) (tm : Array Value) (D : Nat) : Loop := { state := .ready, pending := none, fn := fn, tmps := tm, params := rgP root pos, assign := rgA root pos, body := rgB root pos, defers := D }
def mK (P : Program) (G : List (Nat × List Value)) (st : St) (b : Nat → Nat) (D l : Nat) (r : Loop) (dD dL g nid : Nat) (out : SV) (rs : List Nat) (post : List (Nat × Ob)) : Option (Option Code × St × List Prop) :=
 match aCO P G (jB (aF st.env) []) (lookO ((dL, Ob.box ⟨.raw (.loop r), some l⟩ []) :: (dD, Ob.box ⟨.raw (.deferred (some [])), some D⟩ []) :: cG b st.own)) g #[.const (.func (.yield l) #[] #[])] nid (.callG out rs post) with
 | some e => match lookO (bU ((dL, Ob.box ⟨.raw (.loop r), some l⟩ []) :: (dD, Ob.box ⟨.raw (.deferred (some [])), some D⟩ []) :: cG b st.own) e.upd) dL with
  | some (.box ⟨.raw (.loop r'), q⟩ []) => match r'.state with
   | .busy => none
   | _ => some (r'.pending, ⟨st.env, bU (bU ((dL, Ob.box ⟨.raw (.loop r), some l⟩ []) :: (dD, Ob.box ⟨.raw (.deferred (some [])), some D⟩ []) :: cG b st.own) e.upd) [(dL, .box ⟨.raw (.loop { r' with state := .exhausted }), q⟩ [])]⟩, e.obl)
  | _ => none
 | none => none
def aGF (P : Program) (G : List (Nat × List Value)) (st : St) (b : Nat → Nat) (D l : Nat) (r : Loop) (dD dL g nid : Nat) (out : SV) (rs : List Nat) (post : List (Nat × Ob)) (st' : St) : Option (Option Code × List (Option (Path × SV)) × List (Option Ob) × Bool × List Prop) :=
 match mK P G st b D l r dD dL g nid out rs post with
 | some (j, st1, cs) => let st2 := cW (st'.own.map (·.1)) st1
  some (j, st'.env.map (fun e => aF st2.env e.1), st'.own.map (fun e => lookO st2.own e.1), qO st2.own st'.own, cs)
 | none => none
def aBE (j : Option Code) (st' : St) (cs : List Prop) : Option (Option Code × List (Option (Path × SV)) × List (Option Ob) × Bool × List Prop) := some (j, st'.env.map (fun e => some e.2), st'.own.map (fun e => some e.2), true, cs)
def g7 : Option Code → Option Ex
 | none => some .normal
 | some .ret => some .ret
 | some (.exit id) => some (.exit id)
 | _ => none
section
variable {P : Program} {fr : Fr} {n : Nat} {root : Code} {Q : Exit → Act → World → Prop} {G : List (Nat × List Value)}
theorem rangeR (hG : FrIs fr G []) {pos : List Nat} {g : Nat} {ps : Array Tmp} {assign body : Code} {st : St} (hcode : fM root pos = some (.rangeFunc (.tmp g) ps assign body)) (dD dL nid : Nat)
  (hfr : ((lookO st.own dD).isNone && (lookO st.own dL).isNone && !(dD == dL)) = true) {gf : FuncId} {cap : List (Nat × Nat)} (hg : aF st.env g = some ([], .c (.fn gf [] cap))) (hent : enters P gf = true)
  (h : ∀ (b : Nat → Nat) (D l : Nat) (fn : FuncId) (tm : Array Value), TmOk st.env b tm → tm.size = n →
   ∃ (out : SV) (rs : List Nat) (post : List (Nat × Ob)) (j : Option Code) (st' : St) (cs : List Prop) (e : Ex),
    aGF P G st b D l { state := .ready, pending := none, fn := fn, tmps := tm, params := ps, assign := assign, body := body, defers := D } dD dL g nid out rs post st' = aBE j st' cs ∧ conj cs ∧ g7 j = some e ∧
    W (cU P) (fr.marked D) n root Q (.exit pos e) st') : W (cU P) fr n root Q (.code pos) st := by
 obtain ⟨rfl, hpn, hds, hlat⟩ := hG
 intro c hc a w hok
 rw [hcode] at hc
 injection hc with hc
 subst hc
 obtain ⟨pl, ok⟩ := hok
 simp only [Bool.and_eq_true, Option.isNone_iff_eq_none, Bool.not_eq_true', beq_eq_false_iff_ne] at hfr
 obtain ⟨⟨hD0, hL0⟩, hne⟩ := hfr
 refine wpIn_wide.1 (wpIn_rangeFunc (n := 0) fun fnid _ => ?_)
 generalize hr : ({ state := .ready, pending := none, fn := fnid, tmps := a.tmps, params := ps, assign := assign, body := body, defers := w.heap.size } : Loop) = r
 obtain ⟨pl1, m1, L1, hb1⟩ := ok.mem.newBox (i := dD) hD0 ⟨.raw (.deferred (some [])), some w.heap.size⟩ (fun b hb => by injection hb with hb; exact hb.symm) (cells := []) (vs := []) All2.nil
 have ok1 := ok.later m1 L1
 obtain ⟨pl2, m2, L2, hb2⟩ := m1.newBox (i := dL) (by rw [upd_ne _ _ (Ne.symm hne)]; exact hL0) ⟨.raw (.loop r), some (w.heap.size + 1)⟩ (fun b hb => by injection hb with hb; rw [← hb]; simp) (cells := []) (vs := []) All2.nil
 have ok2 := ok1.later m2 L2
 have hbD : pl2.blk dD = w.heap.size := ((L2.bx dD _ _ (upd_same _ _ _)).2).trans hb1
 have hbL : pl2.blk dL = w.heap.size + 1 := by rw [hb2]; simp
 rw [← a8, ← a8] at m2 ok2
 obtain ⟨m3, L3⟩ := m2.pinned
 have ok3 := ok2.later m3 L3
 have hpl : cG pl2.blk ((dL, Ob.box ⟨.raw (.loop r), some (w.heap.size + 1)⟩ []) :: (dD, Ob.box ⟨.raw (.deferred (some [])), some w.heap.size⟩ []) :: st.own) = (dL, Ob.box ⟨.raw (.loop r), some (w.heap.size + 1)⟩ []) :: (dD, Ob.box ⟨.raw (.deferred (some [])), some w.heap.size⟩ []) :: cG pl2.blk st.own := by
  simp only [cG, List.map_cons, lI, hbD, hbL]
 rw [hpl] at m3 ok3
 have hT : TmOk st.env pl2.blk a.tmps := ⟨fun t i off hf => (ok2.yes t [] _ hf holds_nil).2, fun t x hf => Rd.exact (ok2.yes t [] _ hf holds_nil)⟩
 obtain ⟨out, rs, post, j, st', cs, ex, hS, hcs, hex, hW⟩ := h pl2.blk w.heap.size (w.heap.size + 1) fnid a.tmps hT ok.size
 rw [hr] at hS
 unfold aGF aBE at hS
 split at hS
 rename_i j1 st1 cs1 hE
 simp only [Option.some.injEq, Prod.mk.injEq] at hS
 obtain ⟨rfl, h1, h2, h3, rfl⟩ := hS
 unfold mK at hE
 split at hE
 rename_i e he
 split at hE
 rename_i r' q hdL
 have hst : r'.state ≠ .busy ∧ (r'.pending, (⟨st.env, bU (bU ((dL, Ob.box ⟨.raw (.loop r), some (w.heap.size + 1)⟩ []) :: (dD, Ob.box ⟨.raw (.deferred (some [])), some w.heap.size⟩ []) :: cG pl2.blk st.own) e.upd) [(dL, .box ⟨.raw (.loop { r' with state := .exhausted }), q⟩ [])]⟩ : St), e.obl) = (j1, st1, cs1) := by
  split at hE
  cases hE
  rename_i hb
  simp only [Option.some.injEq] at hE
  exact ⟨hb, hE⟩
 obtain ⟨hnb, hE⟩ := hst
 simp only [Prod.mk.injEq] at hE
 obtain ⟨rfl, rfl, rfl⟩ := hE
 let o : Oper := { dst := none, op := .call (rangeCall (.tmp g) (w.heap.size + 1)), type := 0, pos := "", after := #[], guard := none }
 obtain ⟨hbs, hv⟩ := ok3.yes g [] _ hg holds_nil
 have hv : a.eval (.tmp g) = .func (.func gf) (([] : List (Nat × Nat)).map (adV pl2)).toArray (cap.map (adV pl2)).toArray := hv
 have hrun : ∀ w2 : World, (execOp a.eval o).run P w2 = .ok (.enter gf (([] : List Value) ++ [Value.func (.yield (w.heap.size + 1)) #[] #[]] ++ cap.map (adV pl2)).toArray) w2 := fun w2 => gU (P := P) (o := o) (w := w2) (xs := #[.const (.func (.yield (w.heap.size + 1)) #[] #[])]) rfl hv hent
 have hdoes := qS (o := o) (p := []) m3 (gG ok3 []) holds_nil rfl he (fun _ _ => rfl) hcs
 have hop := hdoes (fun a' w' => ∃ pl', Mem fr (aM (lookO ((dL, Ob.box ⟨.raw (.loop r), some (w.heap.size + 1)⟩ []) :: (dD, Ob.box ⟨.raw (.deferred (some [])), some w.heap.size⟩ []) :: cG pl2.blk st.own)) e.upd) w' pl' ∧ Later _ pl2 (lookO ((dL, Ob.box ⟨.raw (.loop r), some (w.heap.size + 1)⟩ []) :: (dD, Ob.box ⟨.raw (.deferred (some [])), some w.heap.size⟩ []) :: cG pl2.blk st.own)) w' pl' (aM (lookO ((dL, Ob.box ⟨.raw (.loop r), some (w.heap.size + 1)⟩ []) :: (dD, Ob.box ⟨.raw (.deferred (some [])), some w.heap.size⟩ []) :: cG pl2.blk st.own)) e.upd)) (fun v w' pl' m' L' _ => ⟨pl', m', L'⟩)
 have hcalls : Calls P gf (([] : List Value) ++ [Value.func (.yield (w.heap.size + 1)) #[] #[]] ++ cap.map (adV pl2)).toArray ((w.alloc (.deferred (some []))).alloc (.loop r)) fun en w' => ∃ v, en = .returned v ∧ ∃ pl', Mem fr (aM (lookO ((dL, Ob.box ⟨.raw (.loop r), some (w.heap.size + 1)⟩ []) :: (dD, Ob.box ⟨.raw (.deferred (some [])), some w.heap.size⟩ []) :: cG pl2.blk st.own)) e.upd) w' pl' ∧ Later ((w.alloc (.deferred (some []))).alloc (.loop r)) pl2 (lookO ((dL, Ob.box ⟨.raw (.loop r), some (w.heap.size + 1)⟩ []) :: (dD, Ob.box ⟨.raw (.deferred (some [])), some w.heap.size⟩ []) :: cG pl2.blk st.own)) w' pl' (aM (lookO ((dL, Ob.box ⟨.raw (.loop r), some (w.heap.size + 1)⟩ []) :: (dD, Ob.box ⟨.raw (.deferred (some [])), some w.heap.size⟩ []) :: cG pl2.blk st.own)) e.upd) := by
  rcases hop with hop | ⟨l', f', t', as', bo', hbad, _⟩
  have := hop (fun _ _ _ => False)
  unfold Oper.wp at this
  rw [hrun, Oper.upon_enter] at this
  refine Calls.mono this fun en w' hen => ?_
  cases en with
  | returned v => exact ⟨v, rfl, hen⟩
  | panicked ch => exact hen.elim
  | outgrown => obtain ⟨_, _, hf⟩ := hen; exact hf.elim
  rw [hrun] at hbad; cases hbad
 refine ⟨w.heap.size + 1, [{ target := .collected w.heap.size, args := #[] }], (w.alloc (.deferred (some []))).alloc (.loop r), { target := .fn (.func gf) (cap.map (adV pl2)).toArray, args := #[] ++ #[.func (.yield (w.heap.size + 1)) #[] #[]] }, (w.alloc (.deferred (some []))).alloc (.loop r), gf, _, _, ?_, ?_, fun _ _ => trivial, ?_, fun h => (by cases h), callsIn_wide.2 (Calls.mono hcalls ?_)⟩
 rw [← hr]; exact run_enterLoop_outer fnid a.tmps ps assign body
 simp only [resolve, hv, Deferred.ofValue]
 simp [Act.eval]
 simp only [invoke]
 rw [eD hent]
 congr 2
 apply Array.ext'
 simp
 rintro en w3 ⟨v, rfl, pl3, m4, L4⟩
 have hbL4 : pl3.blk dL = w.heap.size + 1 := by
  rw [(L4.bx dL _ _ (by rw [a8]; exact upd_same _ _ _)).2, hbL]
 have hown : lookO (bU ((dL, Ob.box ⟨.raw (.loop r), some (w.heap.size + 1)⟩ []) :: (dD, Ob.box ⟨.raw (.deferred (some [])), some w.heap.size⟩ []) :: cG pl2.blk st.own) e.upd) dL = some (.box ⟨.raw (.loop r'), q⟩ []) := hdL
 rw [bB] at hown
 obtain ⟨vs, hh, _⟩ := m4.obj dL _ hown
 rw [hbL4] at hh
 have hh : w3.heap[w.heap.size + 1]? = some (.loop r') := hh
 refine ⟨r'.pending, _, run_endLoop hh hnb, ?_⟩
 obtain ⟨m5, L5⟩ := m4.turnObj (ty' := ⟨.raw (.loop { r' with state := .exhausted }), q⟩) (cells' := []) (vs' := []) hown rfl All2.nil
 rw [hbL4] at m5 L5
 have ok5 : OkS (fr.marked w.heap.size) n ⟨st.env, bU (bU ((dL, Ob.box ⟨.raw (.loop r), some (w.heap.size + 1)⟩ []) :: (dD, Ob.box ⟨.raw (.deferred (some [])), some w.heap.size⟩ []) :: cG pl2.blk st.own) e.upd) [(dL, .box ⟨.raw (.loop { r' with state := .exhausted }), q⟩ [])]⟩ { a with defers := [{ target := .collected w.heap.size, args := #[] }] ++ a.defers } (w3.putObj (w.heap.size + 1) (.loop { r' with state := .exhausted })) := by
  have ok4 := (ok3.later m4 L4).later m5 L5
  refine ⟨pl3, ?_⟩
  simp only [bB, aM]
  refine ⟨m5.marked, fun _ => ?_, ok4.size, ok4.yes, ok4.no, fun q hq => ok4.late.1 q hq, fun hf => (by rw [show (fr.marked w.heap.size).free = fr.free from rfl, (hds rfl).2] at hf; cases hf)⟩
  show [_] ++ a.defers = _
  rw [ok.defers (hds rfl).2, (hds rfl).1]
  rfl
 have ok6 := tP h1 h2 (f5 h3) (jZ (fr := fr.marked w.heap.size) _ hlat ok5)
 have := hW _ _ ok6
 generalize w3.putObj (w.heap.size + 1) (.loop { r' with state := .exhausted }) = wv at this ⊢
 cases hj : r'.pending with
 | none =>
  rw [hj] at hex
  simp only [g7, Option.some.injEq] at hex
  subst hex
  exact this
 | some c =>
  rw [hj] at hex
  cases c with
  | ret => simp only [g7, Option.some.injEq] at hex; subst hex; exact wpIn_ret this
  | exit id => simp only [g7, Option.some.injEq] at hex; subst hex; exact wpIn_exit this
  | _ => simp [g7] at hex
 cases hE
 cases hE
 cases hS
theorem aID {f : FuncId} {fn : Func} {ins : List SV} {refs : aS} {out : SV} {post : aS} (n : Nat) (hf : P.funcs[f]? = some fn) (hb : (fn.body.isSome && fn.ntmps == n && decide (ins.length ≤ n)) = true)
  (h : ∀ fr : Fr, FrIs fr G [] → W (cU P) fr n (aN fn) (bodyPostM Fence.wide 0 P fn (iO fr out post)) (.code []) ⟨z7 0 ins, refs⟩) : Spec P G f ins refs out post := by
 simp only [Bool.and_eq_true, beq_iff_eq, decide_eq_true_eq] at hb
 have hbody : fn.body = some (aN fn) := by
  unfold aN
  cases hh : fn.body with
  | none => rw [hh] at hb; simp at hb
  | some c => rfl
 intro fr w pl args hw hG m hargs
 refine callsIn_wide.1 (callsIn_of_wp_marks (n := 0) hf hbody trivial (wpIn_wide.2 (h fr hG _ rfl _ w ⟨pl, m, fun _ => (hG.ds rfl).1.symm, ?_, ?_, ?_, ⟨fun q hq => (by rw [hG.lat] at hq; cases hq), fun hf => (by rw [(hG.ds rfl).2] at hf; cases hf)⟩⟩)))
 have := hargs.1; have := hb.2; have := hb.1.2; simp; omega
 intro t p sv hfd _
 obtain ⟨_, i, rfl, hi⟩ := gY hfd
 obtain ⟨v, hv, hok⟩ := hargs.get hi
 have hlt := (List.getElem?_eq_some_iff.1 hv).1
 simp only [Nat.zero_add, Array.getD_eq_getD_getElem?]
 rw [Array.getElem?_append_left (by simpa using hlt)]
 simp [hv]
 exact hok
 intro t p sv hfd hh
 obtain ⟨rfl, _⟩ := gY hfd
 exact absurd holds_nil hh
def goRM (P : Program) (G : List (Nat × List Value)) (n : Nat) (root : Code) (hs : bO) (fuel : Nat) (now : Now) (st : St) (fn : Func) (ids : List Nat) (D dD : Nat) : Option (SV × aS × Bool × List Prop) :=
 match go P G n root hs fuel now st with
 | some (.done e, st1, cs) => match e with
  | .exit _ => none
  | _ => match lookO st1.own dD with
   | some (.box ⟨.raw (.deferred (some [])), some b⟩ []) => match finE P fn ⟨st1.env, bU st1.own [(dD, .box ⟨.raw (.deferred none), some b⟩ [])]⟩ ids with
    | some (out, post) => some (out, post, b == D, cs)
    | none => none
   | _ => none
 | _ => none
theorem aFK {D : Nat} (hG : FrIs fr G []) (hm : P.follows .mixedOrders = true) {now : Now} {st : St} {fn : Func} {out : SV} {post : aS} (hs : bO) (ids : List Nat) (dD : Nat) (out' : SV) (post' : aS) {cs : List Prop} (h : goRM P G n root hs 1000 now st fn ids D dD = some (out', post', D == D, cs)) (hc : conj cs) (ho : out' = out) (hp : post' = post) :
  W (cU P) (fr.marked D) n root (bodyPostM Fence.wide 0 P fn (iO fr out post)) now st := by
 subst ho; subst hp
 obtain ⟨rfl, hpin, hds⟩ := hG
 unfold goRM at h
 split at h
 rename_i e st1 cs1 hgo
 split at h
 cases h
 rename_i hne
 split at h
 rename_i b hdD
 split at h
 rename_i out' post' hfin
 simp only [Option.some.injEq, Prod.mk.injEq, beq_self_eq_true, beq_iff_eq] at h
 obtain ⟨rfl, rfl, rfl, rfl⟩ := h
 refine xC (fr := fr.marked b) hm 1000 now hgo hc fun a w hok => ?_
 obtain ⟨pl, ok⟩ := hok
 obtain ⟨vs, hh, _⟩ := ok.mem.obj dD _ hdD
 have hbD : pl.blk dD = b := ok.mem.pin dD _ _ b hdD rfl
 rw [hbD] at hh
 have hh : w.heap[b]? = some (.deferred (some [])) := hh
 obtain ⟨m5, L5⟩ := ok.mem.unmarked.turnObj (ty' := ⟨.raw (.deferred none), some b⟩) (cells' := []) (vs' := []) hdD rfl All2.nil
 rw [hbD] at m5 L5
 have ok5 : OkS { fr with ds := [], free := false } n ⟨st1.env, bU st1.own [(dD, .box ⟨.raw (.deferred none), some b⟩ [])]⟩ { a with defers := [] } (w.putObj b (.deferred none)) := by
  refine ⟨pl, ?_⟩
  simp only [bB, aM]
  have hy := ok.yes
  have hn := ok.no
  exact ⟨⟨⟨m5.frOk.glob, m5.frOk.inW, m5.frOk.few⟩, m5.hS, m5.obj, m5.inj, m5.base, m5.bor, m5.os, m5.tape, m5.output, m5.grow, m5.keep, m5.pin⟩, fun _ => rfl, ok.size, fun t p sv h1 h2 => L5.sv (hy t p sv h1 h2), hn, ⟨fun q hq => (ok.late.1 q hq).trans L5, fun hf => by cases hf⟩⟩
 obtain ⟨h1, v, h2, v', pl', hv', m6, h3⟩ := uZ hfin ⟨rfl, rfl⟩ ok5
 have : LeavesInM Fence.wide 0 P fn a.tmps (iO fr out' post') a.defers .returning w := by
  rw [ok.defers (show fr.free = false from (hds rfl).2)]
  exact ⟨by simp, .inl ⟨b, _, rfl, run_takeDeferred hh, v, h2, v', pl', hv', ⟨⟨m6.frOk.glob, m6.frOk.inW, m6.frOk.few⟩, m6.hS, m6.obj, m6.inj, m6.base, m6.bor, m6.os, m6.tape, m6.output, m6.grow, m6.keep, m6.pin⟩, h3⟩⟩
 cases e with
 | normal => exact this
 | exit id => exact absurd rfl (hne id)
 | ret => exact this
 cases h
 cases h
 cases h
def aBA (P : Program) (l : Nat) (body : Code) (R : Ending → World → Prop) (a₁ : Act) (w₁ : World) : Prop := ∃ w₂, (Instr.beginRound l).run P w₁ = .ok () w₂ ∧ body.wpIn (Fence.wide.inRound l) 0 P (roundPost P l R) a₁ w₂
def tmE (refs : aS) (tm : Array Value) : bK → Prop
 | [] => True
 | (t, p, sv) :: r => p = [] ∧ (match sv with
  | .c (.bx i off) => ∃ ty cs b, lookO refs i = some (.box ty cs) ∧ ty.pin = some b ∧ tm.getD t undef = .pointer (some ⟨b, off, none⟩)
  | .c (.d (.v x)) => x.oneCell' = true ∧ tm.getD t undef = x
  | _ => False) ∧ tmE refs tm r
theorem oW {refs : aS} {tm : Array Value} {w : World} {pl : Pl} (m : Mem fr (lookO refs) w pl) : ∀ {env : bK}, tmE refs tm env → ∀ t p sv, aF env t = some (p, sv) → p = [] ∧ SvOk w pl (lookO refs) sv (tm.getD t undef)
 | [], _, t, p, sv, h => by simp [aF] at h
 | (u, q, s) :: r, ⟨h1, h2, h3⟩, t, p, sv, h => by
  simp only [aF] at h
  split at h
  rename_i hu
  simp only [beq_iff_eq] at hu
  simp only [Option.some.injEq, Prod.mk.injEq] at h
  obtain ⟨rfl, rfl⟩ := h
  subst hu
  refine ⟨h1, ?_⟩
  split at h2
  obtain ⟨ty, cs, b, h4, h5, h6⟩ := h2
  exact ⟨⟨ty, cs, h4⟩, by rw [h6, m.pin _ _ _ b h4 h5]⟩
  rw [h2.2]; exact Rd.v _ h2.1
  exact h2.elim
  exact oW m h3 t p sv h
theorem enterY {l iL p : Nat} {r : Loop} {sv : SV} {refs : aS} {out : SV} {post : aS} {env0 : bK} (hL : lookO refs iL = some (.box ⟨.raw (.loop r), some l⟩ [])) (hps : r.params = #[p]) (hn : r.tmps.size = n) (hp : p < n) (hT : tmE refs r.tmps env0) (hne : env0.all (fun e => !(e.1 == p)) = true)
  (h : ∀ fr : Fr, FrIs fr G [] → W (fG P l) fr n r.assign (Exit.then (aBA P l r.body (iO fr out post)) (fun _ _ _ => False)) (.code []) ⟨(p, [], sv) :: env0, refs⟩) : iS P G l [sv] refs out post := by
 intro fr w pl args hw hG m ha
 obtain ⟨v, t, rfl, hv, ht⟩ := ha.uncons
 obtain rfl := ht.unnil
 obtain ⟨vs, hh, _⟩ := m.obj iL _ hL
 rw [m.pin iL _ _ l hL rfl] at hh
 have hh : w.heap[l]? = some (.loop r) := hh
 refine ⟨r.fn, _, r.assign, r.body, run_yield hh (by rw [hps]; rfl), roundIn_of_wpIn trivial ?_⟩
 have hfold : (r.params.zip [v].toArray).foldl (fun tmps (t, a) => tmps.setIfInBounds t a) r.tmps = r.tmps.setIfInBounds p v := by rw [hps]; simp
 rw [hfold]
 refine h fr hG r.assign rfl _ w ⟨pl, m, fun _ => (hG.ds rfl).1.symm, ?_, fun t q s hf _ => ?_, fun t q s hf hh => ?_, ⟨fun q hq => (by rw [hG.lat] at hq; cases hq), fun hf => (by rw [(hG.ds rfl).2] at hf; cases hf)⟩⟩
 show (r.tmps.setIfInBounds p v).size = n
 simp [hn]
 show SvOk w pl (lookO refs) s ((r.tmps.setIfInBounds p v).getD t undef)
 simp only [aF] at hf
 split at hf
 rename_i hu
 simp only [beq_iff_eq] at hu
 simp only [Option.some.injEq, Prod.mk.injEq] at hf
 obtain ⟨rfl, rfl⟩ := hf
 subst hu
 simp only [Array.getD_eq_getD_getElem?, Array.getElem?_setIfInBounds, if_true]
 rw [if_pos (by omega)]
 exact hv
 rename_i hu
 have hne' : t ≠ p := fun e => hu (by simp [e])
 simp only [Array.getD_eq_getD_getElem?, Array.getElem?_setIfInBounds, if_neg (Ne.symm hne')]
 rw [← Array.getD_eq_getD_getElem?]
 exact (oW m hT t q s hf).2
 simp only [aF] at hf
 split at hf
 simp only [Option.some.injEq, Prod.mk.injEq] at hf
 rw [← hf.1] at hh
 exact absurd holds_nil hh
 rw [(oW m hT t q s hf).1] at hh
 exact absurd holds_nil hh
theorem aFM {l : Nat} {pids : List Nat} (hG : FrIs fr G pids) (hm : P.follows .mixedOrders = true) {body : Code} {now : Now} {st : St} {R : Ending → World → Prop} {Q0 : Exit → Act → World → Prop} (hs : bO) (st' : St) (iL : Nat) {r : Loop} {cs : List Prop} (h : goS P G pids n root hs 1000 now st st' = told (.done .normal) st' cs) (hc : conj cs)
  (hL : lookO st'.own iL = some (.box ⟨.raw (.loop r), some l⟩ [])) (hr : r.state = .ready) (hk : W (fG P l) fr n body (roundPost P l R) (.code []) ⟨st'.env, bU st'.own [(iL, .box ⟨.raw (.loop { r with state := .busy }), some l⟩ [])]⟩) :
  W (fG P l) fr n root (Exit.then (aBA P l body R) Q0) now st := by
 refine aFL hG hm hs .normal st' cs h hc fun a w hok => ?_
 obtain ⟨pl, ok⟩ := hok
 obtain ⟨vs, hh, _⟩ := ok.mem.obj iL _ hL
 have hbL := ok.mem.pin iL _ _ l hL rfl
 rw [hbL] at hh
 have hh : w.heap[l]? = some (.loop r) := hh
 refine ⟨_, run_beginRound hh hr, ?_⟩
 obtain ⟨m5, L5⟩ := ok.mem.turnObj (ty' := ⟨.raw (.loop { r with state := .busy }), some l⟩) (cells' := []) (vs' := []) hL rfl All2.nil
 rw [hbL] at m5 L5
 refine hk body rfl a _ ⟨pl, ?_⟩
 simp only [bB, aM]
 exact ok.later m5 L5
def aX : Ex → Option Code
 | .normal => none
 | .ret => some .ret
 | .exit id => some (.exit id)
def u7 (r : Loop) (e : Ex) : Obj := .loop { r with state := if (aX e).isNone then .ready else .done, pending := aX e }
def zO (ids : List Nat) (own : aS) (iL : Nat) (r : Loop) (q : Option Nat) (e : Ex) : aS := (cW ids ⟨[], bU own [(iL, .box ⟨.raw (u7 r e), q⟩ [])]⟩).own
def ijY (ids : List Nat) (own : aS) : List (Nat × Nat) := (own.filter (fun y => decide (y.1 < 100))).map (fun y => (y.1, y.1)) ++ ids.zipIdx.map (fun x => (x.1, 100 + x.2))
def goY (P : Program) (G : List (Nat × List Value)) (n : Nat) (root : Code) (hs : bO) (fuel : Nat) (now : Now) (st : St) (ids : List Nat) (iL : Nat) : Option (Ex × aS × Option Nat × List Prop) :=
 match go P G n root hs fuel now st with
 | some (.done e, st1, cs) => match lookO st1.own iL with
  | some (.box ⟨.raw (.loop r), q⟩ []) =>
   match kK (ijY ids (zO ids st1.own iL r q e)) (zO ids st1.own iL r q e) with
   | some post => if decide (((ijY ids (zO ids st1.own iL r q e)).map (·.1)).Nodup) && decide (((ijY ids (zO ids st1.own iL r q e)).map (·.2)).Nodup) && ids.all (fun i => decide (100 ≤ i)) then some (e, post, q, cs) else none
   | none => none
  | _ => none
 | _ => none
theorem aFJ {l : Nat} {pids : List Nat} (hG : FrIs fr G pids) (hm : P.follows .mixedOrders = true) {now : Now} {st : St} (hs : bO) (ids : List Nat) (iL : Nat) (e : Ex) {out : SV} {post : aS} (post' : aS) {cs : List Prop} (h : goY P G n root hs 1000 now st ids iL = some (e, post', some l, cs)) (hc : conj cs)
  (ho : SV.c (.d (.v (.bool (aX e).isNone))) = out) (hp : lookO post' = lookO post) : W (fG P l) fr n root (roundPost P l (iO fr out post)) now st := by
 subst ho
 obtain ⟨rfl, hpin, hds⟩ := hG
 unfold goY at h
 split at h
 rename_i e1 st1 cs1 hgo
 split at h
 rename_i r q hL
 split at h
 rename_i post1 hren
 split at h
 rename_i hc2
 simp only [Option.some.injEq, Prod.mk.injEq] at h
 obtain ⟨rfl, rfl, rfl, rfl⟩ := h
 refine xC hm 1000 now hgo hc fun a w hok => ?_
 obtain ⟨pl, ok⟩ := hok
 obtain ⟨vs, hh, _⟩ := ok.mem.obj iL _ hL
 have hbL := ok.mem.pin iL _ _ l hL rfl
 rw [hbL] at hh
 have hh : w.heap[l]? = some (.loop r) := hh
 obtain ⟨m5, L5⟩ := ok.mem.turnObj (ty' := ⟨.raw (u7 r e1), some l⟩) (cells' := []) (vs' := []) hL rfl All2.nil
 rw [hbL] at m5 L5
 simp only [Bool.and_eq_true, decide_eq_true_eq, List.all_eq_true] at hc2
 have hown : lookO (zO ids st1.own iL r (some l) e1) = bP (upd (lookO st1.own) iL (.box ⟨.raw (u7 r e1), some l⟩ [])) (fT ids) := by
  funext i
  simp only [zO, cW]
  rw [gH, bB]
  simp only [aM]
  unfold bP
  cases upd (lookO st1.own) iL (.box ⟨.raw (u7 r e1), some l⟩ []) i <;> rfl
 have m6 : Mem fr (lookO (zO ids st1.own iL r (some l) e1)) (w.putObj l (u7 r e1)) pl := by
  rw [hown]; exact pZ m5 (fun i hi => by simp [fT, hi])
 obtain ⟨pl', m7, R⟩ := aF6 hc2.1.2 hc2.1.1 (fun i j hm hi => by
  rcases List.mem_append.1 hm with hm | hm
  obtain ⟨e, _, he⟩ := List.mem_map.1 hm
  injection he with e1 e2
  rw [← e1, ← e2]
  obtain ⟨x, hx, he⟩ := List.mem_map.1 hm
  injection he with e1 e2
  have hmem : x.1 ∈ ids := by
   obtain ⟨_, hlt, hv⟩ := List.mem_zipIdx hx
   rw [hv]; exact List.getElem_mem _
  have := hc2.2 x.1 hmem
  omega) hren m6
 have fin : iO fr (.c (.d (.v (.bool (aX e1).isNone)))) post (.returned (.bool (aX e1).isNone)) (w.putObj l (u7 r e1)) := ⟨_, pl', rfl, by rw [← hp]; exact m7, Rd.v _ rfl⟩
 cases e1 with
 | normal => exact ⟨_, _, run_endRound none hh, fin⟩
 | ret => exact ⟨_, _, run_endRound (some .ret) hh, fin⟩
 | exit id => exact ⟨_, _, run_endRound (some (.exit id)) hh, fin⟩
 cases h
 cases h
 cases h
 cases h
theorem oY {P : Program} {R : Wp P} {fr : Fr} {n : Nat} {root : Code} {G : List (Nat × List Value)} (hG : FrIs fr G []) (hm : P.follows .mixedOrders = true) {now : Now} {st : St} {fn : Func} {out : SV} {post : aS} (hs : bO) (ids : List Nat) (out' : SV) (post' : aS) {cs : List Prop} (h : goR P G n root hs 1000 now st fn ids = some (out', post', cs)) (hc : conj cs) (ho : out' = out) (hp : lookO post' = lookO post) :
  W R fr n root (bodyPost P fn (iO fr out post)) now st := by
 have h1 : W R fr n root (bodyPost P fn (iO fr out post')) now st := yQ hG hm hs ids out' post' h hc ho rfl
 unfold iO at h1 ⊢
 rw [← hp]; exact h1
end
end Go.V
