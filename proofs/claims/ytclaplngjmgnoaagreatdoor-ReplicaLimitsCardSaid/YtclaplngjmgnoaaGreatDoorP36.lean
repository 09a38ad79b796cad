/- Part 36 of the proof: texts X4, X5, X6, X7, V33o, V33p, V33q. -/
import Derived.Test.YtclaplngjmgnoaaGreatDoorP35
import Derived.RangeFuncNested
set_option linter.all false
namespace Go.V
open Go.RowKit
def bytesOf : List (List D) → Option (List UInt8)
 | [] => some []
 | [.v (.int .u8 n)] :: r => match bytesOf r with
  | some l => some (UInt8.ofNat n.toNat :: l)
  | none => none
 | _ => none
def bytesHint (es : List (List D)) : Hint := match bytesOf es with
 | some l => .call (.c (.d (.v (.string ⟨l.toArray⟩)))) [] []
 | none => .none
def autoHint (lk : Lk) (ob : Own) (o : Oper) : Hint := match o.op with
 | .load _ _ => .auto
 | .indexAddr _ _ _ => .auto
 | .buildSlice _ len _ => bif Nat.beq len 0 then .none else .elem []
 | .makeSlice _ x _ => match exO lk [] x with
  | some (.int _ (.ofNat 0)) => .none
  | _ => .mask []
 | .convert _ _ x => match lk [] x with
  | some (.c (.d (.sl 1 es))) => bytesHint es
  | some (.c (.ar i _)) => match ob i with
   | some (.arr _ _ 1 es) => bytesHint es
   | _ => .none
  | _ => .none
 | .call { callee := .builtin .unsafeString, args := ⟨x :: _⟩, argTypes := _ } => match lk [] x with
  | some (.c (.sd i _)) => match ob i with
   | some (.arr _ _ _ es) => bytesHint es
   | _ => .none
  | _ => .none
 | _ => .none
inductive Who where
 | fn (f : FuncId) (svs : List SV)
 | yl (i : Nat) (svs : List SV)
 | no
def ofVs : List Value → Option (List SV)
 | [] => some []
 | v :: r => match ofV v, ofVs r with
  | some s, some l => some (s :: l)
  | _, _ => none
def whoV (P : Program) (sv : SV) (svs : List SV) : Who := match sv with
 | .c (.d (.v (.func (.func f) l m))) => bif enters P f then (match ofVs l.toList, ofVs m.toList with
   | some l', some m' => .fn f (l' ++ svs ++ m')
   | _, _ => .no) else .no
 | .c (.fn f l m) => bif enters P f then .fn f (l.map (fun y => .c (.bx y.1 y.2)) ++ svs ++ m.map (fun y => .c (.bx y.1 y.2))) else .no
 | .c (.yl i) => .yl i svs
 | _ => .no
def who (P : Program) (lk : Lk) (o : Oper) : Who := match o.op with
 | .call { callee := .value (.func f), args := xs, argTypes := _ } => bif enters P f then (match allSome (xs.toList.map (lk [])) with
  | some svs => .fn f svs
  | none => .no) else .no
 | .call { callee := .value (.tmp x), args := xs, argTypes := _ } => match lk [] (.tmp x), allSome (xs.toList.map (lk [])) with
  | some sv, some svs => whoV P sv svs
  | _, _ => .no
 | _ => .no
abbrev Step := Nat → FuncId → List SV → Tr Ob → Option OpR
abbrev StepY := Nat → Nat → List SV → Tr Ob → Option OpR
structure NE (P : Program) where
 f : FuncId
 ok : NoEsc P f
def neOf {P : Program} : List (NE P) → FuncId → Option (NE P)
 | [], _ => none
 | e :: r, f => bif Nat.beq e.f f then some e else neOf r f
theorem neOf_f {P : Program} : ∀ {T : List (NE P)} {f : FuncId} {e : NE P}, neOf T f = some e → e.f = f
 | [], f, e, h => by simp [neOf] at h
 | x :: r, f, e, h => by
  simp only [neOf, cond_nat] at h
  split at h
  ·rename_i hx; simp only [Option.some.injEq] at h; rw [← h]; exact hx
  ·exact neOf_f h
def neOp {P : Program} (ne : List (NE P)) (lk : Lk) (o : Oper) : Option SV := match o.op with
 | .call { callee := .value (.func f), args := ⟨[x]⟩, argTypes := _ } => match neOf ne f with
  | some _ => bif isNoEsc P f then (match lk [] x with
   | some (.c c) => some (.c c)
   | _ => none) else none
  | none => none
 | _ => none
structure EntD (P : Program) where
 f : FuncId
 ar : Nat
 ok : ∀ (args : Array Value) (w : World), args.size = ar → CallsDIn Fence.wide 0 P f args .returning w fun e u w' => ∃ v, e = .returned v ∧ u = .returning ∧ w.grownBy w' none
def dfOf {P : Program} : List (EntD P) → FuncId → Option (EntD P)
 | [], _ => none
 | e :: r, f => bif Nat.beq e.f f then some e else dfOf r f
theorem dfOf_f {P : Program} : ∀ {T : List (EntD P)} {f : FuncId} {e : EntD P}, dfOf T f = some e → e.f = f
 | [], f, e, h => by simp [dfOf] at h
 | x :: r, f, e, h => by
  simp only [dfOf, cond_nat] at h
  split at h
  ·rename_i hx; simp only [Option.some.injEq] at h; rw [← h]; exact hx
  ·exact dfOf_f h
structure Exe (P : Program) (G : List (Nat × List Value)) where
 T : List (Ent P G)
 ne : List (NE P)
 df : List (EntD P)
 orc : Nat → Option Bool
 lit : Nat → Option Value
 call : Step
 yld : StepY
 hnt : Nat → Option (List D) := fun _ => none
def litR (own : Tr Ob) (k : Nat) (e : Eff) (v : Value) : Option OpR := match e.sv with
 | .c (.d (.v x)) => effR own (k + 1) ((x = v) :: e.obl) ⟨.c (.d (.v v)), e.upd, e.touch, e.obs⟩
 | _ => none
def doOpN {P : Program} {G : List (Nat × List Value)} (E : Exe P G) (lt : Option Value) (hint : Hint) (lk : Lk) (own : Tr Ob) (o : Oper) (k : Nat) : Option OpR :=
  match who P lk o with
  | .fn f svs => match entOf E.T f with
    | some e => match callT e k svs own with
      | some r => some r
      | none => E.call k f svs own
    | none => E.call k f svs own
  | .yl i svs => E.yld k i svs own
  | .no => match neOp E.ne lk o with
   | some s => effR own (k + 1) [] ⟨s, [], [], []⟩
   | none => match opW P lk own.get o k with
    | some e => effR own (k + 1) [] e
    | none => match opE P G lk own.get o k hint with
      | some e => match lt with
       | some v => litR own k e v
       | none => match E.orc k with
        | some _ => effR own (k + 1) e.obl e
        | none => bif e.obs.all (·.b) then effR own (k + 1) [] e else none
      | none => match opQ P lk own.get o k with
       | some e => effR own (k + 1) [] e
       | none => match opE P G (lkN P o lk) own.get o k hint with
        | some e => bif e.obs.all (·.b) then effR own (k + 1) [] e else none
        | none => none
def isMark : Option Value → Bool
 | some .nilIface => true
 | _ => false
def hntH (h : Option (List D)) (a : Hint) : Hint := match h with
 | some ds => .elem ds
 | none => a
def litV : Option Value → Option Value
 | some (.agg _) => none
 | v => v
def doOp {P : Program} {G : List (Nat × List Value)} (E : Exe P G) (lk : Lk) (own : Tr Ob) (o : Oper) (k : Nat) : Option OpR :=
 bif isMark (E.lit k) then (match frzAll (arsOf lk o.op.operands.toList) lk own with
  | some (lk1, own1, us) => match doOpN E none .none lk1 own1 o k with
   | some r => some ⟨r.sv, us ++ r.upd, keys us ++ r.touch, r.own, r.k, r.cs⟩
   | none => none
  | none => none) else doOpN E (litV (E.lit k)) (hntH (E.hnt k) (autoHint lk own.get o)) lk own o k
def CallOk (P : Program) (G : List (Nat × List Value)) (call : Step) : Prop :=
 ∀ (k : Nat) (f : FuncId) (svs : List SV) (own : Tr Ob) (r : OpR), call k f svs own = some r → r.own.get = updL own.get r.upd ∧ (∀ x ∈ keys r.upd, x ∈ r.touch) ∧
  ∀ (fr : Fr) (own0 : Own) (w : World) (pl : Pl) (vals : List Value), fr.G = G → conj r.cs → (∀ i ∈ r.touch, own0 i = own.get i) → Mem fr own0 w pl → All2 (SvOk w pl own0) svs vals →
   Calls P f vals.toArray w fun e w' => ∃ v pl', e = .returned v ∧ Mem fr (updL own0 r.upd) w' pl' ∧ Later w pl own0 w' pl' (updL own0 r.upd) ∧ SvOk w' pl' (updL own0 r.upd) r.sv v
def YldOk (P : Program) (G : List (Nat × List Value)) (yld : StepY) : Prop :=
 ∀ (k : Nat) (i : Nat) (svs : List SV) (own : Tr Ob) (r : OpR), yld k i svs own = some r → r.own.get = updL own.get r.upd ∧ (∀ x ∈ keys r.upd, x ∈ r.touch) ∧
  ∀ (fr : Fr) (own0 : Own) (w : World) (pl : Pl) (vals : List Value), fr.G = G → conj r.cs → (∀ i ∈ r.touch, own0 i = own.get i) → Mem fr own0 w pl → All2 (SvOk w pl own0) svs vals →
   ∃ (f : FuncId) (tmps : Array Value) (assign body : Code), (Instr.yield (pl.blk i) vals.toArray).run P w = .ok (.round (pl.blk i) f tmps assign body) w ∧
    RoundIn Fence.wide 0 P (pl.blk i) f tmps assign body w fun e w' => ∃ v pl', e = .returned v ∧ Mem fr (updL own0 r.upd) w' pl' ∧ Later w pl own0 w' pl' (updL own0 r.upd) ∧ SvOk w' pl' (updL own0 r.upd) r.sv v
structure ExeOk {P : Program} {G : List (Nat × List Value)} (E : Exe P G) : Prop where
 call : CallOk P G E.call
 yld : YldOk P G E.yld
section
variable {P : Program} {G : List (Nat × List Value)} {lk : Lk} {p : Path} {o : Oper} {E : Exe P G}
theorem ofVs_ok {w : World} {pl : Pl} {own : Own} : ∀ {l : List Value} {s : List SV}, ofVs l = some s → All2 (SvOk w pl own) s l
 | [], s, h => by simp only [ofVs, Option.some.injEq] at h; subst h; exact All2.nil
 | v :: r, s, h => by
  simp only [ofVs] at h
  split at h
  ·rename_i s' l hs hl
   simp only [Option.some.injEq] at h; subst h
   exact All2.cons (ofV_ok hs) (ofVs_ok hl)
  ·cases h
def WhoOk (P : Program) (lk : Lk) (p : Path) (o : Oper) : Who → Prop
 | .fn f svs => ∀ (own0 : Own) (a : Act) (w : World) (pl : Pl), LkOk a w pl own0 p lk → Eng.Holds a p → ∃ vals : List Value, All2 (SvOk w pl own0) svs vals ∧ (execOp a.eval o).run P w = .ok (.enter f vals.toArray) w
 | .yl i svs => ∀ (own0 : Own) (a : Act) (w : World) (pl : Pl), LkOk a w pl own0 p lk → Eng.Holds a p → ∃ vals : List Value, All2 (SvOk w pl own0) svs vals ∧ (execOp a.eval o).run P w = (Instr.yield (pl.blk i) vals.toArray).run P w
 | .no => True
def WhoVOk (P : Program) (sv : SV) (svs : List SV) : Who → Prop
 | .fn f svs' => ∀ (own0 : Own) (w : World) (pl : Pl) (v : Value) (vals : List Value), SvOk w pl own0 sv v → All2 (SvOk w pl own0) svs vals →
   ∃ lv mv : Array Value, enters P f = true ∧ v = .func (.func f) lv mv ∧ All2 (SvOk w pl own0) svs' (lv.toList ++ vals ++ mv.toList)
 | .yl i svs' => ∀ (own0 : Own) (w : World) (pl : Pl) (v : Value), SvOk w pl own0 sv v → svs' = svs ∧ v = .func (.yield (pl.blk i)) #[] #[]
 | .no => True
theorem whoV_ok (sv : SV) (svs : List SV) : WhoVOk P sv svs (whoV P sv svs) := by
 unfold whoV
 split
 ·rename_i f l m
  cases he : enters P f with
  | false => trivial
  | true =>
   simp only [cond_true]
   split
   ·rename_i l' m' hl' hm'
    intro own0 w pl v vals hv hvs
    have hv : v = .func (.func f) l m := Rd.exact hv
    exact ⟨l, m, he, hv, ((ofVs_ok hl').append hvs).append (ofVs_ok hm')⟩
   ·trivial
 ·rename_i f l m
  cases he : enters P f with
  | false => trivial
  | true =>
   intro own0 w pl v vals hv hvs
   obtain ⟨hb, hv⟩ := hv
   refine ⟨(l.map (adV pl)).toArray, (m.map (adV pl)).toArray, he, hv, ?_⟩
   exact ((bx_all fun y hy => hb y (by simp [hy])).append hvs).append (bx_all fun y hy => hb y (by simp [hy]))
 ·intro own0 w pl v hv
  exact ⟨rfl, hv.2⟩
 ·trivial
theorem who_ok : WhoOk P lk p o (who P lk o) := by
 unfold who
 split
 ·rename_i f xs ats hop
  cases he : enters P f with
  | false => trivial
  | true =>
   simp only [cond_true]
   split
   ·rename_i svs hs
    intro own0 a w pl hl hp
    exact ⟨_, allSome_ok hl hp hs, run_callF hop he⟩
   ·trivial
 ·rename_i x xs ats hop
  split
  ·rename_i sv svs hx hs
   have hw := whoV_ok (P := P) sv svs
   cases hwv : whoV P sv svs with
   | no => trivial
   | fn f svs' =>
    rw [hwv] at hw
    intro own0 a w pl hl hp
    obtain ⟨lv, mv, he, hv, h2⟩ := hw own0 w pl _ _ (hl [] _ _ hx holds_nil hp) (allSome_ok hl hp hs)
    exact ⟨_, h2, run_callV (l := lv.toList) (m := mv.toList) hop (by simpa using hv) he⟩
   | yl i svs' =>
    rw [hwv] at hw
    intro own0 a w pl hl hp
    obtain ⟨rfl, hv⟩ := hw own0 w pl _ (hl [] _ _ hx holds_nil hp)
    exact ⟨_, allSome_ok hl hp hs, run_callY hop hv⟩
  ·trivial
 ·trivial
theorem doOpN_ok (hE : ExeOk E) {lt : Option Value} {hint : Hint} {own : Tr Ob} {k : Nat} {r : OpR} (h : doOpN E lt hint lk own o k = some r) : OpOk P G lk p o own r := by
 have hw : WhoOk P lk p o (who P lk o) := who_ok
 unfold doOpN at h
 split at h
 ·rename_i f svs hwho
  rw [hwho] at hw
  have inl : E.call k f svs own = some r → OpOk P G lk p o own r := by
   intro h
   obtain ⟨h1, h2, h3⟩ := hE.call _ _ _ _ _ h
   refine ⟨h1, h2, fun fr own0 a w pl hG hc ht m hl hp => ?_⟩
   obtain ⟨vals, hv, hr⟩ := hw own0 a w pl hl hp
   intro K hK
   refine .inl fun Q => ?_
   unfold Oper.wp
   rw [hr, Oper.upon_enter]
   refine Calls.mono (h3 fr own0 w pl vals hG hc ht m hv) ?_
   rintro e w' ⟨v, pl', rfl, m', L, hs⟩
   exact hK v w' pl' m' L (.inr hs)
  split at h
  ·rename_i e he
   split at h
   ·rename_i r' hr'
    simp only [Option.some.injEq] at h
    subst h
    refine callT_ok hr' fun own0 a w pl hl hp => ?_
    obtain ⟨vals, hv, hr⟩ := hw own0 a w pl hl hp
    have := entOf_f he
    subst this
    exact ⟨vals, hv, runs_call hr⟩
   ·exact inl h
  ·exact inl h
 ·rename_i i svs hwho
  rw [hwho] at hw
  obtain ⟨h1, h2, h3⟩ := hE.yld _ _ _ _ _ h
  refine ⟨h1, h2, fun fr own0 a w pl hG hc ht m hl hp => ?_⟩
  obtain ⟨vals, hv, hr⟩ := hw own0 a w pl hl hp
  intro K hK
  obtain ⟨f, tmps, asg, bd, h4, h5⟩ := h3 fr own0 w pl vals hG hc ht m hv
  refine .inr ⟨_, f, tmps, asg, bd, hr.trans h4, h5.mono ?_⟩
  rintro e w' ⟨v, pl', rfl, m', L, hs⟩
  exact ⟨v, rfl, hK v w' pl' m' L (.inr hs)⟩
 ·split at h
  ·rename_i s hs
   refine effR_ok h fun fr own0 a w pl hG hc ht m hl hp => ?_
   unfold neOp at hs
   split at hs
   ·rename_i f x ats hop
    split at hs
    ·rename_i ne hne
     cases hn : isNoEsc P f with
     | false => rw [hn] at hs; cases hs
     | true =>
      rw [hn] at hs
      simp only [cond_true] at hs
      split at hs
      ·rename_i c hx
       simp only [Option.some.injEq] at hs
       subst hs
       have hNE : NoEsc P f := by have := neOf_f hne; subst this; exact ne.ok
       exact (does_eff (e := ⟨.c c, [], [], [.un (NoEsc P f)]⟩) rfl rfl (nescE_ok m hl hp hop (show nescE P lk f x = some ⟨.c c, [], [], [.un (NoEsc P f)]⟩ by unfold nescE; rw [hn, if_pos rfl, hx]) hNE).x)
      ·cases hs
    ·cases hs
   ·cases hs
  split at h
  ·rename_i e he
   exact effR_ok h fun fr own0 a w pl hG hc ht m hl hp => (opW_ok m hl hp he ht).x
  ·split at h
   ·rename_i e he
    split at h
    ·rename_i v
     unfold litR at h
     split at h
     ·rename_i x hx
      refine effR_ok h fun fr own0 a w pl hG hc ht m hl hp => ?_
      subst hG
      have hc1 : x = v := conj_mem hc (by simp)
      have hc2 : conj e.obl := conj_of_all fun c hcm => conj_mem hc (by simp [hcm])
      subst hc1
      exact does_eff (e := e) hx.symm rfl (opE_ok m hl hp he ht hc2)
     ·cases h
    split at h
    ·refine effR_ok h fun fr own0 a w pl hG hc ht m hl hp => ?_
     subst hG
     exact opE_ok m hl hp he ht hc
    cases hob : e.obs.all (·.b) with
    | false => rw [hob] at h; cases h
    | true =>
     rw [hob] at h
     refine effR_ok h fun fr own0 a w pl hG hc ht m hl hp => ?_
     subst hG
     refine opE_ok m hl hp he ht (conj_of_all fun c hcm => ?_)
     simp only [Eff.obl, pOf, List.mem_map] at hcm
     obtain ⟨x, hx, rfl⟩ := hcm
     exact x.h (List.all_eq_true.1 hob x hx)
   ·split at h
    ·rename_i e he
     exact effR_ok h fun fr own0 a w pl hG hc ht m hl hp => (opQ_ok m hl hp he ht).x
    ·split at h
     ·rename_i e he
      cases hob : e.obs.all (·.b) with
      | false => rw [hob] at h; cases h
      | true =>
       rw [hob] at h
       refine effR_ok h fun fr own0 a w pl hG hc ht m hl hp => ?_
       subst hG
       refine opE_ok m (lkN_ok hl) hp he ht (conj_of_all fun c hcm => ?_)
       simp only [Eff.obl, pOf, List.mem_map] at hcm
       obtain ⟨x, hx, rfl⟩ := hcm
       exact x.h (List.all_eq_true.1 hob x hx)
     ·cases h
theorem doOp_ok (hE : ExeOk E) {own : Tr Ob} {k : Nat} {r : OpR} (h : doOp E lk own o k = some r) : OpOk P G lk p o own r := by
 unfold doOp at h
 cases hm : isMark (E.lit k) with
 | false => rw [hm] at h; exact doOpN_ok hE h
 | true =>
  rw [hm] at h
  simp only [cond_true] at h
  split at h
  ·rename_i lk1 own1 us hf
   split at h
   ·rename_i r1 hr
    simp only [Option.some.injEq] at h
    subst h
    obtain ⟨f1, f2, f3⟩ := frzAll_ok hf
    have hin : ∀ {fr : Fr} {own0 : Own} {a : Act} {w : World} {pl : Pl}, LkOk a w pl own0 p lk1 → LkOk a w pl own0 p lk1 := id
    obtain ⟨g1, g2, g3⟩ := doOpN_ok (p := p) hE hr
    refine ⟨by show r1.own.get = _; rw [g1, f2, updL_append], fun x hx => ?_, fun fr own0 a w pl hG hc ht m hl hp => ?_⟩
    ·simp only [keys, List.map_append, List.mem_append] at hx ⊢
     rcases hx with hx | hx
     ·exact .inl hx
     ·exact .inr (g2 x hx)
    ·obtain ⟨pl1, m1, L1, hl1⟩ := f3 (fun i hi => ht i (by simp only [List.mem_append]; exact .inl (f1 ▸ hi))) m hl
     have hd := g3 fr (updL own0 us) a w pl1 hG hc (fun i hi => by
      rw [f2]
      exact updL_congr _ (ht i (by simp only [List.mem_append]; exact .inr hi))) m1 hl1 hp
     intro K hK
     refine hd K fun v w' pl' m' L' hs => ?_
     simp only [OpR.eff] at hK m' L' hs
     rw [updL_append] at hK
     exact hK v w' pl' m' (L1.trans L') hs
   ·cases h
  ·cases h
end
inductive Mk where
 | mark (i : Nat)
 | df (f : FuncId) (cap : List (Nat × Nat))
structure XS where
 env : Tr SV
 own : Tr Ob
 k : Nat
 T : List Nat
 U : List (Nat × Ob)
 cs : List Prop
 mks : List Mk
def lkX (loc : EnvL) (tr : Tr SV) (p : Path) (us : List Nat) : Lk := lookU (envF loc tr) p us
def dstX (n : Nat) (d : Option Nat) : Bool := match d with
 | some t => Nat.blt t n && few t
 | none => true
def putX (loc : EnvL) (r : Rec) : EnvL := match r.dst with
 | some t => (t, r.path, r.sv) :: loc
 | none => loc
def recX {P : Program} {G : List (Nat × List Value)} (E : Exe P G) (n : Nat) (ops : Array Oper) (loc : EnvL) (tr : Tr SV) (own : Tr Ob) (k : Nat) (o : Oper) : Option (Rec × Tr Ob × Nat × List Prop) :=
 match pathOf ops (envF loc tr) o with
 | some p => bif closed (envF loc tr) p && chainB (envF loc tr) p && dstX n o.dst && dstOk n o.dst p then
   bif holdsB (envF loc tr) p then (match doOp E (lkX loc tr p (opTmps o)) own o k with
    | some r => some (⟨o.dst, [], r.sv, r.upd, r.touch, opTmps o ++ p.map (·.1), []⟩, r.own, r.k, r.cs)
    | none => none)
   else some (⟨o.dst, p, .c (.d (.v (.bool false))), [], [], p.map (·.1), []⟩, own, k, [])
  else none
 | none => none
def recsX {P : Program} {G : List (Nat × List Value)} (E : Exe P G) (n : Nat) (ops : Array Oper) : List Oper → EnvL → Tr SV → Tr Ob → Nat → Option (List Rec × EnvL × Tr Ob × Nat × List Prop)
 | [], loc, _, own, k => some ([], loc, own, k, [])
 | o :: l, loc, tr, own, k => match recX E n ops loc tr own k o with
  | some (r, own1, k1, cs1) => match recsX E n ops l (putX loc r) tr own1 k1 with
   | some (rs, loc', own', k', cs) => some (r :: rs, loc', own', k', cs1 ++ cs)
   | none => none
  | none => none
def regX {P : Program} {G : List (Nat × List Value)} (E : Exe P G) (n : Nat) (ops : Array Oper) (draw : Bool) (st : XS) : Option XS :=
 match recsX E n ops ops.toList [] st.env st.own st.k with
 | some (rs, loc, own, k, cs) => bif okT rs && (!draw || (okB 0 rs (bef ops) && edgesOk 0 ops.toList)) then
   some ⟨flushE loc st.env, own, k, (rs.flatMap (·.touch)) ++ st.T, (rs.flatMap (·.upd)).reverse ++ st.U, cs ++ st.cs, st.mks⟩ else none
 | none => none
section
variable {P : Program} {G : List (Nat × List Value)} {E : Exe P G} {fr : Fr} {n : Nat} {ops : Array Oper}
theorem envF_put (loc : EnvL) (tr : Tr SV) (r : Rec) : envF (putX loc r) tr = putR (envF loc tr) r := by
 funext u
 unfold putX putR
 cases r.dst with
 | none => rfl
 | some t =>
  simp only [envF, findE, upd]
  by_cases h : u = t
  ·subst h; simp
  ·have : (t == u) = false := by simpa using fun e => h e.symm
   simp [this, h]
theorem pathOf_congr {env env' : Env} {o : Oper} {p : Path} (h : pathOf ops env o = some p) (hu : ∀ x ∈ p, env' x.1 = env x.1) : pathOf ops env' o = some p := by
 unfold pathOf at h ⊢
 split at h
 ·exact h
 ·rename_i j want hg
  split at h
  ·cases h
  ·rename_i g hd
   split at h
   ·rename_i q b hfd
    simp only [Option.some.injEq] at h
    have : env' g = env g := hu (g, want) (by rw [← h]; simp)
    simp only [hd, this, hfd, h]
   ·cases h
theorem recX_ok (hE : ExeOk E) (hG : fr.G = G) {loc : EnvL} {tr : Tr SV} {own own' : Tr Ob} {k k' : Nat} {i : Nat} {o : Oper} {r : Rec} {cs : List Prop} (h : recX E n ops loc tr own k o = some (r, own', k', cs)) (hoi : ops[i]? = some o) (hc : conj cs) :
  own'.get = updL own.get r.upd ∧ (∀ x ∈ keys r.upd, x ∈ r.touch) ∧ (∀ x, x ∈ slots r → x ∈ r.uses) ∧ RecDoes P fr n ops i r (envF loc tr) own.get ∧ r.dst = o.dst ∧ dstX n o.dst = true := by
 unfold recX at h
 split at h
 ·rename_i p hp
  cases hchk : (closed (envF loc tr) p && chainB (envF loc tr) p && dstX n o.dst && dstOk n o.dst p) with
  | false => rw [hchk] at h; cases h
  | true =>
   rw [hchk] at h
   simp only [Bool.and_eq_true] at hchk
   obtain ⟨⟨⟨hcl, hch⟩, hdx⟩, hdo⟩ := hchk
   cases hh : holdsB (envF loc tr) p with
   | true =>
    rw [hh] at h
    simp only [cond_true] at h
    split at h
    ·rename_i r' hr
     simp only [Option.some.injEq, Prod.mk.injEq] at h
     obtain ⟨rfl, rfl, rfl, rfl⟩ := h
     obtain ⟨h1, h2, h3⟩ := doOp_ok (p := p) hE hr
     refine ⟨h1, h2, fun x hx => by simp [slots] at hx, ?_, rfl, hdx⟩
     intro env own0 a w pl hok hu ht hm K hK
     simp only at hu ht hm hK
     have hpu : ∀ x ∈ p, env x.1 = envF loc tr x.1 := fun x hx => hu x.1 (by simp only [List.mem_append, List.mem_map]; exact .inr ⟨x, hx, rfl⟩)
     have hpath := pathOf_congr hp hpu
     have hw := wanted_iff hok hpath
     have hP : Eng.Holds a p := by
      obtain ⟨e1, e2⟩ := chainB_congr hpu
      exact holdsP_ok hok (by rw [e1]; exact hch) (by rw [e2]; exact holdsB_iff.1 hh)
     have hlk : LkOk a w pl own0 p (lkX loc tr p (opTmps o)) := by
      intro q x sv hs hq hh
      refine lookS_ok hok p q x sv ?_ hq hh
      cases x with
      | tmp t =>
       simp only [lkX, lookU] at hs
       split at hs
       ·rename_i hin
        have : env t = envF loc tr t := hu t (by simp only [List.mem_append]; exact .inl (by simpa using hin))
        simp only [lookS] at hs ⊢
        rw [this]; exact hs
       ·cases hs
      | const v => exact hs
      | global g => exact hs
      | func f => exact hs
     unfold wpOpX
     rw [hoi]
     simp only
     rw [if_pos (hw.2 hP)]
     refine h3 fr own0 a w pl hG hc ht hok.mem hlk hP K fun v w' pl' m' L hv => ?_
     refine hK _ w' pl' ?_
     have hok' := hok.later m' L
     cases hd : o.dst with
     | none => simp only [putR, hd]; exact hok'
     | some t =>
      simp only [dstOk, hd, Bool.and_eq_true, decide_eq_true_eq] at hdo
      simp only [putR, hd]
      exact hok'.put hdo.1 (hm t hd) (fun x hx => by cases hx) (fun _ => hv.resolve_left (by rw [hd]; simp)) (fun h => absurd holds_nil h)
    ·cases h
   | false =>
    rw [hh] at h
    simp only [cond_false, Option.some.injEq, Prod.mk.injEq] at h
    obtain ⟨rfl, rfl, rfl, rfl⟩ := h
    refine ⟨rfl, fun x hx => by simp [keys] at hx, fun x hx => hx, ?_, rfl, hdx⟩
    intro env own0 a w pl hok hu ht hm K hK
    simp only at hu ht hm hK
    have hpu : ∀ x ∈ p, env x.1 = envF loc tr x.1 := fun x hx => hu x.1 (by simp only [List.mem_map]; exact ⟨x, hx, rfl⟩)
    have hw := wanted_iff hok (pathOf_congr hp hpu)
    have hP : ¬ Eng.Holds a p := by
     intro hP
     obtain ⟨e1, e2⟩ := chainB_congr hpu
     have := holdsP_of hok (by rw [e1]; exact hch) hP
     rw [e2] at this
     rw [holdsB_iff.2 this] at hh
     cases hh
    unfold wpOpX
    rw [hoi]
    simp only
    rw [if_neg (fun h => hP (hw.1 h))]
    refine hK _ w pl ?_
    cases hd : o.dst with
    | none => simp only [putR, hd]; exact hok
    | some t =>
     simp only [dstOk, hd, Bool.and_eq_true, decide_eq_true_eq, List.all_eq_true, bne_iff_ne] at hdo
     simp only [putR, hd]
     exact hok.put hdo.1 (hm t hd) (fun x hx => hdo.2 x hx) (fun h => absurd h hP) (fun _ => rfl)
 ·cases h
theorem recsX_ok (hE : ExeOk E) (hG : fr.G = G) {tr : Tr SV} : ∀ {l : List Oper} {i0 : Nat} {loc loc' : EnvL} {own own' : Tr Ob} {k k' : Nat} {rs : List Rec} {cs : List Prop}, recsX E n ops l loc tr own k = some (rs, loc', own', k', cs) → (∀ i o, l[i]? = some o → ops[i0 + i]? = some o) → conj cs →
  rs.length = l.length ∧ envF loc' tr = envD rs (fun _ => true) 0 (envF loc tr) ∧ own'.get = ownD rs (fun _ => true) 0 own.get ∧
  (∀ (i : Nat) (r : Rec), rs[i]? = some r → ∃ envi owni, RecDoes P fr n ops (i0 + i) r envi owni ∧ envi = envD rs (fun j => decide (j < i)) 0 (envF loc tr) ∧ owni = ownD rs (fun j => decide (j < i)) 0 own.get) ∧
  (∀ (i : Nat) (r : Rec), rs[i]? = some r → ∀ x ∈ keys r.upd, x ∈ r.touch) ∧ (∀ (i : Nat) (r : Rec), rs[i]? = some r → ∀ x, x ∈ slots r → x ∈ r.uses) ∧ ((loc.all fun e => few e.1) = true → (loc'.all fun e => few e.1) = true) ∧
  own'.get = updL own.get (rs.flatMap (·.upd))
 | [], i0, loc, loc', own, own', k, k', rs, cs, h, _, _ => by
  simp only [recsX, Option.some.injEq, Prod.mk.injEq] at h
  obtain ⟨rfl, rfl, rfl, rfl, rfl⟩ := h
  exact ⟨rfl, rfl, rfl, fun i r hi => by simp at hi, fun i r hi => by simp at hi, fun i r hi => by simp at hi, fun h => h, rfl⟩
 | o :: l, i0, loc, loc', own, own', k, k', rs, cs, h, hops, hc => by
  simp only [recsX] at h
  split at h
  ·rename_i r own1 k1 cs1 hr
   split at h
   ·rename_i rs2 loc2 own2 k2 cs2 hrs
    simp only [Option.some.injEq, Prod.mk.injEq] at h
    obtain ⟨rfl, rfl, rfl, rfl, rfl⟩ := h
    obtain ⟨hc1, hc2⟩ := conj_append hc
    obtain ⟨a1, a2, a3, a4, a5, a6⟩ := recX_ok hE hG (i := i0) hr (by simpa using hops 0 o rfl) hc1
    obtain ⟨b1, b2, b3, b4, b5, b6, b7, b8⟩ := recsX_ok hE hG (i0 := i0 + 1) hrs (fun i o' hi => by rw [show i0 + 1 + i = i0 + (i + 1) by omega]; exact hops (i + 1) o' (by simpa using hi)) hc2
    have shE : ∀ (rs : List Rec) (D D' : Nat → Bool) (k k' : Nat) (e : Env), (∀ j, D (k + j) = D' (k' + j)) → envD rs D k e = envD rs D' k' e := by
     intro rs
     induction rs with
     | nil => intros; rfl
     | cons y ys ih =>
      intro D D' k k' e hD
      have h0 := hD 0
      simp only [Nat.add_zero] at h0
      simp only [envD, h0]
      exact ih _ _ _ _ _ fun j => by have := hD (j + 1); rw [show k + 1 + j = k + (j + 1) by omega, show k' + 1 + j = k' + (j + 1) by omega]; exact this
    have shO : ∀ (rs : List Rec) (D D' : Nat → Bool) (k k' : Nat) (e : Own), (∀ j, D (k + j) = D' (k' + j)) → ownD rs D k e = ownD rs D' k' e := by
     intro rs
     induction rs with
     | nil => intros; rfl
     | cons y ys ih =>
      intro D D' k k' e hD
      have h0 := hD 0
      simp only [Nat.add_zero] at h0
      simp only [ownD, h0]
      exact ih _ _ _ _ _ fun j => by have := hD (j + 1); rw [show k + 1 + j = k + (j + 1) by omega, show k' + 1 + j = k' + (j + 1) by omega]; exact this
    refine ⟨by simp [b1], ?_, ?_, fun i r' hi => ?_, fun i r' hi => ?_, fun i r' hi => ?_, fun hf => b7 ?_, ?_⟩
    ·rw [b2, envF_put]
     simp only [envD, if_true]
     exact shE _ _ _ _ _ _ fun j => rfl
    ·rw [b3, a1]
     simp only [ownD, if_true]
     exact shO _ _ _ _ _ _ fun j => rfl
    ·cases i with
     | zero =>
      simp only [List.getElem?_cons_zero, Option.some.injEq] at hi
      subst hi
      exact ⟨_, _, a4, (envD_none _ _ (fun j => by simp) 0 _).symm, (ownD_none _ _ (fun j => by simp) 0 _).symm⟩
     | succ i =>
      obtain ⟨envi, owni, c1, c2, c3⟩ := b4 i r' (by simpa using hi)
      refine ⟨envi, owni, by rw [show i0 + (i + 1) = i0 + 1 + i by omega]; exact c1, ?_, ?_⟩
      ·rw [c2, envF_put]
       simp only [envD, decide_eq_true (show 0 < i + 1 by omega), if_true]
       exact shE _ _ _ _ _ _ fun j => by simp only [Nat.zero_add, decide_eq_decide]; omega
      ·rw [c3, a1]
       simp only [ownD, decide_eq_true (show 0 < i + 1 by omega), if_true]
       exact shO _ _ _ _ _ _ fun j => by simp only [Nat.zero_add, decide_eq_decide]; omega
    ·cases i with
     | zero => simp only [List.getElem?_cons_zero, Option.some.injEq] at hi; subst hi; exact a2
     | succ i => exact b5 i r' (by simpa using hi)
    ·cases i with
     | zero => simp only [List.getElem?_cons_zero, Option.some.injEq] at hi; subst hi; exact a3
     | succ i => exact b6 i r' (by simpa using hi)
    ·unfold putX
     cases hd : r.dst with
     | none => exact hf
     | some t =>
      rw [a5] at hd
      rw [hd] at a6
      simp only [dstX, Bool.and_eq_true] at a6
      simp only [List.all_cons, a6.2, Bool.true_and]
      exact hf
    ·rw [b8, a1, List.flatMap_cons, updL_append]
   ·cases h
  ·cases h
theorem recX_pre (hE : ExeOk E) {loc : EnvL} {tr : Tr SV} {own own' : Tr Ob} {k k' : Nat} {o : Oper} {r : Rec} {cs : List Prop} (h : recX E n ops loc tr own k o = some (r, own', k', cs)) :
  own'.get = updL own.get r.upd ∧ (∀ x ∈ keys r.upd, x ∈ r.touch) := by
 unfold recX at h
 split at h
 ·rename_i p hp
  cases hchk : (closed (envF loc tr) p && chainB (envF loc tr) p && dstX n o.dst && dstOk n o.dst p) with
  | false => rw [hchk] at h; cases h
  | true =>
   rw [hchk] at h
   cases hh : holdsB (envF loc tr) p with
   | true =>
    rw [hh] at h
    simp only [cond_true] at h
    split at h
    ·rename_i r' hr
     simp only [Option.some.injEq, Prod.mk.injEq] at h
     obtain ⟨rfl, rfl, rfl, rfl⟩ := h
     obtain ⟨h1, h2, h3⟩ := doOp_ok (p := p) hE hr
     exact ⟨h1, h2⟩
    ·cases h
   | false =>
    rw [hh] at h
    simp only [cond_true, cond_false, Option.some.injEq, Prod.mk.injEq] at h
    obtain ⟨rfl, rfl, rfl, rfl⟩ := h
    exact ⟨rfl, fun x hx => by simp [keys] at hx⟩
 ·cases h
theorem recsX_pre (hE : ExeOk E) {tr : Tr SV} : ∀ {l : List Oper} {loc loc' : EnvL} {own own' : Tr Ob} {k k' : Nat} {rs : List Rec} {cs : List Prop}, recsX E n ops l loc tr own k = some (rs, loc', own', k', cs) →
  own'.get = updL own.get (rs.flatMap (·.upd)) ∧ ∀ r ∈ rs, ∀ x ∈ keys r.upd, x ∈ r.touch
 | [], loc, loc', own, own', k, k', rs, cs, h => by
  simp only [recsX, Option.some.injEq, Prod.mk.injEq] at h
  obtain ⟨rfl, rfl, rfl, rfl, rfl⟩ := h
  exact ⟨rfl, fun r hr => by cases hr⟩
 | o :: l, loc, loc', own, own', k, k', rs, cs, h => by
  simp only [recsX] at h
  split at h
  ·rename_i r own1 k1 cs1 hr
   split at h
   ·rename_i rs2 loc2 own2 k2 cs2 hrs
    simp only [Option.some.injEq, Prod.mk.injEq] at h
    obtain ⟨rfl, rfl, rfl, rfl, rfl⟩ := h
    obtain ⟨a1, a2⟩ := recX_pre hE hr
    obtain ⟨b1, b2⟩ := recsX_pre hE hrs
    refine ⟨by rw [b1, a1, List.flatMap_cons, updL_append], fun r' hr' => ?_⟩
    rcases List.mem_cons.1 hr' with rfl | hr'
    ·exact a2
    ·exact b2 r' hr'
   ·cases h
  ·cases h
def updR : List (Nat × Ob) → Own → Own
 | [], own => own
 | (i, o) :: r, own => upd (updR r own) i o
theorem updR_append : ∀ (l m : List (Nat × Ob)) (own : Own), updR (l ++ m) own = updR l (updR m own)
 | [], _, _ => rfl
 | (i, o) :: r, m, own => by simp only [List.cons_append, updR, updR_append r m own]
theorem updR_rev : ∀ (l : List (Nat × Ob)) (own : Own), updR l.reverse own = updL own l
 | [], _ => rfl
 | (i, o) :: r, own => by
  simp only [List.reverse_cons, updL]
  rw [updR_append, updR_rev r]
  rfl
theorem updR_congr (l : List (Nat × Ob)) {own own' : Own} {i : Nat} (h : own i = own' i) : updR l own i = updR l own' i := by
 rw [← List.reverse_reverse l, updR_rev, updR_rev]
 exact updL_congr _ h
theorem ownD_all : ∀ (rs : List Rec) (k : Nat) (own : Own), ownD rs (fun _ => true) k own = updL own (rs.flatMap (·.upd))
 | [], _, _ => rfl
 | r :: rs, k, own => by simp only [ownD, if_true, List.flatMap_cons, updL_append]; exact ownD_all rs (k + 1) _
def Mk.d (pl : Pl) : Mk → Deferred
 | .mark i => { target := .collected (pl.blk i), args := #[] }
 | .df f cap => { target := .fn (.func f) (cap.map (adV pl)).toArray, args := #[] }
def mkD (pl : Pl) (mk : List Mk) : List Deferred := mk.map (Mk.d pl)
def Mk.bx (own : Own) : Mk → Prop
 | .mark i => ∃ ty cs, own i = some (.box ty cs)
 | .df _ cap => ∀ x ∈ cap, ∃ ty cs, own x.1 = some (.box ty cs)
structure OkM (fr : Fr) (n : Nat) (env : Env) (own : Own) (mk : List Mk) (a : Act) (w : World) (pl : Pl) : Prop where
 ok : Ok { fr with ds := mkD pl mk } n env own a w pl
 bx : ∀ x ∈ mk, x.bx own
theorem mkD_later {w w' : World} {pl pl' : Pl} {own own' : Own} (L : Later w pl own w' pl' own') {mk : List Mk} (h : ∀ x ∈ mk, x.bx own) : mkD pl' mk = mkD pl mk ∧ ∀ x ∈ mk, x.bx own' := by
 refine ⟨List.map_congr_left fun x hx => ?_, fun x hx => ?_⟩
 ·have hb := h x hx
  cases x with
  | mark i =>
   obtain ⟨ty, cs, ho⟩ := hb
   simp only [Mk.d, (L.bx i ty cs ho).2]
  | df f cap =>
   simp only [Mk.d]
   congr 3
   exact List.map_congr_left fun y hy => by
    obtain ⟨ty, cs, ho⟩ := hb y hy
    simp only [adV, (L.bx y.1 ty cs ho).2]
 ·have hb := h x hx
  cases x with
  | mark i =>
   obtain ⟨ty, cs, ho⟩ := hb
   exact (L.bx i ty cs ho).1
  | df f cap =>
   intro y hy
   obtain ⟨ty, cs, ho⟩ := hb y hy
   exact (L.bx y.1 ty cs ho).1
theorem Mem.to {fr : Fr} (ds : List Deferred) (lat : List (World × Pl × Own)) {own : Own} {w : World} {pl : Pl} (m : Mem fr own w pl) : Mem { fr with ds := ds, lat := lat } own w pl :=
 ⟨⟨m.frOk.glob, m.frOk.inW, m.frOk.few⟩, m.hS, m.obj, m.inj, m.base, m.bor, m.os, m.tape, m.output, m.grow, m.keep, m.pin⟩
theorem Mem.of {fr : Fr} {ds : List Deferred} {lat : List (World × Pl × Own)} {own : Own} {w : World} {pl : Pl} (m : Mem { fr with ds := ds, lat := lat } own w pl) : Mem fr own w pl :=
 ⟨⟨m.frOk.glob, m.frOk.inW, m.frOk.few⟩, m.hS, m.obj, m.inj, m.base, m.bor, m.os, m.tape, m.output, m.grow, m.keep, m.pin⟩
theorem OkM.snap {fr : Fr} {n : Nat} {env : Env} {own : Own} {mk : List Mk} {a : Act} {w : World} {pl : Pl} (h : OkM fr n env own mk a w pl) : Ok { fr with ds := mkD pl mk, lat := (w, pl, own) :: fr.lat } n env own a w pl :=
 ⟨h.ok.mem.of.to _ _, h.ok.defers, h.ok.size, h.ok.yes, h.ok.no, fun q hq => by
  rcases List.mem_cons.1 hq with rfl | hq
  ·exact Later.refl _ _ _
  ·exact h.ok.late q hq⟩
theorem OkM.unsnap {fr : Fr} {n : Nat} {env env' : Env} {own own' : Own} {mk : List Mk} {a a' : Act} {w w' : World} {pl pl' : Pl} (h : OkM fr n env own mk a w pl) (h' : Ok { fr with ds := mkD pl mk, lat := (w, pl, own) :: fr.lat } n env' own' a' w' pl') : OkM fr n env' own' mk a' w' pl' ∧ Later w pl own w' pl' own' := by
 have L := h'.late (w, pl, own) (by simp)
 obtain ⟨h1, h2⟩ := mkD_later L h.bx
 refine ⟨⟨⟨h'.mem.of.to _ _, by rw [h1]; exact h'.defers, h'.size, h'.yes, h'.no, fun q hq => h'.late q (by simp; exact .inr hq)⟩, h2⟩, L⟩
def RIs (P : Program) (fl : Option Nat) (fr : Fr) (R : Wp P) : Prop := match fl with
 | none => R = plainWp P
 | some i => ∃ q ∈ fr.lat, (∃ ty cs, q.2.2 i = some (.box ty cs)) ∧ R = roundWp P (q.2.1.blk i)
structure Goes (P : Program) (G : List (Nat × List Value)) (fl : Option Nat) (n : Nat) (V : Wp P → (Exit → Act → World → Prop) → Act → World → Prop) (e : Ex) (st st' : XS) : Prop where
 dl : ∃ (dT : List Nat) (dU : List (Nat × Ob)) (dC : List Prop), st'.T = dT ++ st.T ∧ st'.U = dU ++ st.U ∧ st'.cs = dC ++ st.cs ∧ st'.own.get = updR dU st.own.get ∧ (∀ x ∈ keys dU, x ∈ dT) ∧
  ∀ (R : Wp P) (fr : Fr) (own0 : Own) (a : Act) (w : World) (pl : Pl) (Q : Exit → Act → World → Prop), RIs P fl fr R → fr.G = G → conj dC → (∀ i ∈ dT, own0 i = st.own.get i) → OkM fr n (envF [] st.env) own0 st.mks a w pl →
   (∀ a' w' pl', OkM fr n (envF [] st'.env) (updR dU own0) st'.mks a' w' pl' → Q e.to a' w') → V R Q a w
theorem regX_ok (hE : ExeOk E) (hm : P.follows .mixedOrders = true) {fl : Option Nat} {id : Nat} {draw : Bool} {st st' : XS} (hnd : noDefer ops = true) (h : regX E n ops draw st = some st') : Goes P G fl n (fun R Q => R.wp (.region id ops draw) Q) .normal st st' := by
 unfold regX at h
 split at h
 ·rename_i rs loc own k cs hrs
  cases hchk : (okT rs && (!draw || (okB 0 rs (bef ops) && edgesOk 0 ops.toList))) with
  | false => rw [hchk] at h; cases h
  | true =>
   rw [hchk] at h
   simp only [cond_true, Option.some.injEq] at h
   subst h
   simp only [Bool.and_eq_true, Bool.or_eq_true, Bool.not_eq_true'] at hchk
   obtain ⟨hT, hA⟩ := hchk
   have hops : ∀ i o, ops.toList[i]? = some o → ops[0 + i]? = some o := fun i o h => by rw [Nat.zero_add]; simpa using h
   refine ⟨rs.flatMap (·.touch), (rs.flatMap (·.upd)).reverse, cs, rfl, rfl, rfl, ?_, ?_, fun R fr own0 a w pl Q hR hG hc ht hok hQ => ?_⟩
   ·
    rw [updR_rev]
    exact (recsX_pre hE hrs).1
   ·intro x hx
    obtain ⟨y, hy, rfl⟩ := List.mem_map.1 hx
    obtain ⟨r, hr, hy⟩ := List.mem_flatMap.1 (List.mem_reverse.1 hy)
    exact List.mem_flatMap.2 ⟨r, hr, (recsX_pre hE hrs).2 r hr _ (List.mem_map.2 ⟨y, hy, rfl⟩)⟩
   ·obtain ⟨b1, b2, b3, b4, b5, b6, b7, b8⟩ := recsX_ok (fr := { fr with ds := mkD pl st.mks, lat := (w, pl, own0) :: fr.lat }) hE hG hrs hops hc
    have hRR : RecsOk P { fr with ds := mkD pl st.mks, lat := (w, pl, own0) :: fr.lat } n ops rs (envF [] st.env) st.own.get (envF loc st.env) own.get :=
     ⟨by rw [b1]; simp, b2, b3, fun i r hi => by obtain ⟨x, y, c1, c2, c3⟩ := b4 i r hi; rw [Nat.zero_add] at c1; exact ⟨x, y, c1, c2, c3⟩, b5, b6⟩
    refine region_X hm hRR (fun i r hi x hx => ht x (List.mem_flatMap.2 ⟨r, List.mem_of_getElem? hi, hx⟩)) (fun u q sv h => ?_) hT (fun hd => by
     rcases hA with h | h
     ·rw [hd] at h; cases h
     ·exact h) hnd hok.snap (fun a' w' pl' hok' => ?_)
    ·simp only [envF, findE, Option.map_eq_some_iff, Prod.mk.injEq] at h
     obtain ⟨_, _, h, _⟩ := h
     exact h.symm
    ·refine hQ a' w' pl' ?_
     rw [updR_rev, ← ownD_all rs 0]
     exact (hok.unsnap (ok_env hok' fun u q sv h => (flushE_get (b7 rfl) h).2)).1
 ·cases h
theorem regX0_ok (hE : ExeOk E) {fl : Option Nat} {draw : Bool} {st st' : XS} (h : regX E n ops draw st = some st') : Goes P G fl n (fun R Q => wpOpsX P ops (Q .normal) (List.range ops.size)) .normal st st' := by
 unfold regX at h
 split at h
 ·rename_i rs loc own k cs hrs
  cases hchk : (okT rs && (!draw || (okB 0 rs (bef ops) && edgesOk 0 ops.toList))) with
  | false => rw [hchk] at h; cases h
  | true =>
   rw [hchk] at h
   simp only [cond_true, Option.some.injEq] at h
   subst h
   simp only [Bool.and_eq_true, Bool.or_eq_true, Bool.not_eq_true'] at hchk
   obtain ⟨hT, hA⟩ := hchk
   have hops : ∀ i o, ops.toList[i]? = some o → ops[0 + i]? = some o := fun i o h => by rw [Nat.zero_add]; simpa using h
   refine ⟨rs.flatMap (·.touch), (rs.flatMap (·.upd)).reverse, cs, rfl, rfl, rfl, ?_, ?_, fun R fr own0 a w pl Q hR hG hc ht hok hQ => ?_⟩
   ·
    rw [updR_rev]
    exact (recsX_pre hE hrs).1
   ·intro x hx
    obtain ⟨y, hy, rfl⟩ := List.mem_map.1 hx
    obtain ⟨r, hr, hy⟩ := List.mem_flatMap.1 (List.mem_reverse.1 hy)
    exact List.mem_flatMap.2 ⟨r, hr, (recsX_pre hE hrs).2 r hr _ (List.mem_map.2 ⟨y, hy, rfl⟩)⟩
   ·obtain ⟨b1, b2, b3, b4, b5, b6, b7, b8⟩ := recsX_ok (fr := { fr with ds := mkD pl st.mks, lat := (w, pl, own0) :: fr.lat }) hE hG hrs hops hc
    have hRR : RecsOk P { fr with ds := mkD pl st.mks, lat := (w, pl, own0) :: fr.lat } n ops rs (envF [] st.env) st.own.get (envF loc st.env) own.get :=
     ⟨by rw [b1]; simp, b2, b3, fun i r hi => by obtain ⟨x, y, c1, c2, c3⟩ := b4 i r hi; rw [Nat.zero_add] at c1; exact ⟨x, y, c1, c2, c3⟩, b5, b6⟩
    refine regionOps_X hRR (fun i r hi x hx => ht x (List.mem_flatMap.2 ⟨r, List.mem_of_getElem? hi, hx⟩)) (fun u q sv h => ?_) hT hok.snap (fun a' w' pl' hok' => ?_)
    ·simp only [envF, findE, Option.map_eq_some_iff, Prod.mk.injEq] at h
     obtain ⟨_, _, h, _⟩ := h
     exact h.symm
    ·refine hQ a' w' pl' ?_
     rw [updR_rev, ← ownD_all rs 0]
     exact (hok.unsnap (ok_env hok' fun u q sv h => (flushE_get (b7 rfl) h).2)).1
 ·cases h
end
end Go.V
namespace Go.V
open Go.RowKit
def slotsX : Nat → Tr SV → List (Nat × C)
 | 0, _ => []
 | n + 1, tr => match tr.get n with
  | some (.c c) => (n, c) :: slotsX n tr
  | _ => slotsX n tr
def LoopState.isBusy : LoopState → Bool
 | .busy => true
 | _ => false
def LoopState.isReady : LoopState → Bool
 | .ready => true
 | _ => false
def rangeX {P : Program} {G : List (Nat × List Value)} (E : Exe P G) (n : Nat) (g : Tmp) (ps : Array Tmp) (asg bd : Code) (st : XS) : Option (Ex × XS) :=
 match st.env.get g with
 | some sv => match whoV P sv [.c (.yl (st.k + 1))], st.own.get st.k, st.own.get (st.k + 1) with
  | .fn gf svs, none, none => match setL st.own [(st.k, .box ⟨.raw (.deferred (some [])), none⟩ []), (st.k + 1, .box ⟨.lp n ((slotsX n st.env).map (·.1)) .ready none ps asg bd, none⟩ ((slotsX n st.env).map (·.2)))] with
   | some own2 => match E.call (st.k + 2) gf svs own2 with
    | some r => match r.own.get (st.k + 1) with
     | some (.box ⟨.lp n' sl ls pend ps' as' bd', q⟩ cells) => match exOf pend, setL r.own [(st.k + 1, .box ⟨.lp n' sl .exhausted pend ps' as' bd', q⟩ cells)] with
      | some e, some own3 => bif LoopState.isBusy ls then none else
       some (e, ⟨st.env, own3, r.k, (st.k :: (st.k + 1) :: r.touch) ++ st.T, ((st.k + 1, .box ⟨.lp n' sl .exhausted pend ps' as' bd', q⟩ cells) :: r.upd.reverse ++ [(st.k + 1, .box ⟨.lp n ((slotsX n st.env).map (·.1)) .ready none ps asg bd, none⟩ ((slotsX n st.env).map (·.2))), (st.k, .box ⟨.raw (.deferred (some [])), none⟩ [])]) ++ st.U, r.cs ++ st.cs, .mark st.k :: st.mks⟩)
      | _, _ => none
     | _ => none
    | none => none
   | none => none
  | _, _, _ => none
 | none => none
def rangeN {P : Program} {G : List (Nat × List Value)} (E : Exe P G) (n i : Nat) (g : Tmp) (ps : Array Tmp) (asg bd : Code) (st : XS) : Option (Ex × XS) :=
 match st.env.get g, st.own.get i with
 | some sv, some (.box ⟨.lp _n _s _l _p _q _a _b, _c⟩ _d) => match whoV P sv [.c (.yl st.k)], st.own.get st.k with
  | .fn gf svs, none => match setL st.own [(st.k, .box ⟨.lp n ((slotsX n st.env).map (·.1)) .ready none ps asg bd, none⟩ ((slotsX n st.env).map (·.2)))] with
   | some own2 => match E.call (st.k + 1) gf svs own2 with
    | some r => match r.own.get st.k with
     | some (.box ⟨.lp n' sl ls pend ps' as' bd', q⟩ cells) => match exOf pend, setL r.own [(st.k, .box ⟨.lp n' sl .exhausted pend ps' as' bd', q⟩ cells)] with
      | some e, some own3 => bif LoopState.isBusy ls then none else
       some (e, ⟨st.env, own3, r.k, (i :: st.k :: r.touch) ++ st.T, ((st.k, .box ⟨.lp n' sl .exhausted pend ps' as' bd', q⟩ cells) :: r.upd.reverse ++ [(st.k, .box ⟨.lp n ((slotsX n st.env).map (·.1)) .ready none ps asg bd, none⟩ ((slotsX n st.env).map (·.2)))]) ++ st.U, r.cs ++ st.cs, st.mks⟩)
      | _, _ => none
     | _ => none
    | none => none
   | none => none
  | _, _ => none
 | _, _ => none
def isDf (o : Oper) : Option Tmp := match o.op, o.dst, o.guard with
 | .defer { callee := .value (.tmp t), args := ⟨[]⟩, argTypes := _ }, none, none => some t
 | _, _, _ => none
def regD {P : Program} {G : List (Nat × List Value)} (E : Exe P G) (n : Nat) (ops : Array Oper) (st : XS) : Option XS :=
 match ops.back? with
 | some o => match isDf o with
  | some t => bif noDefer ops.pop then (match regX E n ops.pop false st with
   | some st1 => match st1.env.get t with
    | some (.c (.fn f [] cap)) => match dfOf E.df f with
     | some e => bif enters P f && Nat.beq cap.length e.ar then some ⟨st1.env, st1.own, st1.k, st1.T, st1.U, st1.cs, .df f cap :: st1.mks⟩ else none
     | none => none
    | _ => none
   | none => none) else none
  | none => none
 | none => none
def frzT (t : Nat) (st : XS) : Option XS := match st.env.get t with
 | some (.c (.ar i k)) => match st.own.get i with
  | some (.arr k' ⟨e, []⟩ sz es) => bif Nat.beq k' k && Nat.ble 100 i && few t then (match setL st.own [(i, .arr (k' + 1) ⟨e, []⟩ sz [])] with
   | some own' => some ⟨Tr.put (some (.c (.d (.sl sz es)))) 40 st.env t, own', st.k, i :: st.T, (i, .arr (k' + 1) ⟨e, []⟩ sz []) :: st.U, st.cs, st.mks⟩
   | none => none) else none
  | _ => none
 | _ => none
def frzS (l : Option Value) (st : XS) : XS := match l with
 | some (.agg ⟨[.int .i64 (.ofNat t)]⟩) => match frzT t st with
  | some st' => st'
  | none => st
 | _ => st
def evC {P : Program} {G : List (Nat × List Value)} (E : Exe P G) (fl : Option Nat) (n : Nat) : Nat → Code → XS → Option (Ex × XS)
 | 0, _, _ => none
 | f + 1, c, st => match c with
  | .skip => some (.normal, st)
  | .region id ops draw => bif noDefer ops then (match regX E n ops draw (frzS (E.lit st.k) st) with
   | some st' => some (.normal, st')
   | none => none) else bif fl.isNone && !draw then (match regD E n ops st with
   | some st' => some (.normal, st')
   | none => none) else none
  | .seq x y => match evC E fl n f x st with
   | some (.normal, st') => evC E fl n f y st'
   | some (e, st') => some (e, st')
   | none => none
  | .cond c x y => match lookS (envF [] st.env) [] [] c with
   | some (.c (.d (.v (.bool b)))) => match E.orc st.k with
    | some true => evC E fl n f x ⟨st.env, st.own, st.k, st.T, st.U, (b = true) :: st.cs, st.mks⟩
    | some false => evC E fl n f y ⟨st.env, st.own, st.k, st.T, st.U, (b = false) :: st.cs, st.mks⟩
    | none => match b with
     | true => evC E fl n f x st
     | false => evC E fl n f y st
   | _ => none
  | .block id x => match evC E fl n f x st with
   | some (.exit k, st') => bif Nat.beq k id then some (.normal, st') else some (.exit k, st')
   | some (e, st') => some (e, st')
   | none => none
  | .loop x => match evC E fl n f x st with
   | some (.normal, st') => evC E fl n f (.loop x) st'
   | some (e, st') => some (e, st')
   | none => none
  | .rangeFunc (.tmp g) ps asg bd => match fl with
   | none => rangeX E n g ps asg bd st
   | some i => rangeN E n i g ps asg bd st
  | .exit id => some (.exit id, st)
  | .ret => some (.ret, st)
  | _ => none
section
variable {P : Program} {G : List (Nat × List Value)} {E : Exe P G} {n : Nat} {fl : Option Nat}
theorem Goes.nil {V : Wp P → (Exit → Act → World → Prop) → Act → World → Prop} {e : Ex} {st : XS} (h : ∀ (R : Wp P) (Q : Exit → Act → World → Prop) (a : Act) (w : World), Q e.to a w → V R Q a w) : Goes P G fl n V e st st :=
 ⟨[], [], [], rfl, rfl, rfl, rfl, fun x hx => by simp [keys] at hx, fun R fr own0 a w pl Q _ _ _ _ hok hQ => h R Q a w (hQ a w pl hok)⟩
theorem Goes.trans {V V1 V2 : Wp P → (Exit → Act → World → Prop) → Act → World → Prop} {e1 e2 : Ex} {st st1 st2 : XS} (h1 : Goes P G fl n V1 e1 st st1) (h2 : Goes P G fl n V2 e2 st1 st2)
  (h : ∀ (R : Wp P) (Q : Exit → Act → World → Prop) (a : Act) (w : World), V1 R (fun e a w => e = e1.to ∧ V2 R (fun e a w => e = e2.to ∧ Q e2.to a w) a w) a w → V R Q a w) : Goes P G fl n V e2 st st2 := by
 obtain ⟨T1, U1, C1, a1, a2, a3, a4, a5, a6⟩ := h1.dl
 obtain ⟨T2, U2, C2, b1, b2, b3, b4, b5, b6⟩ := h2.dl
 refine ⟨T2 ++ T1, U2 ++ U1, C2 ++ C1, by rw [b1, a1, List.append_assoc], by rw [b2, a2, List.append_assoc], by rw [b3, a3, List.append_assoc], by rw [b4, a4, updR_append], fun x hx => ?_, fun R fr own0 a w pl Q hR hG hc ht hok hQ => ?_⟩
 ·simp only [keys, List.map_append, List.mem_append] at hx ⊢
  exact hx.imp (b5 x) (a5 x)
 ·obtain ⟨hc2, hc1⟩ := conj_append hc
  refine h R Q a w (a6 R fr own0 a w pl _ hR hG hc1 (fun i hi => ht i (by simp [hi])) hok fun a' w' pl' hok' => ⟨rfl, ?_⟩)
  refine b6 R fr _ a' w' pl' _ hR hG hc2 (fun i hi => ?_) hok' fun a2 w2 pl2 hok2 => ⟨rfl, ?_⟩
  ·rw [a4]; exact updR_congr U1 (ht i (by simp [hi]))
  ·rw [← updR_append] at hok2
   exact hQ a2 w2 pl2 hok2
theorem Goes.one {V V1 : Wp P → (Exit → Act → World → Prop) → Act → World → Prop} {e1 e : Ex} {st st1 : XS} (h1 : Goes P G fl n V1 e1 st st1)
  (h : ∀ (R : Wp P) (Q : Exit → Act → World → Prop) (a : Act) (w : World), V1 R (fun e' a w => e' = e1.to ∧ Q e.to a w) a w → V R Q a w) : Goes P G fl n V e st st1 := by
 obtain ⟨T1, U1, C1, a1, a2, a3, a4, a5, a6⟩ := h1.dl
 refine ⟨T1, U1, C1, a1, a2, a3, a4, a5, fun R fr own0 a w pl Q hR hG hc ht hok hQ => ?_⟩
 exact h R Q a w (a6 R fr own0 a w pl _ hR hG hc ht hok fun a' w' pl' hok' => ⟨rfl, hQ a' w' pl' hok'⟩)
theorem slotsX_ok {tr : Tr SV} : ∀ {n : Nat} {t : Nat} {c : C}, (t, c) ∈ slotsX n tr → tr.get t = some (.c c) ∧ t < n
 | 0, t, c, h => by cases h
 | n + 1, t, c, h => by
  simp only [slotsX] at h
  split at h
  ·rename_i c' hc
   rcases List.mem_cons.1 h with h | h
   ·injection h with h1 h2
    subst h1; subst h2
    exact ⟨hc, by omega⟩
   ·obtain ⟨h1, h2⟩ := slotsX_ok h
    exact ⟨h1, by omega⟩
  ·obtain ⟨h1, h2⟩ := slotsX_ok h
   exact ⟨h1, by omega⟩
theorem All2.of_map {α β γ : Type} {R : β → γ → Prop} {l : List α} {f : α → β} {g : α → γ} (h : ∀ x ∈ l, R (f x) (g x)) : All2 R (l.map f) (l.map g) := by
 refine ⟨by simp, fun j x y hx hy => ?_⟩
 simp only [List.getElem?_map, Option.map_eq_some_iff] at hx hy
 obtain ⟨z, hz, rfl⟩ := hx
 obtain ⟨z', hz', rfl⟩ := hy
 rw [hz] at hz'
 simp only [Option.some.injEq] at hz'
 subst hz'
 exact h z (List.mem_of_getElem? hz)
theorem rangeX_ok (hE : ExeOk E) {g : Tmp} {ps : Array Tmp} {asg bd : Code} {st st' : XS} {e : Ex} (h : rangeX E n g ps asg bd st = some (e, st')) : Goes P G none n (fun R Q => R.wp (.rangeFunc (.tmp g) ps asg bd) Q) e st st' := by
 unfold rangeX at h
 split at h
 ·rename_i sv hsv
  have hwho := whoV_ok (P := P) sv [.c (.yl (st.k + 1))]
  split at h
  ·rename_i gf svs hwv hD0 hL0
   rw [hwv] at hwho
   generalize hob1 : (Ob.box ⟨.raw (.deferred (some [])), none⟩ []) = ob1 at h
   generalize hob2 : (Ob.box ⟨.lp n ((slotsX n st.env).map (·.1)) .ready none ps asg bd, none⟩ ((slotsX n st.env).map (·.2))) = ob2 at h
   split at h
   ·rename_i own2 hset2
    split at h
    ·rename_i r hr
     split at h
     ·rename_i n' sl ls pend ps' as' bd' q cells hdL
      split at h
      ·rename_i e1 own3 hex hset3
       cases hbusy : LoopState.isBusy ls with
       | true => rw [hbusy] at h; cases h
       | false =>
        rw [hbusy] at h
        simp only [cond_false, Option.some.injEq, Prod.mk.injEq] at h
        obtain ⟨rfl, rfl⟩ := h
        obtain ⟨c1, c2, c3⟩ := hE.call _ _ _ _ _ hr
        have g2 := setL_get hset2
        have g3 := setL_get hset3
        simp only [updL] at g2 g3
        refine ⟨st.k :: (st.k + 1) :: r.touch, (st.k + 1, .box ⟨.lp n' sl .exhausted pend ps' as' bd', q⟩ cells) :: r.upd.reverse ++ [(st.k + 1, ob2), (st.k, ob1)], r.cs, rfl, rfl, rfl, ?_, fun x hx => ?_, fun R fr own0 a w pl Q hR hG hc ht hok hQ => ?_⟩
        ·rw [g3, c1, g2]
         simp only [updR, List.cons_append]
         rw [updR_append, updR_rev]
         rfl
        ·simp only [keys, List.map_cons, List.map_append, List.map_reverse, List.cons_append, List.mem_cons, List.mem_append, List.mem_reverse, List.map_nil, List.not_mem_nil, or_false] at hx
         simp only [List.mem_cons]
         rcases hx with hx | hx | hx | hx
         ·exact .inr (.inl hx)
         ·exact .inr (.inr (c2 x hx))
         ·exact .inr (.inl hx)
         ·exact .inl hx
        ·have hRe : R = plainWp P := hR
         subst hRe
         have ok := hok.ok
         have hD0' : own0 st.k = none := by rw [ht st.k (by simp)]; exact hD0
         have hL0' : own0 (st.k + 1) = none := by rw [ht (st.k + 1) (by simp)]; exact hL0
         show (Code.rangeFunc (.tmp g) ps asg bd).wp P Q a w
         refine wpIn_wide.1 (wpIn_rangeFunc (n := 0) fun fnid _ => ?_)
         obtain ⟨pl1, m1, L1, hb1, _⟩ := ok.mem.newBoxO (i := st.k) hD0' ⟨.raw (.deferred (some [])), none⟩ (fun b hb => by cases hb) (cells := []) (vs := []) All2.nil (x := .deferred (some [])) rfl
         have ok1 := ok.later m1 L1
         have hcells : All2 (COk (w.alloc (.deferred (some []))) pl1 (upd own0 st.k (.box ⟨.raw (.deferred (some [])), none⟩ []))) ((slotsX n st.env).map (·.2)) ((slotsX n st.env).map fun x => a.tmps.getD x.1 undef) := All2.of_map fun x hx => by
          obtain ⟨h1, _⟩ := slotsX_ok (t := x.1) (c := x.2) hx
          exact ok1.yes x.1 [] (.c x.2) (by simp [envF, findE, h1]) holds_nil
         obtain ⟨pl2, m2, L2, hb2, _⟩ := m1.newBoxO (i := st.k + 1) (by rw [upd_ne _ _ (by omega)]; exact hL0') ⟨.lp n ((slotsX n st.env).map (·.1)) .ready none ps asg bd, none⟩ (fun b hb => by cases hb) hcells (x := .loop { state := .ready, pending := none, fn := fnid, tmps := a.tmps, params := ps, assign := asg, body := bd, defers := w.heap.size }) ⟨a.tmps, fnid, w.heap.size, rfl, ok.size, by simp⟩
         have hsz : (w.alloc (.deferred (some []))).heap.size = w.heap.size + 1 := by simp
         rw [hsz] at hb2
         have L02 := L1.trans L2
         have ok2 := ok1.later m2 L2
         have hbD : pl2.blk st.k = w.heap.size := ((L2.bx st.k _ _ (upd_same _ _ _)).2).trans hb1
         rw [hob1] at m2 L02 ok2 m1
         rw [hob2] at m2 L02 ok2
         generalize hown2 : upd (upd own0 st.k ob1) (st.k + 1) ob2 = ownA at m2 L02 ok2
         have hy : SvOk ((w.alloc (.deferred (some []))).alloc (.loop { state := .ready, pending := none, fn := fnid, tmps := a.tmps, params := ps, assign := asg, body := bd, defers := w.heap.size })) pl2 ownA (.c (.yl (st.k + 1))) (.func (.yield (w.heap.size + 1)) #[] #[]) := by
          refine ⟨⟨_, _, by rw [← hown2, upd_same, ← hob2]⟩, by rw [hb2]⟩
         obtain ⟨lv, mv, hent, hv, hvals⟩ := hwho ownA _ pl2 _ [.func (.yield (w.heap.size + 1)) #[] #[]] (ok2.yes g [] sv (by simp [envF, findE, hsv]) holds_nil) (All2.one hy)
         have hv : a.eval (.tmp g) = .func (.func gf) lv mv := hv
         have hcalls := c3 { fr with ds := mkD pl st.mks } ownA _ pl2 _ hG hc (fun i hi => by
          rw [← hown2, g2]
          have h0 := ht i (by simp [hi])
          by_cases hi1 : i = st.k + 1
          ·subst hi1; rw [upd_same, upd_same]
          ·rw [upd_ne _ _ hi1, upd_ne _ _ hi1]
           by_cases hi2 : i = st.k
           ·subst hi2; rw [upd_same, upd_same]
           ·rw [upd_ne _ _ hi2, upd_ne _ _ hi2]; exact h0) m2 hvals
         refine ⟨w.heap.size + 1, [{ target := .collected w.heap.size, args := #[] }], ((w.alloc (.deferred (some []))).alloc (.loop { state := .ready, pending := none, fn := fnid, tmps := a.tmps, params := ps, assign := asg, body := bd, defers := w.heap.size })), { target := .fn (.func gf) mv, args := lv ++ #[.func (.yield (w.heap.size + 1)) #[] #[]] }, ((w.alloc (.deferred (some []))).alloc (.loop { state := .ready, pending := none, fn := fnid, tmps := a.tmps, params := ps, assign := asg, body := bd, defers := w.heap.size })), gf, (lv.toList ++ [Value.func (.yield (w.heap.size + 1)) #[] #[]] ++ mv.toList).toArray, _, run_enterLoop_outer fnid a.tmps ps asg bd, ?_, fun _ _ => trivial, ?_, fun h => (by cases h), callsIn_wide.2 (Calls.mono hcalls ?_)⟩
         ·simp only [resolve, hv, Deferred.ofValue]
          simp [Act.eval]
         ·simp only [invoke]
          rw [run_enter hent]
          congr 2
          apply Array.ext'
          simp
         ·rintro en w3 ⟨v, pl3, rfl, m3, L3, _⟩
          have hdL' : updL ownA r.upd (st.k + 1) = some (.box ⟨.lp n' sl ls pend ps' as' bd', q⟩ cells) := by
           rw [← hdL, c1, g2]
           refine updL_congr _ ?_
           rw [← hown2, upd_same, upd_same]
          have hbL3 : pl3.blk (st.k + 1) = w.heap.size + 1 := by
           rw [(L3.bx (st.k + 1) _ _ (by rw [← hown2, upd_same, ← hob2])).2, hb2]
          obtain ⟨vs, hat, hcl⟩ := m3.obj (st.k + 1) _ hdL'
          obtain ⟨tm, fn3, D3, hh, hts, hvs⟩ := hat
          rw [hbL3] at hh
          have hnb : ls ≠ .busy := fun h => by rw [h] at hbusy; cases hbusy
          refine ⟨pend, _, run_endLoop hh hnb, ?_⟩
          obtain ⟨m4, L4⟩ := m3.turnObjO (ty' := ⟨.lp n' sl .exhausted pend ps' as' bd', q⟩) (cells' := cells) (vs' := vs) hdL' rfl hcl (x := .loop { state := .exhausted, pending := pend, fn := fn3, tmps := tm, params := ps', assign := as', body := bd', defers := D3 }) ⟨tm, fn3, D3, rfl, hts, hvs⟩
          rw [hbL3] at m4 L4
          have Lall := (L02.trans L3).trans L4
          have ok4 := ok.later m4 Lall
          have hownE : upd (updL ownA r.upd) (st.k + 1) (.box ⟨.lp n' sl .exhausted pend ps' as' bd', q⟩ cells) = updR ((st.k + 1, .box ⟨.lp n' sl .exhausted pend ps' as' bd', q⟩ cells) :: r.upd.reverse ++ [(st.k + 1, ob2), (st.k, ob1)]) own0 := by
           simp only [updR, List.cons_append]
           rw [updR_append, updR_rev, ← hown2]
           rfl
          rw [hownE] at ok4 m4 L4 Lall
          obtain ⟨e1', e2'⟩ := mkD_later Lall hok.bx
          have hbD4 : pl3.blk st.k = w.heap.size := by
           rw [(L3.bx st.k ⟨.raw (.deferred (some [])), none⟩ [] (by rw [← hown2, upd_ne _ _ (by omega), upd_same, hob1])).2, hbD]
          have hfin : OkM fr n (envF [] st.env) (updR ((st.k + 1, .box ⟨.lp n' sl .exhausted pend ps' as' bd', q⟩ cells) :: r.upd.reverse ++ [(st.k + 1, ob2), (st.k, ob1)]) own0) (.mark st.k :: st.mks) { a with defers := [{ target := .collected w.heap.size, args := #[] }] ++ a.defers } (w3.putObj (w.heap.size + 1) (.loop { state := .exhausted, pending := pend, fn := fn3, tmps := tm, params := ps', assign := as', body := bd', defers := D3 })) pl3 := by
           refine ⟨⟨ok4.mem.of.to _ _, ?_, ok4.size, ok4.yes, ok4.no, fun q hq => ok4.late q hq⟩, fun i hi => ?_⟩
           ·show [_] ++ a.defers = mkD pl3 (.mark st.k :: st.mks)
            have hdd : a.defers = mkD pl st.mks := ok.defers
            rw [hdd, ← e1']
            simp [mkD, Mk.d, hbD4]
           ·rcases List.mem_cons.1 hi with rfl | hi
            ·have : ∃ ty cs, upd (updL ownA r.upd) (st.k + 1) (.box ⟨.lp n' sl .exhausted pend ps' as' bd', q⟩ cells) st.k = some (.box ty cs) := by
              rw [upd_ne _ _ (by omega)]
              exact (L3.bx st.k ⟨.raw (.deferred (some [])), none⟩ [] (by rw [← hown2, upd_ne _ _ (by omega), upd_same, hob1])).1
             rw [hownE] at this
             exact this
            ·exact e2' i hi
          have hq := hQ _ _ _ hfin
          generalize w3.putObj (w.heap.size + 1) (.loop { state := .exhausted, pending := pend, fn := fn3, tmps := tm, params := ps', assign := as', body := bd', defers := D3 }) = wv at hq ⊢
          cases pend with
          | none =>
           simp only [exOf, Option.some.injEq] at hex
           subst hex
           exact hq
          | some c =>
           cases c with
           | ret => simp only [exOf, Option.some.injEq] at hex; subst hex; exact wpIn_ret hq
           | exit id => simp only [exOf, Option.some.injEq] at hex; subst hex; exact wpIn_exit hq
           | _ => simp [exOf] at hex
      ·cases h
     ·cases h
    ·cases h
   ·cases h
  ·cases h
 ·cases h
theorem rangeN_ok (hE : ExeOk E) {i : Nat} {g : Tmp} {ps : Array Tmp} {asg bd : Code} {st st' : XS} {e : Ex} (h : rangeN E n i g ps asg bd st = some (e, st')) : Goes P G (some i) n (fun R Q => R.wp (.rangeFunc (.tmp g) ps asg bd) Q) e st st' := by
 unfold rangeN at h
 split at h
 ·rename_i sv _ _ _ _ _ _ _ _ _ hsv hIo
  have hwho := whoV_ok (P := P) sv [.c (.yl st.k)]
  split at h
  ·rename_i gf svs hwv hL0
   rw [hwv] at hwho
   generalize hob2 : (Ob.box ⟨.lp n ((slotsX n st.env).map (·.1)) .ready none ps asg bd, none⟩ ((slotsX n st.env).map (·.2))) = ob2 at h
   split at h
   ·rename_i own2 hset2
    split at h
    ·rename_i r hr
     split at h
     ·rename_i n' sl ls pend ps' as' bd' q cells hdL
      split at h
      ·rename_i e1 own3 hex hset3
       cases hbusy : LoopState.isBusy ls with
       | true => rw [hbusy] at h; cases h
       | false =>
        rw [hbusy] at h
        simp only [cond_false, Option.some.injEq, Prod.mk.injEq] at h
        obtain ⟨rfl, rfl⟩ := h
        obtain ⟨c1, c2, c3⟩ := hE.call _ _ _ _ _ hr
        have g2 := setL_get hset2
        have g3 := setL_get hset3
        simp only [updL] at g2 g3
        refine ⟨i :: st.k :: r.touch, (st.k, .box ⟨.lp n' sl .exhausted pend ps' as' bd', q⟩ cells) :: r.upd.reverse ++ [(st.k, ob2)], r.cs, rfl, rfl, rfl, ?_, fun x hx => ?_, fun R fr own0 a w pl Q hR hG hc ht hok hQ => ?_⟩
        ·rw [g3, c1, g2]
         simp only [updR, List.cons_append]
         rw [updR_append, updR_rev]
         rfl
        ·simp only [keys, List.map_cons, List.map_append, List.map_reverse, List.cons_append, List.mem_cons, List.mem_append, List.mem_reverse, List.map_nil, List.not_mem_nil, or_false] at hx
         simp only [List.mem_cons]
         rcases hx with hx | hx | hx
         ·exact .inr (.inl hx)
         ·exact .inr (.inr (c2 x hx))
         ·exact .inr (.inl hx)
        ·obtain ⟨q0, hq0, ⟨tyq, csq, hqi⟩, rfl⟩ := hR
         have ok := hok.ok
         have hbi : pl.blk i = q0.2.1.blk i := ((ok.late q0 hq0).bx i _ _ hqi).2
         have hI0 := (ht i (by simp)).trans hIo
         obtain ⟨vsI, ⟨tmI, fnI, DI, hhI, _, _⟩, _⟩ := ok.mem.obj i _ hI0
         rw [hbi] at hhI
         have hL0' : own0 st.k = none := by rw [ht st.k (by simp)]; exact hL0
         show (Code.rangeFunc (.tmp g) ps asg bd).wpIn (Fence.wide.inRound (q0.2.1.blk i)) 0 P Q a w
         refine wpIn_rangeFunc (n := 0) fun fnid _ => ?_
         have hcells : All2 (COk w pl own0) ((slotsX n st.env).map (·.2)) ((slotsX n st.env).map fun x => a.tmps.getD x.1 undef) := All2.of_map fun x hx => by
          obtain ⟨h1, _⟩ := slotsX_ok (t := x.1) (c := x.2) hx
          exact ok.yes x.1 [] (.c x.2) (by simp [envF, findE, h1]) holds_nil
         obtain ⟨pl2, m2, L2, hb2, _⟩ := ok.mem.newBoxO (i := st.k) hL0' ⟨.lp n ((slotsX n st.env).map (·.1)) .ready none ps asg bd, none⟩ (fun b hb => by cases hb) hcells (x := .loop { state := .ready, pending := none, fn := fnid, tmps := a.tmps, params := ps, assign := asg, body := bd, defers := DI }) ⟨a.tmps, fnid, DI, rfl, ok.size, by simp⟩
         have ok2 := ok.later m2 L2
         rw [hob2] at m2 L2 ok2
         generalize hown2 : upd own0 st.k ob2 = ownA at m2 L2 ok2
         have hy : SvOk (w.alloc (.loop { state := .ready, pending := none, fn := fnid, tmps := a.tmps, params := ps, assign := asg, body := bd, defers := DI })) pl2 ownA (.c (.yl st.k)) (.func (.yield w.heap.size) #[] #[]) := by
          refine ⟨⟨_, _, by rw [← hown2, upd_same, ← hob2]⟩, by rw [hb2]⟩
         obtain ⟨lv, mv, hent, hv, hvals⟩ := hwho ownA _ pl2 _ [.func (.yield w.heap.size) #[] #[]] (ok2.yes g [] sv (by simp [envF, findE, hsv]) holds_nil) (All2.one hy)
         have hv : a.eval (.tmp g) = .func (.func gf) lv mv := hv
         have hcalls := c3 { fr with ds := mkD pl st.mks } ownA _ pl2 _ hG hc (fun j hj => by
          rw [← hown2, g2]
          have h0 := ht j (by simp [hj])
          by_cases hj1 : j = st.k
          ·subst hj1; rw [upd_same, upd_same]
          ·rw [upd_ne _ _ hj1, upd_ne _ _ hj1]; exact h0) m2 hvals
         refine ⟨w.heap.size, [], (w.alloc (.loop { state := .ready, pending := none, fn := fnid, tmps := a.tmps, params := ps, assign := asg, body := bd, defers := DI })), { target := .fn (.func gf) mv, args := lv ++ #[.func (.yield w.heap.size) #[] #[]] }, (w.alloc (.loop { state := .ready, pending := none, fn := fnid, tmps := a.tmps, params := ps, assign := asg, body := bd, defers := DI })), gf, (lv.toList ++ [Value.func (.yield w.heap.size) #[] #[]] ++ mv.toList).toArray, _, run_enterLoop_inner hhI fnid a.tmps ps asg bd, ?_, fun _ _ => trivial, ?_, fun h => (by cases h), (callsIn_wide.2 (Calls.mono hcalls ?_) : CallsIn Fence.wide _ _ _ _ _ _)⟩
         ·simp only [resolve, hv, Deferred.ofValue]
          simp [Act.eval]
         ·simp only [invoke]
          rw [run_enter hent]
          congr 2
          apply Array.ext'
          simp
         ·rintro en w3 ⟨v, pl3, rfl, m3, L3, _⟩
          have hdL' : updL ownA r.upd st.k = some (.box ⟨.lp n' sl ls pend ps' as' bd', q⟩ cells) := by
           rw [← hdL, c1, g2]
           refine updL_congr _ ?_
           rw [← hown2, upd_same, upd_same]
          have hbL3 : pl3.blk st.k = w.heap.size := by
           rw [(L3.bx st.k _ _ (by rw [← hown2, upd_same, ← hob2])).2, hb2]
          obtain ⟨vs, hat, hcl⟩ := m3.obj st.k _ hdL'
          obtain ⟨tm, fn3, D3, hh, hts, hvs⟩ := hat
          rw [hbL3] at hh
          have hnb : ls ≠ .busy := fun h => by rw [h] at hbusy; cases hbusy
          refine ⟨pend, _, run_endLoop hh hnb, ?_⟩
          obtain ⟨m4, L4⟩ := m3.turnObjO (ty' := ⟨.lp n' sl .exhausted pend ps' as' bd', q⟩) (cells' := cells) (vs' := vs) hdL' rfl hcl (x := .loop { state := .exhausted, pending := pend, fn := fn3, tmps := tm, params := ps', assign := as', body := bd', defers := D3 }) ⟨tm, fn3, D3, rfl, hts, hvs⟩
          rw [hbL3] at m4 L4
          have Lall := (L2.trans L3).trans L4
          have ok4 := ok.later m4 Lall
          have hownE : upd (updL ownA r.upd) st.k (.box ⟨.lp n' sl .exhausted pend ps' as' bd', q⟩ cells) = updR ((st.k, .box ⟨.lp n' sl .exhausted pend ps' as' bd', q⟩ cells) :: r.upd.reverse ++ [(st.k, ob2)]) own0 := by
           simp only [updR, List.cons_append]
           rw [updR_append, updR_rev, ← hown2]
           rfl
          rw [hownE] at ok4 m4 L4 Lall
          obtain ⟨e1', e2'⟩ := mkD_later Lall hok.bx
          have hfin : OkM fr n (envF [] st.env) (updR ((st.k, .box ⟨.lp n' sl .exhausted pend ps' as' bd', q⟩ cells) :: r.upd.reverse ++ [(st.k, ob2)]) own0) st.mks { a with defers := [] ++ a.defers } (w3.putObj w.heap.size (.loop { state := .exhausted, pending := pend, fn := fn3, tmps := tm, params := ps', assign := as', body := bd', defers := D3 })) pl3 := by
           refine ⟨⟨ok4.mem.of.to _ _, ?_, ok4.size, ok4.yes, ok4.no, fun q hq => ok4.late q hq⟩, e2'⟩
           show [] ++ a.defers = mkD pl3 st.mks
           have hdd : a.defers = mkD pl st.mks := ok.defers
           rw [hdd, ← e1']
           rfl
          have hq := hQ _ _ _ hfin
          generalize w3.putObj w.heap.size (.loop { state := .exhausted, pending := pend, fn := fn3, tmps := tm, params := ps', assign := as', body := bd', defers := D3 }) = wv at hq ⊢
          cases pend with
          | none =>
           simp only [exOf, Option.some.injEq] at hex
           subst hex
           exact hq
          | some c =>
           cases c with
           | ret => simp only [exOf, Option.some.injEq] at hex; subst hex; exact wpIn_ret hq
           | exit id => simp only [exOf, Option.some.injEq] at hex; subst hex; exact wpIn_exit hq
           | _ => simp [exOf] at hex
      ·cases h
     ·cases h
    ·cases h
   ·cases h
  ·cases h
 ·cases h
theorem opsD_in {ops ops' : Array Oper} {K : Act → World → Prop} {Q : Exit → Act → World → Prop} {rest : List Nat} (hnd : noDefer ops' = true) (hK : ∀ a w, K a w → wpOpsIn (frame? none) 0 P ops Q rest a w) : ∀ {l : List Nat} {a : Act} {w : World}, (∀ i ∈ l, ops[i]? = ops'[i]?) → (∀ i ∈ l, ∀ o, ops'[i]? = some o → ∀ tm : Array Value, Region.wanted o (yielded ops tm) = Region.wanted o (yielded ops' tm)) → wpOpsX P ops' K l a w → wpOpsIn (frame? none) 0 P ops Q (l ++ rest) a w
 | [], a, w, _, _, h => hK a w h
 | i :: r, a, w, hs, hy, h => by
  have ih : ∀ a w, wpOpsX P ops' K r a w → wpOpsIn (frame? none) 0 P ops Q (r ++ rest) a w := fun a w h => opsD_in hnd hK (fun j hj => hs j (by simp [hj])) (fun j hj => hy j (by simp [hj])) h
  simp only [wpOpsX, wpOpX] at h
  simp only [List.cons_append, wpOpsIn]
  rw [hs i (by simp)]
  cases ho : ops'[i]? with
  | none => simp only [ho] at h; exact ih a w h
  | some o =>
   simp only [ho] at h
   have hmem : o ∈ ops'.toList := by
    rw [List.mem_iff_getElem?]
    exact ⟨i, by simpa using ho⟩
   have hdo : isDefer o.op = false := by
    have := List.all_eq_true.1 hnd o hmem
    simpa using this
   have hyw := hy i (by simp) o ho a.tmps
   by_cases hw : Region.wanted o (yielded ops' a.tmps) = true
   ·rw [if_pos hw] at h
    simp only [hyw, if_pos hw]
    exact opW_in none hdo (h.mono fun a w h => ih a w h)
   ·rw [if_neg hw] at h
    simp only [hyw, if_neg hw]
    exact ⟨fun f _ => frame_fn none f, ih _ w h⟩
theorem isDf_ok {o : Oper} {t : Tmp} (h : isDf o = some t) : (∃ ats, o.op = .defer { callee := .value (.tmp t), args := #[], argTypes := ats }) ∧ o.dst = none ∧ o.guard = none := by
 unfold isDf at h
 split at h
 ·rename_i t' ats h1 h2 h3
  simp only [Option.some.injEq] at h
  subst h
  exact ⟨⟨_, h1⟩, h2, h3⟩
 ·cases h
theorem regD_ok (hE : ExeOk E) {id : Nat} {ops : Array Oper} {st st' : XS} (h : regD E n ops st = some st') : Goes P G none n (fun R Q => R.wp (.region id ops false) Q) .normal st st' := by
 unfold regD at h
 split at h
 ·rename_i o hback
  split at h
  ·rename_i t hdf
   cases hnd : noDefer ops.pop with
   | false => rw [hnd] at h; cases h
   | true =>
    rw [hnd] at h
    simp only [cond_true] at h
    split at h
    ·rename_i st1 hr
     split at h
     ·rename_i f cap ht
      split at h
      ·rename_i e he
       cases hen : (enters P f && Nat.beq cap.length e.ar) with
       | false => rw [hen] at h; cases h
       | true =>
        rw [hen] at h
        simp only [cond_true, Option.some.injEq] at h
        subst h
        obtain ⟨⟨ats, hop⟩, hdst, hgd⟩ := isDf_ok hdf
        obtain ⟨T1, U1, C1, a1, a2, a3, a4, a5, a6⟩ := (regX0_ok (fl := none) hE hr).dl
        refine ⟨T1, U1, C1, a1, a2, a3, a4, a5, fun R fr own0 a w pl Q hR hG hc hag hok hQ => ?_⟩
        have hRe : R = plainWp P := hR
        subst hRe
        show (Code.region id ops false).wp P Q a w
        have hsz : ops.size = ops.pop.size + 1 := by
         have : ops.size ≠ 0 := by
          intro h0
          have : ops = #[] := Array.eq_empty_of_size_eq_zero h0
          rw [this] at hback
          simp at hback
         simp; omega
        have hlast : ops[ops.pop.size]? = some o := by
         rw [Array.back?_eq_getElem?] at hback
         rw [← hback]; congr 1; omega
        refine wpIn_wide.1 (wpIn_region (n := 0) ?_)
        show wpOpsIn (frame? none) 0 P ops Q (List.range ops.size) a w
        rw [hsz, List.range_succ]
        have hsame : ∀ i ∈ List.range ops.pop.size, ops[i]? = ops.pop[i]? := fun i hi => by
         have := List.mem_range.1 hi
         rw [Array.getElem?_pop, if_pos (by simp at this; omega)]
        refine opsD_in (K := fun a w => ∃ pl, OkM fr n (envF [] st1.env) (updR U1 own0) st1.mks a w pl) hnd (fun a1 w1 hk => ?_) hsame (fun i hi o' ho' tm => ?_) (a6 (plainWp P) fr own0 a w pl (fun _ a w => ∃ pl, OkM fr n (envF [] st1.env) (updR U1 own0) st1.mks a w pl) rfl hG hc hag hok (fun a' w' pl' hok' => ⟨pl', hok'⟩))
        ·obtain ⟨pl1, hok1⟩ := hk
         simp only [wpOpsIn, hlast]
         have hwant : Region.wanted o (yielded ops a1.tmps) = true := by unfold Region.wanted; rw [hgd]
         rw [if_pos hwant]
         refine ⟨fun f _ => trivial, ?_⟩
         obtain ⟨hbs, hv⟩ := hok1.ok.yes t [] _ (show envF [] st1.env t = some ([], .c (.fn f [] cap)) by simp [envF, findE, ht]) holds_nil
         have hv : a1.eval (.tmp t) = .func (.func f) (([] : List (Nat × Nat)).map (adV pl1)).toArray (cap.map (adV pl1)).toArray := hv
         have hrun : (Oper.semAt (frame? none).round a1.eval o).run P w1 = .ok (.defer { target := .fn (.func f) (cap.map (adV pl1)).toArray, args := #[] }) w1 := by
          rw [frame_round, Oper.semAt_none]
          unfold execOp
          simp only [hop, resolve, hv, Deferred.ofValue]
          simp
         rw [hrun, Oper.uponIn_defer]
         have hput : ({ a1 with defers := { target := .fn (.func f) (cap.map (adV pl1)).toArray, args := #[] } :: a1.defers } : Act).put o.dst undef = { a1 with defers := { target := .fn (.func f) (cap.map (adV pl1)).toArray, args := #[] } :: a1.defers } := by rw [hdst]; rfl
         rw [hput]
         refine hQ _ w1 pl1 ⟨⟨hok1.ok.mem.of.to _ _, ?_, hok1.ok.size, hok1.ok.yes, hok1.ok.no, fun q hq => hok1.ok.late q hq⟩, fun x hx => ?_⟩
         ·show _ :: a1.defers = mkD pl1 (.df f cap :: st1.mks)
          have : a1.defers = mkD pl1 st1.mks := hok1.ok.defers
          rw [this]; rfl
         ·rcases List.mem_cons.1 hx with rfl | hx
          ·exact fun y hy => hbs y (by simp [hy])
          ·exact hok1.bx x hx
        ·have hlt := List.mem_range.1 hi
         unfold Region.wanted
         cases hg : o'.guard with
         | none => rfl
         | some jw =>
          obtain ⟨j, want⟩ := jw
          simp only
          have : yielded ops tm j = yielded ops.pop tm j := by
           unfold yielded
           by_cases hj : j < ops.pop.size
           ·rw [Array.getElem?_pop, if_pos (by simp at hj; omega)]
           ·have h1 : ops.pop[j]? = none := by simp; simp at hj; omega
            rw [h1]
            by_cases hj2 : j = ops.pop.size
            ·subst hj2; rw [hlast]; simp [hdst]
            ·have h2 : ops[j]? = none := by simp; omega
             rw [h2]
          rw [this]
      ·cases h
     ·cases h
    ·cases h
  ·cases h
 ·cases h
def roundsW (R : Wp P) (c : Code) (Q : Exit → Act → World → Prop) : Nat → Act → World → Prop
 | 0 => fun _ _ => False
 | k + 1 => R.wp c (Exit.then (roundsW R c Q k) Q)
theorem roundsW_ok {R : Wp P} {c : Code} {Q : Exit → Act → World → Prop} {k : Nat} {a : Act} {w : World} (h : roundsW R c Q k a w) : R.wp (.loop c) Q a w := by
 refine R.loop (fun k a w => roundsW R c Q k a w) k h fun k a w h => ?_
 cases k with
 | zero => exact h.elim
 | succ k =>
  refine R.mono h fun e a w h => ?_
  cases e with
  | normal => exact ⟨k, by omega, h⟩
  | _ => exact h
def walkV (P : Program) (f : Nat) : Code → Wp P → (Exit → Act → World → Prop) → Act → World → Prop
 | .loop x => fun R Q => roundsW R x Q f
 | c => fun R Q => R.wp c Q
theorem walkV_wp {f : Nat} {c : Code} {R : Wp P} {Q : Exit → Act → World → Prop} {a : Act} {w : World} (h : walkV P f c R Q a w) : R.wp c Q a w := by
 cases c with
 | loop x => exact roundsW_ok h
 | _ => exact h
theorem lookS_envF {st : XS} {fr : Fr} {own0 : Own} {a : Act} {w : World} {pl : Pl} {c : Operand} {b : Bool} (hok : Ok fr n (envF [] st.env) own0 a w pl) (h : lookS (envF [] st.env) [] [] c = some (.c (.d (.v (.bool b))))) : a.eval c = .bool b :=
 Rd.exact (lookS_ok hok [] [] c _ h holds_nil holds_nil)
theorem frzT_ok {t : Nat} {st st' : XS} (h : frzT t st = some st') : Goes P G fl n (fun _ Q => Q .normal) .normal st st' := by
 unfold frzT at h
 split at h
 ·rename_i i k hsl
  split at h
  ·rename_i k' e sz es hi
   cases hc : (Nat.beq k' k && Nat.ble 100 i && few t) with
   | false => rw [hc] at h; cases h
   | true =>
    rw [hc] at h
    simp only [cond_true] at h
    simp only [Bool.and_eq_true] at hc
    obtain ⟨⟨hk, h100⟩, hft⟩ := hc
    have hk := Nat.eq_of_beq_eq_true hk
    subst hk
    split at h
    ·rename_i own' hset
     simp only [Option.some.injEq] at h
     subst h
     refine ⟨[i], [(i, .arr (k' + 1) ⟨e, []⟩ sz [])], [], rfl, rfl, rfl, setL_get hset, fun x hx => by simpa [keys] using hx, fun R fr own0 a w pl Q hR hG hc ht hok hQ => ?_⟩
     have h0 : own0 i = some (.arr k' ⟨e, []⟩ sz es) := (ht i (by simp)).trans hi
     have ok := hok.ok
     obtain ⟨pl', m', L, hr⟩ := ok.mem.freeze h0 (Nat.le_of_ble_eq_true h100)
     have ok' := ok.later m' L
     obtain ⟨e1, e2⟩ := mkD_later L hok.bx
     have hv : COk w pl own0 (.ar i k') (a.tmps.getD t undef) := ok.yes t [] (.c (.ar i k')) (by simp [envF, findE, hsl]) holds_nil
     refine hQ a w pl' ⟨⟨ok'.mem.of.to _ _, ?_, ok'.size, fun u p sv hu hp => ?_, fun u p sv hu hp => ?_, fun q hq => ok'.late q hq⟩, e2⟩
     ·show a.defers = mkD pl' st.mks
      have hdd : a.defers = mkD pl st.mks := ok.defers
      rw [hdd, e1]
     ·simp only [envF, findE, Option.map_eq_some_iff, Prod.mk.injEq] at hu
      obtain ⟨s', hs', _, rfl⟩ := hu
      rw [Tr.get_put40 hft] at hs'
      by_cases hut : u = t
      ·subst hut
       rw [if_pos rfl] at hs'
       simp only [Option.some.injEq] at hs'
       subst hs'
       rw [ar_cur (w := w) hv h0]
       exact hr
      ·rw [if_neg hut] at hs'
       exact ok'.yes u [] s' (by simp [envF, findE, hs']) holds_nil
     ·simp only [envF, findE, Option.map_eq_some_iff, Prod.mk.injEq] at hu
      obtain ⟨_, _, rfl, _⟩ := hu
      exact absurd holds_nil hp
    ·cases h
  ·cases h
 ·cases h
theorem frzS_ok (l : Option Value) (st : XS) : Goes P G fl n (fun _ Q => Q .normal) .normal st (frzS l st) := by
 unfold frzS
 split
 ·split
  ·rename_i h; exact frzT_ok h
  ·exact Goes.nil fun R Q a w hq => hq
 ·exact Goes.nil fun R Q a w hq => hq
theorem evC_ok (hE : ExeOk E) (hm : P.follows .mixedOrders = true) : ∀ (f : Nat) (c : Code) (e : Ex) (st st' : XS), evC E fl n f c st = some (e, st') → Goes P G fl n (walkV P f c) e st st'
 | 0, c, e, st, st', h => by simp [evC] at h
 | f + 1, c, e, st, st', h => by
  have ih := evC_ok hE hm f
  cases c with
  | skip =>
   simp only [evC, Option.some.injEq, Prod.mk.injEq] at h
   obtain ⟨rfl, rfl⟩ := h
   exact Goes.nil fun R Q a w hq => R.skip hq
  | region id ops draw =>
   simp only [evC] at h
   cases hnd : noDefer ops with
   | false =>
    rw [hnd] at h
    simp only [cond_false] at h
    cases hfd : (fl.isNone && !draw) with
    | false => rw [hfd] at h; cases h
    | true =>
     rw [hfd] at h
     simp only [cond_true] at h
     simp only [Bool.and_eq_true, Bool.not_eq_true', Option.isNone_iff_eq_none] at hfd
     obtain ⟨rfl, rfl⟩ := hfd
     split at h
     ·rename_i st1 hr
      simp only [Option.some.injEq, Prod.mk.injEq] at h
      obtain ⟨rfl, rfl⟩ := h
      exact regD_ok hE hr
     ·cases h
   | true =>
    rw [hnd] at h
    simp only [cond_true] at h
    split at h
    ·rename_i st1 hr
     simp only [Option.some.injEq, Prod.mk.injEq] at h
     obtain ⟨rfl, rfl⟩ := h
     refine Goes.trans (frzS_ok (E.lit st.k) st) (regX_ok (id := id) hE hm hnd hr) fun R Q a w hq => ?_
     exact R.mono hq.2 fun e' a w h => by obtain ⟨rfl, h⟩ := h; exact h
    ·cases h
  | seq x y =>
   simp only [evC] at h
   split at h
   ·rename_i st1 hx
    refine Goes.trans (ih x _ _ _ hx) (ih y _ _ _ h) fun R Q a w hq => ?_
    refine R.seq (R.mono (walkV_wp hq) fun e' a w h => ?_)
    obtain ⟨rfl, h⟩ := h
    exact R.mono (walkV_wp h) fun e' a w h => by obtain ⟨rfl, h⟩ := h; exact h
   ·rename_i e1 st1 hne hx
    simp only [Option.some.injEq, Prod.mk.injEq] at h
    obtain ⟨rfl, rfl⟩ := h
    refine Goes.one (ih x _ _ _ hx) fun R Q a w hq => ?_
    refine R.seq (R.mono (walkV_wp hq) fun e' a w h => ?_)
    obtain ⟨rfl, h⟩ := h
    cases e1 with
    | normal => exact (hne rfl).elim
    | exit k => exact h
    | ret => exact h
   ·cases h
  | cond c x y =>
   simp only [evC] at h
   split at h
   ·rename_i b hb
    split at h
    ·obtain ⟨T1, U1, C1, a1, a2, a3, a4, a5, a6⟩ := (ih x _ _ _ h).dl
     refine ⟨T1, U1, C1 ++ [b = true], a1, a2, by rw [a3]; simp, a4, a5, fun R fr own0 a w pl Q hR hG hc ht hok hQ => ?_⟩
     obtain ⟨hc1, hc2⟩ := conj_append hc
     have hc2 : b = true := hc2
     exact R.cond (lookS_envF hok.ok hb) (fun _ => walkV_wp (a6 R fr own0 a w pl Q hR hG hc1 ht hok hQ)) (fun h => by rw [hc2] at h; cases h)
    ·obtain ⟨T1, U1, C1, a1, a2, a3, a4, a5, a6⟩ := (ih y _ _ _ h).dl
     refine ⟨T1, U1, C1 ++ [b = false], a1, a2, by rw [a3]; simp, a4, a5, fun R fr own0 a w pl Q hR hG hc ht hok hQ => ?_⟩
     obtain ⟨hc1, hc2⟩ := conj_append hc
     have hc2 : b = false := hc2
     exact R.cond (lookS_envF hok.ok hb) (fun h => by rw [hc2] at h; cases h) (fun _ => walkV_wp (a6 R fr own0 a w pl Q hR hG hc1 ht hok hQ))
    cases b with
    | true =>
     obtain ⟨T1, U1, C1, a1, a2, a3, a4, a5, a6⟩ := (ih x _ _ _ h).dl
     refine ⟨T1, U1, C1, a1, a2, a3, a4, a5, fun R fr own0 a w pl Q hR hG hc ht hok hQ => ?_⟩
     exact R.cond (lookS_envF hok.ok hb) (fun _ => walkV_wp (a6 R fr own0 a w pl Q hR hG hc ht hok hQ)) (fun h => by cases h)
    | false =>
     obtain ⟨T1, U1, C1, a1, a2, a3, a4, a5, a6⟩ := (ih y _ _ _ h).dl
     refine ⟨T1, U1, C1, a1, a2, a3, a4, a5, fun R fr own0 a w pl Q hR hG hc ht hok hQ => ?_⟩
     exact R.cond (lookS_envF hok.ok hb) (fun h => by cases h) (fun _ => walkV_wp (a6 R fr own0 a w pl Q hR hG hc ht hok hQ))
   ·cases h
  | block id x =>
   simp only [evC] at h
   split at h
   ·rename_i k st1 hx
    cases hk : Nat.beq k id with
    | true =>
     rw [hk] at h
     simp only [cond_true, Option.some.injEq, Prod.mk.injEq] at h
     obtain ⟨rfl, rfl⟩ := h
     refine Goes.one (ih x _ _ _ hx) fun R Q a w hq => ?_
     refine R.block (R.mono (walkV_wp hq) fun e' a w h => ?_)
     obtain ⟨rfl, h⟩ := h
     have := Nat.eq_of_beq_eq_true hk
     subst this
     simp only [Ex.to, Exit.inBlock, if_true]
     exact h
    | false =>
     rw [hk] at h
     simp only [cond_false, Option.some.injEq, Prod.mk.injEq] at h
     obtain ⟨rfl, rfl⟩ := h
     refine Goes.one (ih x _ _ _ hx) fun R Q a w hq => ?_
     refine R.block (R.mono (walkV_wp hq) fun e' a w h => ?_)
     obtain ⟨rfl, h⟩ := h
     have hne : k ≠ id := fun e => by subst e; rw [Nat.beq_refl] at hk; cases hk
     simp only [Ex.to, Exit.inBlock, if_neg hne]
     exact h
   ·rename_i e1 st1 hne hx
    simp only [Option.some.injEq, Prod.mk.injEq] at h
    obtain ⟨rfl, rfl⟩ := h
    refine Goes.one (ih x _ _ _ hx) fun R Q a w hq => ?_
    refine R.block (R.mono (walkV_wp hq) fun e' a w h => ?_)
    obtain ⟨rfl, h⟩ := h
    cases e1 with
    | normal => exact h
    | exit k => exact (hne k rfl).elim
    | ret => exact h
   ·cases h
  | loop x =>
   simp only [evC] at h
   split at h
   ·rename_i st1 hx
    refine Goes.trans (ih x _ _ _ hx) (ih (.loop x) _ _ _ h) fun R Q a w hq => ?_
    show R.wp x (Exit.then (roundsW R x Q f) Q) a w
    refine R.mono (walkV_wp hq) fun e' a w h => ?_
    obtain ⟨rfl, h⟩ := h
    have mono : ∀ (k : Nat) (Q Q' : Exit → Act → World → Prop), (∀ e a w, Q e a w → Q' e a w) → ∀ a w, roundsW R x Q k a w → roundsW R x Q' k a w := by
     intro k Q Q' hQQ
     induction k with
     | zero => exact fun _ _ h => h
     | succ k ihk =>
      intro a w h
      refine R.mono h fun e a w h => ?_
      cases e with
      | normal => exact ihk a w h
      | _ => exact hQQ _ _ _ h
    exact mono f _ _ (fun e' a w h => by obtain ⟨rfl, h⟩ := h; exact h) a w h
   ·rename_i e1 st1 hne hx
    simp only [Option.some.injEq, Prod.mk.injEq] at h
    obtain ⟨rfl, rfl⟩ := h
    refine Goes.one (ih x _ _ _ hx) fun R Q a w hq => ?_
    show R.wp x (Exit.then (roundsW R x Q f) Q) a w
    refine R.mono (walkV_wp hq) fun e' a w h => ?_
    obtain ⟨rfl, h⟩ := h
    cases e1 with
    | normal => exact (hne rfl).elim
    | exit k => exact h
    | ret => exact h
   ·cases h
  | rangeFunc g ps asg bd =>
   cases g with
   | tmp g =>
    simp only [evC] at h
    cases fl with
    | none => exact rangeX_ok hE h
    | some i => exact rangeN_ok hE h
   | _ => simp [evC] at h
  | exit id =>
   simp only [evC, Option.some.injEq, Prod.mk.injEq] at h
   obtain ⟨rfl, rfl⟩ := h
   exact Goes.nil fun R Q a w hq => R.exit hq
  | ret =>
   simp only [evC, Option.some.injEq, Prod.mk.injEq] at h
   obtain ⟨rfl, rfl⟩ := h
   exact Goes.nil fun R Q a w hq => R.ret hq
  | _ => simp [evC] at h
end
end Go.V
namespace Go.V
open Go.RowKit
section
variable {P : Program} {fr : Fr} {n : Nat} {a : Act} {w : World} {pl : Pl}
def resSX (P : Program) (env : Env) (own : Own) : ResultVar → Option SV
 | .tmp t => match env t with
  | some ([], s) => some s
  | _ => none
 | .cell x t => match env x with
  | some ([], .c (.bx i off)) => match own i with
   | some (.box ⟨.c _, _⟩ cells) => loadC P t cells off
   | _ => none
  | _ => none
def partsOfX (P : Program) (env : Env) (own : Own) : List ResultVar → Option (List (Bool × List C))
 | [] => some []
 | r :: l => match resSX P env own r with
  | some s => match partOf s, partsOfX P env own l with
   | some p, some q => some (p :: q)
   | _, _ => none
  | none => none
def retSX (P : Program) (env : Env) (own : Own) (fn : Func) : Option SV :=
 match fn.results.toList with
 | [r] => resSX P env own r
 | l => match partsOfX P env own l with
  | some q => some (.tup q)
  | none => none
theorem resSX_ok {env : Env} {own : Own} (h : Ok fr n env own a w pl) {r : ResultVar} {s : SV} (hr : resSX P env own r = some s) : ∃ v, (Eng.resRun a.tmps r).run P w = .ok v w ∧ SvOk w pl own s v := by
 cases r with
 | tmp t =>
  simp only [resSX] at hr
  split at hr
  ·rename_i s' hf
   simp only [Option.some.injEq] at hr
   subst hr
   exact ⟨_, by simp [Eng.resRun], h.yes t [] _ hf holds_nil⟩
  ·cases hr
 | cell x t =>
  simp only [resSX] at hr
  split at hr
  ·rename_i i off hf
   split at hr
   ·rename_i ty cells ho
    obtain ⟨_, hv⟩ := h.yes x [] _ hf holds_nil
    obtain ⟨vs, hb, h2⟩ := h.mem.obj i _ ho
    obtain ⟨v, hv2, hok⟩ := loadC_ok hr (lies_all2 h2)
    rw [Nat.zero_add] at hv2
    have hl := Eng.run_loadB hv2 hb
    simp only [Instr.loadAt, Instr.sureAddr, Sem.run_bind, Sem.run_pure, Result.andThen_ok] at hl
    exact ⟨v, by simp [Eng.resRun, hv, asAddr, hl], hok⟩
   ·cases hr
  ·cases hr
theorem partsOfX_ok {env : Env} {own : Own} (h : Ok fr n env own a w pl) : ∀ {l : List ResultVar} {q : List (Bool × List C)}, partsOfX P env own l = some q → ∃ vs : List Value, (l.mapM (Eng.resRun a.tmps)).run P w = .ok vs w ∧ All2 (PartOk w pl own) q vs
 | [], q, hq => by simp only [partsOfX, Option.some.injEq] at hq; subst hq; exact ⟨[], by simp, All2.nil⟩
 | r :: l, q, hq => by
  simp only [partsOfX] at hq
  split at hq
  ·rename_i s hs
   split at hq
   ·rename_i p q' hp hq'
    simp only [Option.some.injEq] at hq
    subst hq
    obtain ⟨v, h1, h2⟩ := resSX_ok h hs
    obtain ⟨vs, h3, h4⟩ := partsOfX_ok h hq'
    exact ⟨v :: vs, by simp [h1, h3], All2.cons (partOf_ok hp h2) h4⟩
   ·cases hq
  ·cases hq
theorem retSX_ok {env : Env} {own : Own} {fn : Func} (h : Ok fr n env own a w pl) {s : SV} (hs : retSX P env own fn = some s) : ∃ v, (results fn a.tmps).run P w = .ok v w ∧ SvOk w pl own s v := by
 rw [Eng.results_eq]
 have hmm : (fn.results.mapM (Eng.resRun a.tmps)) = (do let vs ← fn.results.toList.mapM (Eng.resRun a.tmps); pure vs.toArray) := by
  rw [Array.mapM_eq_mapM_toList]
  rfl
 rw [hmm]
 unfold retSX at hs
 split at hs
 ·rename_i r hr
  obtain ⟨v, h1, h2⟩ := resSX_ok h hs
  refine ⟨v, ?_, h2⟩
  rw [hr]
  simp [h1]
 ·rename_i l hne
  split at hs
  ·rename_i q hq
   simp only [Option.some.injEq] at hs
   subst hs
   obtain ⟨vs, h1, h2⟩ := partsOfX_ok h hq
   refine ⟨.tuple vs.toArray, ?_, vs, rfl, h2⟩
   have hl : vs.length ≠ 1 := by
    intro h1'
    have hlen : ∀ (l : List ResultVar) (q : List (Bool × List C)), partsOfX P env own l = some q → q.length = l.length := by
     intro l
     induction l with
     | nil => intro q h; simp only [partsOfX, Option.some.injEq] at h; subst h; rfl
     | cons x r ih =>
      intro q h
      simp only [partsOfX] at h
      split at h
      ·split at h
       ·rename_i p q' hp hq'
        simp only [Option.some.injEq] at h
        subst h
        simp [ih q' hq']
       ·cases h
      ·cases h
    have e1 := hlen _ _ hq
    have e2 := h2.1
    have e3 : fn.results.toList.length = 1 := by omega
    obtain ⟨r, hr⟩ := List.length_eq_one_iff.1 e3
    exact hne r hr
   simp [h1, hl]
  ·cases hs
end
def retIds (env : Env) : List ResultVar → List Nat
 | [] => []
 | .cell x _ :: r => match env x with
  | some ([], .c (.bx i _)) => i :: retIds env r
  | _ => retIds env r
 | _ :: r => retIds env r
theorem resSX_congr {P : Program} {env : Env} {own own' : Own} {r : ResultVar} (h : ∀ i ∈ retIds env [r], own i = own' i) : resSX P env own r = resSX P env own' r := by
 cases r with
 | tmp t => rfl
 | cell x t =>
  simp only [resSX]
  split
  ·rename_i i off hx
   rw [h i (by simp [retIds, hx])]
  ·rfl
theorem partsOfX_congr {P : Program} {env : Env} {own own' : Own} : ∀ {l : List ResultVar}, (∀ i ∈ retIds env l, own i = own' i) → partsOfX P env own l = partsOfX P env own' l
 | [], _ => rfl
 | r :: l, h => by
  have h1 : ∀ i ∈ retIds env [r], i ∈ retIds env (r :: l) := by
   intro i hi
   cases r with
   | tmp t => simp [retIds] at hi
   | cell x t =>
    simp only [retIds] at hi ⊢
    split
    ·rename_i k off hx
     rw [hx] at hi
     simp only [List.mem_singleton] at hi
     simp [hi]
    ·rename_i hne
     split at hi
     ·rename_i k off hx; exact absurd hx (hne k off)
     ·cases hi
  have h2 : ∀ i ∈ retIds env l, i ∈ retIds env (r :: l) := by
   intro i hi
   cases r with
   | tmp t => exact hi
   | cell x t =>
    simp only [retIds]
    split
    ·exact List.mem_cons_of_mem _ hi
    ·exact hi
  simp only [partsOfX]
  rw [resSX_congr (own := own) (own' := own') fun i hi => h i (h1 i hi), partsOfX_congr fun i hi => h i (h2 i hi)]
theorem retSX_congr {P : Program} {env : Env} {own own' : Own} {fn : Func} (h : ∀ i ∈ retIds env fn.results.toList, own i = own' i) : retSX P env own fn = retSX P env own' fn := by
 unfold retSX
 split
 ·rename_i r hr
  rw [hr] at h
  exact resSX_congr h
 ·rw [partsOfX_congr h]
def closeX {P : Program} (df : List (EntD P)) : List Mk → Tr Ob → Option (Tr Ob × List (Nat × Ob))
 | [], own => some (own, [])
 | .mark i :: r, own => match own.get i with
  | some (.box ⟨.raw (.deferred (some [])), q⟩ []) => match setL own [(i, .box ⟨.raw (.deferred none), q⟩ [])] with
   | some own1 => match closeX df r own1 with
    | some (own2, us) => some (own2, us ++ [(i, .box ⟨.raw (.deferred none), q⟩ [])])
    | none => none
   | none => none
  | _ => none
 | .df f cap :: r, own => match dfOf df f with
  | some e => bif enters P f && Nat.beq cap.length e.ar then closeX df r own else none
  | none => none
def mkIds : List Mk → List Nat
 | [] => []
 | .mark i :: r => i :: mkIds r
 | .df _ _ :: r => mkIds r
section
variable {P : Program} {G : List (Nat × List Value)} {fr : Fr}
theorem closeX_ok {df : List (EntD P)} {fn : Func} {tmps : Array Value} {R : Ending → World → Prop} {pl : Pl} : ∀ {mk : List Mk} {own own2 : Tr Ob} {us : List (Nat × Ob)}, closeX df mk own = some (own2, us) →
  own2.get = updR us own.get ∧ (∀ x ∈ keys us, x ∈ mkIds mk) ∧ ∀ (own0 : Own) (w : World), (∀ i ∈ mkIds mk, own0 i = own.get i) → Mem fr own0 w pl →
   (∀ w', Mem fr (updR us own0) w' pl → Later w pl own0 w' pl (updR us own0) → LeavesInM Fence.wide 0 P fn tmps R [] .returning w') → LeavesInM Fence.wide 0 P fn tmps R (mkD pl mk) .returning w
 | [], own, own2, us, h => by
  simp only [closeX, Option.some.injEq, Prod.mk.injEq] at h
  obtain ⟨rfl, rfl⟩ := h
  exact ⟨rfl, fun x hx => by simp [keys] at hx, fun own0 w _ m hk => hk w m (Later.refl _ _ _)⟩
 | .df f cap :: r, own, own2, us, h => by
  simp only [closeX] at h
  split at h
  ·rename_i e he
   cases hen : (enters P f && Nat.beq cap.length e.ar) with
   | false => rw [hen] at h; cases h
   | true =>
    rw [hen] at h
    simp only [cond_true] at h
    simp only [Bool.and_eq_true, beq_t] at hen
    obtain ⟨a1, a2, a3⟩ := closeX_ok (fn := fn) (tmps := tmps) (R := R) (pl := pl) h
    refine ⟨a1, a2, fun own0 w hag m hk => ?_⟩
    have hef := dfOf_f he
    subst hef
    refine ⟨by simp, .inr ⟨fun h => (by cases h), .func e.f, (cap.map (adV pl)).toArray, e.f, (#[] ++ (cap.map (adV pl)).toArray), rfl, by simp only [Mk.d, invoke]; exact run_enter hen.1 _, fun _ _ => trivial, ?_⟩⟩
    obtain ⟨hF, hd⟩ := e.ok (#[] ++ (cap.map (adV pl)).toArray) w (by simpa using hen.2)
    refine ⟨hF, fun c cs hu hroom => ?_⟩
    obtain ⟨en, u', w', frX, hR, hsteps⟩ := hd c cs hu hroom
    obtain ⟨v, rfl, rfl, hg⟩ := hR
    refine ⟨.returned v, .returning, w', frX, ?_, hsteps⟩
    show LeavesInM Fence.wide 0 P fn tmps R (mkD pl r) (settle .returning) w'
    obtain ⟨m', L⟩ := m.ext hg
    exact a3 own0 w' hag m' fun w2 m2 L2 => hk w2 m2 (L.trans L2)
  ·cases h
 | .mark i :: r, own, own2, us, h => by
  simp only [closeX] at h
  split at h
  ·rename_i q hi
   split at h
   ·rename_i own1 hs
    split at h
    ·rename_i own3 us3 hc
     simp only [Option.some.injEq, Prod.mk.injEq] at h
     obtain ⟨rfl, rfl⟩ := h
     have hg := setL_get hs
     simp only [updL] at hg
     obtain ⟨a1, a2, a3⟩ := closeX_ok (fn := fn) (tmps := tmps) (R := R) (pl := pl) hc
     refine ⟨by rw [a1, hg, updR_append]; rfl, fun x hx => ?_, fun own0 w hag m hk => ?_⟩
     ·simp only [keys, List.map_append, List.mem_append, List.map_cons, List.map_nil, List.mem_singleton] at hx
      simp only [mkIds]
      rcases hx with hx | hx
      ·exact List.mem_cons_of_mem _ (a2 x hx)
      ·simp [hx]
     ·have ho : own0 i = some (.box ⟨.raw (.deferred (some [])), q⟩ []) := by rw [hag i (by simp [mkIds])]; exact hi
      obtain ⟨vs, hh, _⟩ := m.obj i _ ho
      have hh : w.heap[pl.blk i]? = some (.deferred (some [])) := hh
      obtain ⟨m5, L5⟩ := m.turnObjO (ty' := ⟨.raw (.deferred none), q⟩) (cells' := []) (vs' := []) ho rfl All2.nil (x := .deferred none) rfl
      refine ⟨by simp, .inl ⟨pl.blk i, _, rfl, run_takeDeferred hh, ?_⟩⟩
      refine a3 _ _ (fun j hj => ?_) m5 (fun w' m' L' => ?_)
      ·rw [hg]
       by_cases hji : j = i
       ·subst hji; rw [upd_same, upd_same]
       ·rw [upd_ne _ _ hji, upd_ne _ _ hji]; exact hag j (by simp [mkIds, hj])
      ·have e : updR us3 (upd own0 i (.box ⟨.raw (.deferred none), q⟩ [])) = updR (us3 ++ [(i, .box ⟨.raw (.deferred none), q⟩ [])]) own0 := by rw [updR_append]; rfl
       rw [e] at m' L'
       exact hk w' m' (L5.trans L')
    ·cases h
   ·cases h
  ·cases h
def numT : Nat → List SV → Tr SV
 | _, [] => .e
 | k, s :: r => Tr.put (some s) 40 (numT (k + 1) r) k
theorem numT_get : ∀ {l : List SV} {k t : Nat} {sv : SV}, few (k + l.length) = true → (numT k l).get t = some sv → ∃ i, t = k + i ∧ l[i]? = some sv
 | [], k, t, sv, _, h => by simp [numT, Tr.get] at h
 | s :: r, k, t, sv, hf, h => by
  simp only [numT] at h
  have hk : few k = true := by
   simp only [few, Nat.ble_eq] at hf ⊢
   simp only [List.length_cons] at hf
   omega
  rw [Tr.get_put40 hk] at h
  split at h
  ·rename_i ht
   simp only [Option.some.injEq] at h
   exact ⟨0, by omega, by simp [h]⟩
  ·obtain ⟨i, h1, h2⟩ := numT_get (by rw [show k + 1 + r.length = k + (s :: r).length by simp; omega]; exact hf) h
   exact ⟨i + 1, by omega, by simpa using h2⟩
def Ex.isEx : Ex → Bool
 | .exit _ => true
 | _ => false
def runX {P : Program} {G : List (Nat × List Value)} (E : Exe P G) (F : Nat) : Step := fun k f svs own =>
 match P.funcs[f]? with
 | some fn => match fn.body with
  | some c => bif Nat.ble svs.length fn.ntmps && few fn.ntmps then (match evC E none fn.ntmps F c ⟨numT 0 svs, own, k, [], [], [], []⟩ with
   | some (e, st) => bif Ex.isEx e then none else (match closeX E.df st.mks st.own with
    | some (own2, us) => match retSX P (envF [] st.env) own2.get fn with
     | some s => some ⟨s, (us ++ st.U).reverse, retIds (envF [] st.env) fn.results.toList ++ (mkIds st.mks ++ st.T), own2, st.k, st.cs⟩
     | none => none
    | none => none)
   | none => none) else none
  | none => none
 | none => none
theorem runX_ok {E : Exe P G} (hE : ExeOk E) (hm : P.follows .mixedOrders = true) (F : Nat) : CallOk P G (runX E F) := by
 intro k f svs own r h
 unfold runX at h
 split at h
 ·rename_i fn hfn
  split at h
  ·rename_i c hb
   cases hchk : (Nat.ble svs.length fn.ntmps && few fn.ntmps) with
   | false => rw [hchk] at h; cases h
   | true =>
    rw [hchk] at h
    simp only [cond_true] at h
    simp only [Bool.and_eq_true, Nat.ble_eq] at hchk
    obtain ⟨hle, hfew⟩ := hchk
    split at h
    ·rename_i e st hev
     cases hex : Ex.isEx e with
     | true => rw [hex] at h; cases h
     | false =>
      rw [hex] at h
      simp only [cond_false] at h
      split at h
      ·rename_i own2 us hcl
       split at h
       ·rename_i s hret
        simp only [Option.some.injEq] at h
        subst h
        obtain ⟨dT, dU, dC, a1, a2, a3, a4, a5, a6⟩ := (evC_ok hE hm F c e _ st hev).dl
        simp only [List.append_nil] at a1 a2 a3
        subst a1
        have hU := a2
        subst a2
        subst a3
        obtain ⟨b1, b2, _⟩ := closeX_ok (fr := { w0 := default, X := [], G := [], F := fun _ => False }) (P := P) (fn := fn) (tmps := #[]) (R := fun _ _ => True) (pl := ⟨fun _ => False, fun _ => 0, fun _ => (none, 0)⟩) hcl
        refine ⟨by rw [b1, a4, ← updR_append, ← updR_rev, List.reverse_reverse], fun x hx => ?_, fun fr own0 w pl vals hG hc ht m hv => ?_⟩
        ·simp only [keys, List.map_reverse, List.map_append, List.mem_reverse, List.mem_append] at hx ⊢
         rcases hx with hx | hx
         ·exact .inr (.inl (b2 x hx))
         ·exact .inr (.inr (a5 x hx))
        ·have ht : ∀ i, i ∈ retIds (envF [] st.env) fn.results.toList ∨ i ∈ mkIds st.mks ∨ i ∈ st.T → own0 i = own.get i := fun i hi => ht i (by simpa using hi)
         have hfn' : (fn.ntmps = fn.ntmps) := rfl
         refine callsIn_wide.1 (callsIn_of_wp_marks (n := 0) hfn hb trivial (wpIn_wide.2 ?_))
         show (plainWp P).wp c _ _ w
         have hlen : vals.length = svs.length := hv.1.symm
         refine walkV_wp (a6 (plainWp P) { fr with lat := [(w, pl, own0)] } own0 _ w pl (bodyPostM Fence.wide 0 P fn _) rfl hG hc (fun i hi => ht i (.inr (.inr hi))) ⟨⟨m.to _ _, rfl, ?_, ?_, ?_, ?_⟩, fun i hi => by cases hi⟩ ?_)
         ·simp; omega
         ·intro t p sv hfd _
          simp only [envF, findE, Option.map_eq_some_iff, Prod.mk.injEq] at hfd
          obtain ⟨s', hs', _, rfl⟩ := hfd
          obtain ⟨i, rfl, hi⟩ := numT_get (by
           simp only [few, Nat.ble_eq] at hfew ⊢
           omega) hs'
          obtain ⟨v, hvi, hok⟩ := hv.get hi
          have hlt := (List.getElem?_eq_some_iff.1 hvi).1
          simp only [Nat.zero_add, Array.getD_eq_getD_getElem?]
          rw [Array.getElem?_append_left (by simpa using hlt)]
          simp [hvi]
          exact hok
         ·intro t p sv hfd hh
          simp only [envF, findE, Option.map_eq_some_iff, Prod.mk.injEq] at hfd
          obtain ⟨_, _, rfl, _⟩ := hfd
          exact absurd holds_nil hh
         ·intro q hq
          simp only [List.mem_singleton] at hq
          subst hq
          exact Later.refl _ _ _
         ·intro a' w' pl' hok
          obtain ⟨_, _, c3⟩ := closeX_ok (fr := fr) (P := P) (fn := fn) (tmps := a'.tmps) (R := fun e w' => ∃ v pl', e = .returned v ∧ Mem fr (updL own0 (us ++ st.U).reverse) w' pl' ∧ Later w pl own0 w' pl' (updL own0 (us ++ st.U).reverse) ∧ SvOk w' pl' (updL own0 (us ++ st.U).reverse) s v) (pl := pl') hcl
          have hownU : ∀ i, i ∈ retIds (envF [] st.env) fn.results.toList ∨ i ∈ mkIds st.mks ∨ i ∈ st.T → updR st.U own0 i = st.own.get i := fun i hi => by rw [a4]; exact updR_congr _ (ht i hi)
          have fin := c3 (updR st.U own0) w' (fun i hi => hownU i (.inr (.inl hi))) (Mem.of (fr := fr) (ds := fr.ds) hok.ok.mem.of) (fun w2 m2 L2 => by
           have ok2 := hok.ok.later (m2.to _ _) L2
           have e0 : updR us (updR st.U own0) = updL own0 (us ++ st.U).reverse := by rw [← updR_append, ← updR_rev, List.reverse_reverse]
           rw [e0] at ok2 m2 L2
           have hr2 : retSX P (envF [] st.env) (updL own0 (us ++ st.U).reverse) fn = some s := by
            rw [← hret]
            refine retSX_congr fun i hi => ?_
            rw [← e0, b1]
            exact updR_congr _ (hownU i (.inl hi))
           obtain ⟨v, h1, h2⟩ := retSX_ok ok2 hr2
           exact ⟨v, h1, v, pl', rfl, m2, ok2.late (w, pl, own0) (by simp), h2⟩)
          have hdd : a'.defers = mkD pl' st.mks := hok.ok.defers
          cases e with
          | normal => show LeavesInM Fence.wide 0 P fn a'.tmps _ a'.defers .returning w'; rw [hdd]; exact fin
          | exit id => cases hex
          | ret => show LeavesInM Fence.wide 0 P fn a'.tmps _ a'.defers .returning w'; rw [hdd]; exact fin
       ·cases h
      ·cases h
    ·cases h
  ·cases h
 ·cases h
end
end Go.V
namespace Go.V
open Go.RowKit
def putsT {α : Type} : List (Nat × α) → Tr α → Tr α
 | [], t => t
 | (i, x) :: r, t => putsT r (Tr.put (some x) 40 t i)
def setB (i : Nat) (o : Ob) (st : XS) : Option XS := match setL st.own [(i, o)] with
 | some own => some ⟨st.env, own, st.k, i :: st.T, (i, o) :: st.U, st.cs, st.mks⟩
 | none => none
def yldX {P : Program} {G : List (Nat × List Value)} (E : Exe P G) (F : Nat) : StepY := fun k i svs own =>
 match own.get i with
 | some (.box ⟨.lp n sl ls pend ps asg bd, q⟩ cells) =>
  bif few n && (sl.all few && (ps.toList.all (fun p => few p && Nat.blt p n) && Nat.beq ps.size svs.length)) then
   (match evC E (some i) n F asg ⟨putsT (ps.toList.zip svs) (putsT (sl.zip (cells.map .c)) .e), own, k, [], [], [], []⟩ with
   | some (.normal, st1) => match st1.own.get i with
    | some (.box ⟨.lp n1 sl1 ls1 pend1 ps1 as1 bd1, q1⟩ cells1) => bif LoopState.isReady ls1 then
      (match setB i (.box ⟨.lp n1 sl1 .busy pend1 ps1 as1 bd1, q1⟩ cells1) st1 with
      | some st2 => match evC E (some i) n F bd st2 with
       | some (e, st3) => match st3.own.get i with
        | some (.box ⟨.lp n2 sl2 ls2 pend2 ps2 as2 bd2, q2⟩ cells2) =>
         match setB i (.box ⟨.lp n2 sl2 (if (jumpOf e).isNone then .ready else .done) (jumpOf e) ps2 as2 bd2, q2⟩ cells2) st3 with
         | some st4 => some ⟨.c (.d (.v (.bool (jumpOf e).isNone))), st4.U.reverse, i :: st4.T, st4.own, st4.k, st4.cs⟩
         | none => none
        | _ => none
       | none => none
      | none => none) else none
    | _ => none
   | _ => none) else none
 | _ => none
section
variable {P : Program} {G : List (Nat × List Value)}
theorem putsT_ok {w : World} {pl : Pl} {own : Own} : ∀ {l : List (Nat × SV)} {vals : List Value} {tr : Tr SV} {tm : Array Value}, All2 (SvOk w pl own) (l.map (·.2)) vals → (∀ x ∈ l, few x.1 = true ∧ x.1 < tm.size) → (∀ t s, tr.get t = some s → SvOk w pl own s (tm.getD t undef)) →
  ∀ t s, (putsT l tr).get t = some s → SvOk w pl own s ((((l.map (·.1)).zip vals).foldl (fun tm (x : Nat × Value) => tm.setIfInBounds x.1 x.2) tm).getD t undef)
 | [], vals, tr, tm, _, _, h, t, s, hs => by simpa using h t s hs
 | (i, x) :: r, vals, tr, tm, hv, hf, h, t, s, hs => by
  obtain ⟨y, ys, rfl, h1, h2⟩ := hv.uncons
  obtain ⟨hfi, hlt⟩ := hf (i, x) (by simp)
  refine putsT_ok (l := r) (vals := ys) (tr := Tr.put (some x) 40 tr i) (tm := tm.setIfInBounds i y) h2 (fun z hz => by
   obtain ⟨a, b⟩ := hf z (by simp [hz])
   exact ⟨a, by simpa using b⟩) (fun u su hu => ?_) t s hs
  rw [Tr.get_put40 hfi] at hu
  by_cases hui : u = i
  ·subst hui
   simp only [if_true, Option.some.injEq] at hu
   subst hu
   simp only [Array.getD_eq_getD_getElem?, Array.getElem?_setIfInBounds, if_true]
   have hlt : u < tm.size := hlt
   rw [if_pos hlt]
   exact h1
  ·rw [if_neg hui] at hu
   simp only [Array.getD_eq_getD_getElem?, Array.getElem?_setIfInBounds, if_neg (Ne.symm hui)]
   rw [← Array.getD_eq_getD_getElem?]
   exact h u su hu
theorem putsT_slots {w : World} {pl : Pl} {own : Own} {tm : Array Value} : ∀ {sl : List Nat} {cells : List C} {tr : Tr SV}, All2 (COk w pl own) cells (sl.map fun t => tm.getD t undef) → sl.all few = true → (∀ t s, tr.get t = some s → SvOk w pl own s (tm.getD t undef)) →
  ∀ t s, (putsT (sl.zip (cells.map .c)) tr).get t = some s → SvOk w pl own s (tm.getD t undef)
 | [], cells, tr, _, _, h, t, s, hs => by simpa [putsT] using h t s (by simpa [putsT] using hs)
 | i :: sl, [], tr, hc, _, h, t, s, hs => by have := hc.1; simp at this
 | i :: sl, c :: cells, tr, hc, hf, h, t, s, hs => by
  simp only [List.all_cons, Bool.and_eq_true] at hf
  obtain ⟨y, ys, he, h1, h2⟩ := hc.uncons
  simp only [List.map_cons, List.cons.injEq] at he
  obtain ⟨rfl, rfl⟩ := he
  refine putsT_slots (tr := Tr.put (some (.c c)) 40 tr i) h2 hf.2 (fun u su hu => ?_) t s hs
  rw [Tr.get_put40 hf.1] at hu
  by_cases hui : u = i
  ·subst hui
   simp only [if_true, Option.some.injEq] at hu
   subst hu
   exact h1
  ·rw [if_neg hui] at hu
   exact h u su hu
theorem setB_ok {i : Nat} {o : Ob} {st st' : XS} (h : setB i o st = some st') : st' = ⟨st.env, st'.own, st.k, i :: st.T, (i, o) :: st.U, st.cs, st.mks⟩ ∧ st'.own.get = upd st.own.get i o := by
 unfold setB at h
 split at h
 ·rename_i own hs
  simp only [Option.some.injEq] at h
  subst h
  exact ⟨rfl, setL_get hs⟩
 ·cases h
theorem yldX_ok {E : Exe P G} (hE : ExeOk E) (hm : P.follows .mixedOrders = true) (F : Nat) : YldOk P G (yldX E F) := by
 intro k i svs own r h
 unfold yldX at h
 split at h
 ·rename_i n sl ls pend ps asg bd q cells hi
  cases hchk : (few n && (sl.all few && (ps.toList.all (fun p => few p && Nat.blt p n) && Nat.beq ps.size svs.length))) with
  | false => rw [hchk] at h; cases h
  | true =>
   rw [hchk] at h
   simp only [cond_true] at h
   simp only [Bool.and_eq_true, beq_t] at hchk
   obtain ⟨hfew, hsl, hps, hlen⟩ := hchk
   split at h
   ·rename_i st1 hev1
    split at h
    ·rename_i n1 sl1 ls1 pend1 ps1 as1 bd1 q1 cells1 hi1
     cases hrd : LoopState.isReady ls1 with
     | false => rw [hrd] at h; cases h
     | true =>
      rw [hrd] at h
      simp only [cond_true] at h
      split at h
      ·rename_i st2 hs2
       split at h
       ·rename_i e st3 hev3
        split at h
        ·rename_i n2 sl2 ls2 pend2 ps2 as2 bd2 q2 cells2 hi2
         split at h
         ·rename_i st4 hs4
          simp only [Option.some.injEq] at h
          subst h
          obtain ⟨e2, g2⟩ := setB_ok hs2
          obtain ⟨e4, g4⟩ := setB_ok hs4
          obtain ⟨T1, U1, C1, a1, a2, a3, a4, a5, a6⟩ := (evC_ok hE hm F asg _ _ st1 hev1).dl
          obtain ⟨T3, U3, C3, b1, b2, b3, b4, b5, b6⟩ := (evC_ok hE hm F bd _ _ st3 hev3).dl
          simp only [List.append_nil] at a1 a2 a3
          have t2 : st2.T = i :: T1 := by rw [e2, a1]
          have u2 : st2.U = (i, .box ⟨.lp n1 sl1 .busy pend1 ps1 as1 bd1, q1⟩ cells1) :: U1 := by rw [e2, a2]
          have c2 : st2.cs = C1 := by rw [e2, a3]
          have env2 : st2.env = st1.env := by rw [e2]
          have mk2 : st2.mks = st1.mks := by rw [e2]
          have t4 : st4.T = i :: (T3 ++ (i :: T1)) := by rw [e4, b1, t2]
          have u4 : st4.U = (i, .box ⟨.lp n2 sl2 (if (jumpOf e).isNone then .ready else .done) (jumpOf e) ps2 as2 bd2, q2⟩ cells2) :: (U3 ++ ((i, .box ⟨.lp n1 sl1 .busy pend1 ps1 as1 bd1, q1⟩ cells1) :: U1)) := by rw [e4, b2, u2]
          have c4 : st4.cs = C3 ++ C1 := by rw [e4, b3, c2]
          simp only
          rw [t4, u4, c4]
          have hupd : ∀ own0 : Own, updL own0 ((i, Ob.box ⟨.lp n2 sl2 (if (jumpOf e).isNone then .ready else .done) (jumpOf e) ps2 as2 bd2, q2⟩ cells2) :: (U3 ++ ((i, .box ⟨.lp n1 sl1 .busy pend1 ps1 as1 bd1, q1⟩ cells1) :: U1))).reverse = upd (updR U3 (upd (updR U1 own0) i (.box ⟨.lp n1 sl1 .busy pend1 ps1 as1 bd1, q1⟩ cells1))) i (.box ⟨.lp n2 sl2 (if (jumpOf e).isNone then .ready else .done) (jumpOf e) ps2 as2 bd2, q2⟩ cells2) := by
           intro own0
           rw [← updR_rev, List.reverse_reverse]
           simp only [updR]
           rw [updR_append]
           rfl
          refine ⟨by rw [hupd, g4, b4, g2, a4], fun x hx => ?_, fun fr own0 w pl vals hG hc ht m hv => ?_⟩
          ·simp only [keys, List.map_reverse, List.mem_reverse, List.map_cons, List.map_append, List.mem_cons, List.mem_append] at hx ⊢
           rcases hx with hx | hx | hx | hx
           ·exact .inl hx
           ·exact .inr (.inr (.inl (b5 x hx)))
           ·exact .inl hx
           ·exact .inr (.inr (.inr (.inr (a5 x hx))))
          ·have ht1 : ∀ j ∈ T1, own0 j = own.get j := fun j hj => ht j (by simp [hj])
           have ht3 : ∀ j ∈ T3, own0 j = own.get j := fun j hj => ht j (by simp [hj])
           have hti : own0 i = own.get i := ht i (by simp)
           obtain ⟨hc3, hc1⟩ := conj_append hc
           have hoi : own0 i = some (.box ⟨.lp n sl ls pend ps asg bd, q⟩ cells) := by rw [hti]; exact hi
           obtain ⟨vs, ⟨tm, fn0, D0, hh, hts, hvs⟩, hcl⟩ := m.obj i _ hoi
           subst hvs
           have hvl : vals.length = svs.length := hv.1.symm
           refine ⟨fn0, _, asg, bd, run_yield hh (by simp only [List.size_toArray]; omega), roundIn_of_wpIn trivial ?_⟩
           have hfold : ((ps.zip vals.toArray).foldl (fun tmps (x : Tmp × Value) => tmps.setIfInBounds x.1 x.2) tm) = (((ps.toList.zip svs).map (·.1)).zip vals).foldl (fun tm (x : Nat × Value) => tm.setIfInBounds x.1 x.2) tm := by
            rw [← Array.foldl_toList, Array.toList_zip, List.map_fst_zip (by simp; omega)]
           have hsz : ∀ (l : List (Nat × Value)) (tm : Array Value), (l.foldl (fun tm (x : Nat × Value) => tm.setIfInBounds x.1 x.2) tm).size = tm.size := by
            intro l
            induction l with
            | nil => intro tm; rfl
            | cons x r ih => intro tm; simp only [List.foldl_cons]; rw [ih]; simp
           show ((roundWp P (pl.blk i)).wp asg _ _ w)
           refine walkV_wp (a6 (roundWp P (pl.blk i)) { fr with lat := [(w, pl, own0)] } own0 _ w pl _ ⟨(w, pl, own0), by simp, ⟨_, _, hoi⟩, rfl⟩ hG hc1 ht1 ⟨⟨m.to _ _, rfl, ?_, fun t p sv hfd _ => ?_, fun t p sv hfd hh => ?_, fun q hq => ?_⟩, fun i hi => by cases hi⟩ ?_)
           ·show ((ps.zip vals.toArray).foldl (fun tmps (x : Tmp × Value) => tmps.setIfInBounds x.1 x.2) tm).size = n
            rw [hfold, hsz, hts]
           ·simp only [envF, findE, Option.map_eq_some_iff, Prod.mk.injEq] at hfd
            obtain ⟨s', hs', _, rfl⟩ := hfd
            show SvOk w pl own0 s' (((ps.zip vals.toArray).foldl (fun tmps (x : Tmp × Value) => tmps.setIfInBounds x.1 x.2) tm).getD t undef)
            rw [hfold]
            refine putsT_ok ?_ (fun x hx => ?_) (putsT_slots hcl hsl fun t s h => by simp [Tr.get] at h) t s' hs'
            ·rw [List.map_snd_zip (by simp; omega)]; exact hv
            ·have := List.all_eq_true.1 hps x.1 (List.of_mem_zip (a := x.1) (b := x.2) hx).1
             simp only [Bool.and_eq_true, Nat.blt_eq] at this
             exact ⟨this.1, by rw [hts]; exact this.2⟩
           ·simp only [envF, findE, Option.map_eq_some_iff, Prod.mk.injEq] at hfd
            obtain ⟨_, _, rfl, _⟩ := hfd
            exact absurd holds_nil hh
           ·simp only [List.mem_singleton] at hq
            subst hq
            exact Later.refl _ _ _
           ·intro a' w' pl' hok1
            have ok1 := hok1.ok
            have L1 : Later w pl own0 w' pl' (updR U1 own0) := ok1.late (w, pl, own0) (by simp)
            have ho1 : updR U1 own0 i = some (.box ⟨.lp n1 sl1 ls1 pend1 ps1 as1 bd1, q1⟩ cells1) := by
             rw [← hi1, a4]; exact updR_congr _ hti
            obtain ⟨vs1, ⟨tm1, fn1, D1, hh1, hts1, hvs1⟩, hcl1⟩ := ok1.mem.obj i _ ho1
            have hb1 : pl'.blk i = pl.blk i := (L1.bx i _ _ hoi).2
            rw [hb1] at hh1
            have hls1 : ls1 = .ready := by cases ls1 <;> first | rfl | cases hrd
            subst hls1
            refine ⟨_, run_beginRound hh1 rfl, ?_⟩
            obtain ⟨m5, L5⟩ := ok1.mem.turnObjO (ty' := ⟨.lp n1 sl1 .busy pend1 ps1 as1 bd1, q1⟩) (cells' := cells1) (vs' := vs1) ho1 rfl hcl1 (x := .loop { state := .busy, pending := pend1, fn := fn1, tmps := tm1, params := ps1, assign := as1, body := bd1, defers := D1 }) ⟨tm1, fn1, D1, rfl, hts1, hvs1⟩
            rw [hb1] at m5 L5
            have ok2 := ok1.later m5 L5
            obtain ⟨e1', e2'⟩ := mkD_later L5 hok1.bx
            rw [← mk2, ← env2] at ok2
            rw [← mk2] at e1' e2'
            refine walkV_wp (c := bd) (f := F) (R := roundWp P (pl.blk i)) (b6 (roundWp P (pl.blk i)) { fr with lat := [(w, pl, own0)] } (upd (updR U1 own0) i (.box ⟨.lp n1 sl1 .busy pend1 ps1 as1 bd1, q1⟩ cells1)) a' _ pl' _ ⟨(w, pl, own0), by simp, ⟨_, _, hoi⟩, rfl⟩ hG hc3 (fun j hj => ?_) ⟨ok2, e2'⟩ ?_)
            ·rw [g2]
             by_cases hji : j = i
             ·subst hji; rw [upd_same, upd_same]
             ·rw [upd_ne _ _ hji, upd_ne _ _ hji, a4]; exact updR_congr _ (ht3 j hj)
            ·intro a3 w3 pl3 hok3
             have ok3 := hok3.ok
             have L3 := ok3.late (w, pl, own0) (by simp)
             have ho3 : updR U3 (upd (updR U1 own0) i (.box ⟨.lp n1 sl1 .busy pend1 ps1 as1 bd1, q1⟩ cells1)) i = some (.box ⟨.lp n2 sl2 ls2 pend2 ps2 as2 bd2, q2⟩ cells2) := by
              rw [← hi2, b4]
              refine updR_congr _ ?_
              rw [g2, upd_same, upd_same]
             obtain ⟨vs3, ⟨tm3, fn3, D3, hh3, hts3, hvs3⟩, hcl3⟩ := ok3.mem.obj i _ ho3
             have hb3 : pl3.blk i = pl.blk i := (L3.bx i _ _ hoi).2
             rw [hb3] at hh3
             obtain ⟨m6, L6⟩ := ok3.mem.turnObjO (ty' := ⟨.lp n2 sl2 (if (jumpOf e).isNone then .ready else .done) (jumpOf e) ps2 as2 bd2, q2⟩) (cells' := cells2) (vs' := vs3) ho3 rfl hcl3 (x := .loop { state := if (jumpOf e).isNone then .ready else .done, pending := jumpOf e, fn := fn3, tmps := tm3, params := ps2, assign := as2, body := bd2, defers := D3 }) ⟨tm3, fn3, D3, rfl, hts3, hvs3⟩
             rw [hb3] at m6 L6
             rw [← hupd] at m6 L6
             have fin : ∀ (v : Value), v = .bool (jumpOf e).isNone → ∃ v' pl', Ending.returned v = .returned v' ∧ Mem fr (updL own0 ((i, Ob.box ⟨.lp n2 sl2 (if (jumpOf e).isNone then .ready else .done) (jumpOf e) ps2 as2 bd2, q2⟩ cells2) :: (U3 ++ ((i, .box ⟨.lp n1 sl1 .busy pend1 ps1 as1 bd1, q1⟩ cells1) :: U1))).reverse) (w3.putObj (pl.blk i) (.loop { state := if (jumpOf e).isNone then .ready else .done, pending := jumpOf e, fn := fn3, tmps := tm3, params := ps2, assign := as2, body := bd2, defers := D3 })) pl' ∧ Later w pl own0 (w3.putObj (pl.blk i) (.loop { state := if (jumpOf e).isNone then .ready else .done, pending := jumpOf e, fn := fn3, tmps := tm3, params := ps2, assign := as2, body := bd2, defers := D3 })) pl' (updL own0 ((i, Ob.box ⟨.lp n2 sl2 (if (jumpOf e).isNone then .ready else .done) (jumpOf e) ps2 as2 bd2, q2⟩ cells2) :: (U3 ++ ((i, .box ⟨.lp n1 sl1 .busy pend1 ps1 as1 bd1, q1⟩ cells1) :: U1))).reverse) ∧ SvOk (w3.putObj (pl.blk i) (.loop { state := if (jumpOf e).isNone then .ready else .done, pending := jumpOf e, fn := fn3, tmps := tm3, params := ps2, assign := as2, body := bd2, defers := D3 })) pl' (updL own0 ((i, Ob.box ⟨.lp n2 sl2 (if (jumpOf e).isNone then .ready else .done) (jumpOf e) ps2 as2 bd2, q2⟩ cells2) :: (U3 ++ ((i, .box ⟨.lp n1 sl1 .busy pend1 ps1 as1 bd1, q1⟩ cells1) :: U1))).reverse) (.c (.d (.v (.bool (jumpOf e).isNone)))) v' := fun v hv => ⟨v, pl3, rfl, Mem.of (fr := fr) (ds := fr.ds) m6.of, L3.trans L6, by subst hv; exact Rd.v _ rfl⟩
             cases e with
             | normal => exact ⟨_, _, run_endRound none hh3, fin _ rfl⟩
             | ret => exact ⟨_, _, run_endRound (some .ret) hh3, fin _ rfl⟩
             | exit id => exact ⟨_, _, run_endRound (some (.exit id)) hh3, fin _ rfl⟩
         ·cases h
        ·cases h
       ·cases h
      ·cases h
    ·cases h
   ·cases h
 ·cases h
def exeX (T : List (Ent P G)) (ne : List (NE P)) (df : List (EntD P)) (orc : Nat → Option Bool) (lit : Nat → Option Value) (F : Nat) (hnt : Nat → Option (List D)) : Nat → Exe P G
 | 0 => ⟨T, ne, df, orc, lit, fun _ _ _ _ => none, fun _ _ _ _ => none, hnt⟩
 | d + 1 => ⟨T, ne, df, orc, lit, runX (exeX T ne df orc lit F hnt d) F, yldX (exeX T ne df orc lit F hnt d) F, hnt⟩
theorem exeX_ok {T : List (Ent P G)} {ne : List (NE P)} {df : List (EntD P)} {orc : Nat → Option Bool} {lit : Nat → Option Value} {F : Nat} {hnt : Nat → Option (List D)} (hm : P.follows .mixedOrders = true) : ∀ d, ExeOk (exeX T ne df orc lit F hnt d)
 | 0 => ⟨(by intro k f svs own r h; cases h), (by intro k f svs own r h; cases h)⟩
 | d + 1 => ⟨runX_ok (exeX_ok hm d) hm F, yldX_ok (exeX_ok hm d) hm F⟩
def topX (T : List (Ent P G)) (ne : List (NE P)) (df : List (EntD P)) (orc : Nat → Option Bool) (lit : Nat → Option Value) (F d : Nat) (f : FuncId) (ins : List SV) (hnt : Nat → Option (List D) := fun _ => none) : Option (SV × List Prop) :=
 match (exeX T ne df orc lit F hnt (d + 1)).call 100 f ins .e with
 | some r => some (cvtS r.own.get (fun _ => false) r.sv, r.cs)
 | none => none
theorem specXH {T : List (Ent P G)} {ne : List (NE P)} {df : List (EntD P)} (orc : Nat → Option Bool) (lit : Nat → Option Value) (hnt : Nat → Option (List D)) {F d : Nat} {f : FuncId} {ins : List SV} {out : SV} {cs : List Prop} (hm : P.follows .mixedOrders = true) (h : topX T ne df orc lit F d f ins hnt = some (out, cs)) (hc : conj cs) : Spec P G f ins [] out [] := by
 unfold topX at h
 split at h
 ·rename_i r hr
  simp only [Option.some.injEq, Prod.mk.injEq] at h
  obtain ⟨rfl, rfl⟩ := h
  obtain ⟨c1, c2, c3⟩ := (exeX_ok (T := T) (ne := ne) (df := df) (orc := orc) (lit := lit) (F := F) (hnt := hnt) hm (d + 1)).call _ _ _ _ _ hr
  intro fr w pl args hw hG m ha
  have hE : lookO [] = (Tr.e : Tr Ob).get := by funext i; rfl
  have hX : ∀ i b, (i, b) ∉ fr.X := by
   intro i b hib
   rcases m.bor i b hib with ⟨_, _, h, _⟩ | ⟨_, _, _, _, h⟩ <;> cases h
  refine (c3 fr (lookO []) w pl args hG.G hc (fun i _ => by rw [hE]) m ha).mono ?_
  rintro e w' ⟨v, pl', rfl, m', L, hs⟩
  rw [hE, ← c1] at m' hs
  have hk : keepF r.own.get (fun _ => false) = lookO [] := by funext i; simp [keepF, lookO]
  refine ⟨v, pl', rfl, ?_, ?_⟩
  ·rw [← hk]; exact keep_memX m' fun i b h => absurd h (hX i b)
  ·rw [← hk]; exact cvtS_okX m' (fun i b h => absurd h (hX i b)) hs
 ·cases h
theorem specX {T : List (Ent P G)} {ne : List (NE P)} {df : List (EntD P)} (orc : Nat → Option Bool) (lit : Nat → Option Value) {F d : Nat} {f : FuncId} {ins : List SV} {out : SV} {cs : List Prop} (hm : P.follows .mixedOrders = true) (h : topX T ne df orc lit F d f ins = some (out, cs)) (hc : conj cs) : Spec P G f ins [] out [] := specXH orc lit (fun _ => none) hm h hc
end
end Go.V
namespace Go.Proofs.YtclaplngjmgnoaaGreatDoor
open Go.RowKit Go.V
variable {g : Gv}
theorem hmixX : Tryz.prog.follows .mixedOrders = true := by kernel_rfl
theorem row0T : SpG g 125 [.c (.d (.sl 7 []))] [] (.c (.d (.s (S [])))) [] :=
 specX (fun _ => none) (fun _ => none) (T := []) (ne := []) (df := []) (F := 10000) (d := 20) (cs := []) hmixX (by kernel_rfl) trivial
theorem val0T : SpG g 92 [.agg [.d (.i 0), .d (.s (S [])), .d (.i 0), .d (.i 0), .d (.i 0), .d (.sl 1 []), .d (.sl 1 [])]] [] (.c (.d (.s (S [33, 48])))) [] :=
 specX (fun _ => none) (fun _ => none) (T := []) (ne := []) (df := []) (F := 10000) (d := 20) (cs := []) hmixX (by kernel_rfl) trivial
theorem row0R_ : SpG g 76 [.c (.d (.s (S [])))] [] (.tup [(false, [.d .nil]), (false, [.d (.b true)])]) [] :=
 specX (fun _ => none) (fun _ => none) (T := []) (ne := []) (df := []) (F := 10000) (d := 20) (cs := []) hmixX (by kernel_rfl) trivial
theorem val0R_ : SpG g 78 [.c (.d (.s (S [33, 48])))] [] (.tup [(true, [.d (.i 0), .d (.s (S [])), .d (.i 0), .d (.i 0), .d (.i 0), .d .nil, .d .nil]), (false, [.d (.b true)])]) [] :=
 specX (fun _ => none) (fun _ => none) (T := []) (ne := []) (df := []) (F := 10000) (d := 20) (cs := []) hmixX (by kernel_rfl) trivial
theorem row0R : SpG g 76 [.c (.d (.s (S [])))] [] (.tup [(false, [.d (.sl 7 [])]), (false, [.d (.b true)])]) [] := spec_outT [[some 7], []] row0R_
theorem val0R : SpG g 78 [.c (.d (.s (S [33, 48])))] [] (.tup [(true, [.d (.i 0), .d (.s (S [])), .d (.i 0), .d (.i 0), .d (.i 0), .d (.sl 1 []), .d (.sl 1 [])]), (false, [.d (.b true)])]) [] := spec_outT [[none, none, none, none, none, some 1, some 1], []] val0R_
theorem read_itW {id a t : Int} (hi : ItOk (itW id a t)) : SpG g 41 [.c (.d (.s (S (itT (itW id a t)))))] [] (.tup [(true, [.d (.i id), .d (.i a), .d (.i 0), .d (.i t), .d (.i 4), .d (.sl 7 []), .d (.i 0), .d (.s (S [])), .d (.i 0), .d (.i 0), .d (.i 0), .d (.sl 1 []), .d (.sl 1 []), .d (.s (S [])), .d (.s (S [])), .d (.sl 1 [[.i 0]])]), (false, [.d (.b true)])]) [] :=
 read15_ok (itW id a t) hi row0T val0T row0R val0R
end Go.Proofs.YtclaplngjmgnoaaGreatDoor
namespace Go.Proofs.YtclaplngjmgnoaaGreatDoor
open Go.RowKit Go.V
open Go.Eng (inR byteAt u8 bytesV)
variable {g : Gv}
def verD (x : List UInt8 × Bool) : List D := [.s (S x.1), .b x.2]
def versD (es : RS) : List (List D) := es.map verD
theorem vers_len (es : RS) : (versD es).length = es.length := List.length_map _
theorem vers_step {es : RS} {k : Nat} (h : k < es.length) : versD (es.take (k + 1)) = versD (es.take k) ++ [[.s (S (es.getD k ([], false)).1), .b (es.getD k ([], false)).2]] := by
 rw [take_snoc ([], false) h]; simp [versD, verD]
theorem ln_in {s : ByteArray} {a r : List UInt8} {q : Nat} (hs : s = S (a ++ 58 :: r)) (hq : q ≤ a.length) (h : (q : Int) < (s.size : Int) ∧ ¬ byteAt s (q : Int) = 58) : q < a.length := by
 subst hs
 rw [S_size, byteAt_S, Int.toNat_natCast] at h
 exact un_in (c := 58) hq h
theorem hd_no (t : List UInt8) (b : Bool) : ∀ x, x ∈ hdT t b → ¬ x = 58 := by
 intro x hx
 rcases List.mem_cons.1 hx with rfl | hx
 ·unfold sgn; split <;> decide
 ·exact itoa_not (.inr (.inl rfl)) x hx
theorem ln_out {s : ByteArray} {t r : List UInt8} {b : Bool} {q : Nat} (hs : s = S (hdT t b ++ 58 :: r)) (hq : q ≤ (hdT t b).length) (h : ¬ (q : Int) < (s.size : Int) ∨ byteAt s (q : Int) = 58) : q = (hdT t b).length := by
 subst hs
 rw [S_size, byteAt_S, Int.toNat_natCast] at h
 exact un_out (c := 58) (hd_no t b) hq h
theorem ln_b0 {s : ByteArray} {t r : List UInt8} {b : Bool} (hs : s = S (hdT t b ++ 58 :: r)) : byteAt s 0 = if b then 45 else 43 := by
 subst hs
 rw [byteAt_S]
 cases b <;> rfl
theorem ln_dec {s : ByteArray} {t r : List UInt8} {b : Bool} (hs : s = S (hdT t b ++ 58 :: r)) : decide (byteAt s 0 = 45) = b := by
 rw [ln_b0 hs]; cases b <;> rfl
theorem ln_num {s : ByteArray} {t r : List UInt8} {b : Bool} {q : Nat} (hs : s = S (hdT t b ++ 58 :: r)) (hq : q = (hdT t b).length) : s.extract 1 q = S (Lib.itoa (t.length : Int)) := by
 subst hs hq
 rw [S_cut, List.take_left]; rfl
theorem ln_txt {s : ByteArray} {t r : List UInt8} {b : Bool} {q : Nat} (hs : s = S (hdT t b ++ 58 :: (t ++ 10 :: r))) (hq : q = (hdT t b).length) : s.extract ((q : Int) + 1).toNat (((q : Int) + 1) + (t.length : Int)).toNat = S t := by
 subst hs hq
 have e1 : (((hdT t b).length : Int) + 1).toNat = (hdT t b).length + 1 := by omega
 have e2 : ((((hdT t b).length : Int) + 1) + (t.length : Int)).toNat = (hdT t b).length + 1 + t.length := by omega
 rw [e1, e2, S_cut]
 have e3 : hdT t b ++ 58 :: (t ++ 10 :: r) = (hdT t b ++ [58]) ++ (t ++ 10 :: r) := by simp
 have e4 : (hdT t b).length + 1 = (hdT t b ++ [58]).length := by simp
 rw [e3, e4, List.take_append, List.take_of_length_le (by omega), List.drop_left]
 simp
theorem ln_end {s : ByteArray} {t r : List UInt8} {b : Bool} {q : Nat} (hs : s = S (hdT t b ++ 58 :: (t ++ 10 :: r))) (hq : q = (hdT t b).length) : byteAt s (((q : Int) + 1) + (t.length : Int)) = 10 := by
 subst hs hq
 have e2 : ((((hdT t b).length : Int) + 1) + (t.length : Int)).toNat = (hdT t b).length + (1 + t.length) := by omega
 rw [byteAt_S, e2]
 simp [List.getElem?_append, Nat.add_comm 1]
theorem ln_rest {s : ByteArray} {t r : List UInt8} {b : Bool} {q : Nat} (hs : s = S (hdT t b ++ 58 :: (t ++ 10 :: r))) (hq : q = (hdT t b).length) : s.extract (((q : Int) + (t.length : Int)) + 2).toNat s.size = S r := by
 subst hs hq
 have e2 : ((((hdT t b).length : Int) + (t.length : Int)) + 2).toNat = (hdT t b).length + (1 + (t.length + 1)) := by omega
 rw [e2, S_drop, ← List.drop_drop, List.drop_left, ← List.drop_drop]
 have e3 : List.drop 1 (58 :: (t ++ 10 :: r)) = t ++ 10 :: r := rfl
 rw [e3, ← List.drop_drop, List.drop_left]; rfl
theorem ln_size {s : ByteArray} {t r : List UInt8} {b : Bool} (hs : s = S (hdT t b ++ 58 :: (t ++ 10 :: r))) : s.size = (hdT t b).length + 2 + t.length + r.length := by
 subst hs
 rw [S_size]; simp only [zq0]; omega
theorem hd_len {t : List UInt8} (b : Bool) (h : t.length ≤ 200000) : (hdT t b).length ≤ 15 ∧ 1 ≤ (hdT t b).length := by
 have := itoa_len (nOk_len (n := t.length) (by omega))
 simp only [hdT, List.length_cons]; omega
theorem ln_split {es : RS} {k : Nat} {s : ByteArray} (hk : k < es.length) (hs : s = S (encT (es.drop k))) : s = S (hdT (es.getD k ([], false)).1 (es.getD k ([], false)).2 ++ 58 :: ((es.getD k ([], false)).1 ++ 10 :: encT (es.drop (k + 1)))) := by
 rw [hs, enc_drop hk, line_app]
theorem ln_ne {es : RS} {k : Nat} {s : ByteArray} (hk : k < es.length) (hs : s = S (encT (es.drop k))) : ¬ s = S [] := by
 intro e
 rw [hs] at e
 have := congrArg (fun b : ByteArray => b.data.toList) e
 simp only [S_data] at this
 rw [enc_drop hk] at this
 exact line_ne _ _ _ this
def zq24 := And.intro @List.length_append.{0} (And.intro @List.length_cons.{0} (And.intro @List.length_map.{0, 0} (And.intro @List.length_nil.{0} (And.intro @decide_eq_true_eq (@Go.Eng.inR.eq_1)))))
theorem lines33_ok (n : Int) (es : RS) (hes : RsOk n es) (hrd : ∀ x, x ∈ es → SpG g 41 [.c (.d (.s (S x.1)))] [] (.tup [(true, [.d (.i ((itOf x.1).id)), .d (.i ((itOf x.1).author)), .d (.i ((itOf x.1).rank)), .d (.i ((itOf x.1).time)), .d (.i ((itOf x.1).kind)), .d (.sl 7 (tvsD ((itOf x.1).input))), .d (.i (tvK ((itOf x.1).output))), .d (.s (S (tvS ((itOf x.1).output)))), .d (.i 0), .d (.i 0), .d (.i 0), .d (.sl 1 (([] : List (List V.D)))), .d (.sl 1 (([] : List (List V.D)))), .d (.s (S (itOf x.1).prop)), .d (.s (S (itOf x.1).param)), .d (.sl 1 (intsD ((itOf x.1).program)))]), (false, [.d (.b true)])]) []) :
  SpG g 20 [.c (.d (.s (S (encT es)))), .c (.d (.i n))] [] (.tup [(false, [.d (.sl 2 (versD es))]), (false, [.d (.b true)])]) [] := by
 have hle0 := hes.len
 refine enterB 108 Tryz.func20 (by kernel_rfl) fun fr hG => ?_
 refine zA hG [] [0, 0, 1, 1] (⟨[(0, [], .c (.d (.s (S (encT es))))), (1, [], .c (.d (.i n))), (4, [], .c (.d (.nil))), (5, [], .c (.d (.b false))), (6, [], .c (.d (.nil)))], []⟩) [(6, 9003, 53, 2)] [] (fun (zz : Nat × ByteArray × List (List V.D)) => match zz with | (k, s, eb) => (es.length - k, ⟨[(0, [], .c (.d (.s s))), (1, [], .c (.d (.i n))), (4, [], .c (.d (.nil))), (5, [], .c (.d (.b false))), (6, [], .c (.ar 9003 0))], [(9003, .arr 0 53 2 (eb))]⟩, k ≤ es.length ∧ s = S (encT (es.drop k)) ∧ eb = versD (es.take k))) (0, S (encT es), []) (by kernel_rfl) conj0 (by kernel_rfl) (by kernel_rfl) ?_ ?_
 ·exact ⟨Nat.zero_le _, rfl, rfl⟩
 rintro ⟨k, s, eb⟩ ⟨hk, hs, heb⟩
 have hel : eb.length = k := by rw [heb, vers_len, List.length_take]; omega
 have hle := hes.len
 have hen := enc_dlen hes k
 refine zc hG [] [1, 0] (!((s).toList == (S []).toList)) (by kernel_rfl) conj0 (fun hc2 => ?_) (fun hc2 => ?_)
 ·(try simp only [zq8] at hc2)
  have hkl : k < es.length := by
   rcases Nat.lt_or_ge k es.length with h | h
   ·exact h
   ·exact absurd hc2 (by rw [hs, List.drop_of_length_le h]; simp [encT])
  have hs2 := ln_split hkl hs
  have hm := getD_mem (z := (([], false) : List UInt8 × Bool)) hkl
  have htl := hes.tlen hm
  have hau := hes.au _ hm
  have hhl := hd_len (es.getD k ([], false)).2 htl
  have hsz := ln_size hs2
  have hb0 := ln_b0 hs2
  have hss : s.size ≤ 800400000 := by rw [hs, S_size]; exact hen
  refine zc hG [] [1, 0, 0, 1] ((!decide ((byteAt (s) 0 : Int) = 43)) && (!decide ((byteAt (s) 0 : Int) = 45))) (by kernel_rfl) (conjC (show (0 : Int) ≤ 0 ∧ 0 < ((s).size : Int) from (by intros; (try simp only [zq24, versD] at *); omega)) (conj1 (show (!decide ((byteAt (s) 0 : Int) = 43)) = true → (0 : Int) ≤ 0 ∧ 0 < ((s).size : Int) from (by intros; (try simp only [zq24, versD] at *); omega)))) (fun hc3 => ?_) (fun hc3 => ?_)
  ·(try simp only [zq8] at hc3)
   exfalso; rw [hb0] at hc3; revert hc3; cases (es.getD k ([], false)).2 <;> simp
  ·(try simp only [zq8] at hc3)
   refine zL hG [] [0, 0, 1, 1, 0, 1] (fun (zz : Nat) => match zz with | q => ((hdT (es.getD k ([], false)).1 (es.getD k ([], false)).2).length - q, ⟨[(0, [], .c (.d (.s s))), (1, [], .c (.d (.i n))), (4, [], .c (.d (.nil))), (5, [], .c (.d (.b false))), (6, [], .c (.ar 9003 0)), (7, [], .c (.d (.i (q : Int))))], [(9003, .arr 0 53 2 (eb))]⟩, 1 ≤ q ∧ q ≤ (hdT (es.getD k ([], false)).1 (es.getD k ([], false)).2).length)) 1 (by kernel_rfl) conj0 (by kernel_rfl) ?_ ?_
   ·exact ⟨Nat.le_refl _, hhl.2⟩
   rintro q ⟨hq1, hq⟩
   refine zc hG [] [1, 0] ((decide (((q : Int) : Int) < ((s).size : Int))) && (!decide ((byteAt (s) (q : Int) : Int) = 58))) (by kernel_rfl) (conj1 (show (decide (((q : Int) : Int) < ((s).size : Int))) = true → (0 : Int) ≤ (q : Int) ∧ (q : Int) < ((s).size : Int) from (by intros; (try simp only [zq24, versD] at *); omega))) (fun hc5 => ?_) (fun hc5 => ?_)
   ·(try simp only [zq8] at hc5)
    have hql := ln_in hs2 hq (by simpa using hc5)
    refine zD hG [] (q + 1) (by kernel_rfl) (conj1 (show inR ((q : Int) + 1) from (by intros; (try simp only [zq24, versD] at *); omega))) ?_ ?_
    ·(try dsimp only); omega
    ·omega
   ·(try simp only [zq8] at hc5)
    have hqe := ln_out hs2 hq (by simpa using hc5)
    refine zE hG [] (.exit 2) (⟨[(0, [], .c (.d (.s s))), (1, [], .c (.d (.i n))), (4, [], .c (.d (.nil))), (5, [], .c (.d (.b false))), (6, [], .c (.ar 9003 0)), (7, [], .c (.d (.i (q : Int))))], [(9003, .arr 0 53 2 (eb))]⟩) (by kernel_rfl) conj0 rfl ?_
    refine zC hG [(8, 3, .call (.tup [(false, [.d (.i (((es.getD k ([], false)).1).length : Int))]), (false, [.d (.b true)])]) [] [])] [1, 0, 1, 1, 1, 1, 0, 1] ((decide (((((es.getD k ([], false)).1).length : Int) : Int) < 0)) || (decide (((((es.getD k ([], false)).1).length : Int) : Int) > ((((s).size : Int) - (q : Int)) - 2)))) (⟨[(0, [], .c (.d (.s s))), (1, [], .c (.d (.i n))), (4, [], .c (.d (.nil))), (5, [], .c (.d (.b false))), (6, [], .c (.ar 9003 0)), (7, [], .c (.d (.i (q : Int)))), (8, [], .c (.d (.i (((es.getD k ([], false)).1).length : Int))))], [(9003, .arr 0 53 2 (eb))]⟩) (by kernel_rfl) (conjC (show (0 : Int) ≤ 1 ∧ (1 : Int) ≤ (q : Int) ∧ (q : Int) ≤ ((s).size : Int) from (by intros; (try simp only [zq24, versD] at *); omega)) (conjC (((show SpG g 40 [.c (.d (.s ((s).extract 1 q)))] [] (.tup [(false, [.d (.i (((es.getD k ([], false)).1).length : Int))]), (false, [.d (.b true)])]) [] from by rw [ln_num hs2 hqe]; exact int_ok _ (nOk_len (by omega))) : SpG g _ _ _ _ _)) (conjC (show (decide (((((es.getD k ([], false)).1).length : Int) : Int) < 0)) = false → inR (((s).size : Int) - (q : Int)) from (by intros; (try simp only [zq24, versD] at *); omega)) (conj1 (show (decide (((((es.getD k ([], false)).1).length : Int) : Int) < 0)) = false → inR ((((s).size : Int) - (q : Int)) - 2) from (by intros; (try simp only [zq24, versD] at *); omega)))))) (fun hc6 => ?_) (fun hc6 => ?_)
    ·(try simp only [zq8] at hc6)
     exfalso; omega
    ·(try simp only [zq8] at hc6)
     refine zC hG [(12, 2, .call (.tup [(true, [.d (.i ((itOf (es.getD k ([], false)).1).id)), .d (.i ((itOf (es.getD k ([], false)).1).author)), .d (.i ((itOf (es.getD k ([], false)).1).rank)), .d (.i ((itOf (es.getD k ([], false)).1).time)), .d (.i ((itOf (es.getD k ([], false)).1).kind)), .d (.sl 7 (tvsD ((itOf (es.getD k ([], false)).1).input))), .d (.i (tvK ((itOf (es.getD k ([], false)).1).output))), .d (.s (S (tvS ((itOf (es.getD k ([], false)).1).output)))), .d (.i 0), .d (.i 0), .d (.i 0), .d (.sl 1 (([] : List (List V.D)))), .d (.sl 1 (([] : List (List V.D)))), .d (.s (S (itOf (es.getD k ([], false)).1).prop)), .d (.s (S (itOf (es.getD k ([], false)).1).param)), .d (.sl 1 (intsD ((itOf (es.getD k ([], false)).1).program)))]), (false, [.d (.b true)])]) [] [])] [1, 0, 1, 1, 1, 1, 1, 1, 1, 0, 1] (((decide (((itOf (es.getD k ([], false)).1).author : Int) < 1)) || (decide (((itOf (es.getD k ([], false)).1).author : Int) > n))) || (!decide ((byteAt (s) (((q : Int) + 1) + (((es.getD k ([], false)).1).length : Int)) : Int) = 10))) (⟨[(0, [], .c (.d (.s s))), (1, [], .c (.d (.i n))), (4, [], .c (.d (.nil))), (5, [], .c (.d (.b false))), (6, [], .c (.ar 9003 0)), (7, [], .c (.d (.i (q : Int)))), (8, [], .c (.d (.i (((es.getD k ([], false)).1).length : Int)))), (10, [], .c (.bx 1212 0))], [(1212, .box 53 [.d (.s ((s).extract ((q : Int) + 1 : Int).toNat (((q : Int) + 1) + (((es.getD k ([], false)).1).length : Int) : Int).toNat)), .d (.b (decide ((byteAt (s) 0 : Int) = 45)))]), (9003, .arr 0 53 2 (eb))]⟩) (by kernel_rfl) (conjC (show inR ((q : Int) + 1) from (by intros; (try simp only [zq24, versD] at *); omega)) (conjC (show inR ((q : Int) + 1) from (by intros; (try simp only [zq24, versD] at *); omega)) (conjC (show inR (((q : Int) + 1) + (((es.getD k ([], false)).1).length : Int)) from (by intros; (try simp only [zq24, versD] at *); omega)) (conjC (show (0 : Int) ≤ ((q : Int) + 1) ∧ ((q : Int) + 1 : Int) ≤ (((q : Int) + 1) + (((es.getD k ([], false)).1).length : Int)) ∧ (((q : Int) + 1) + (((es.getD k ([], false)).1).length : Int)) ≤ ((s).size : Int) from (by intros; (try simp only [zq24, versD] at *); omega)) (conjC (show (0 : Int) ≤ 0 ∧ 0 < ((s).size : Int) from (by intros; (try simp only [zq24, versD] at *); omega)) (conjC (((show SpG g 41 [.c (.d (.s ((s).extract ((q : Int) + 1 : Int).toNat (((q : Int) + 1) + (((es.getD k ([], false)).1).length : Int) : Int).toNat)))] [] (.tup [(true, [.d (.i ((itOf (es.getD k ([], false)).1).id)), .d (.i ((itOf (es.getD k ([], false)).1).author)), .d (.i ((itOf (es.getD k ([], false)).1).rank)), .d (.i ((itOf (es.getD k ([], false)).1).time)), .d (.i ((itOf (es.getD k ([], false)).1).kind)), .d (.sl 7 (tvsD ((itOf (es.getD k ([], false)).1).input))), .d (.i (tvK ((itOf (es.getD k ([], false)).1).output))), .d (.s (S (tvS ((itOf (es.getD k ([], false)).1).output)))), .d (.i 0), .d (.i 0), .d (.i 0), .d (.sl 1 (([] : List (List V.D)))), .d (.sl 1 (([] : List (List V.D)))), .d (.s (S (itOf (es.getD k ([], false)).1).prop)), .d (.s (S (itOf (es.getD k ([], false)).1).param)), .d (.sl 1 (intsD ((itOf (es.getD k ([], false)).1).program)))]), (false, [.d (.b true)])]) [] from by rw [ln_txt hs2 hqe]; exact hrd _ hm) : SpG g _ _ _ _ _)) (conjC (show ((decide (((itOf (es.getD k ([], false)).1).author : Int) < 1)) || (decide (((itOf (es.getD k ([], false)).1).author : Int) > n))) = false → inR ((q : Int) + 1) from (by intros; (try simp only [zq24, versD] at *); omega)) (conjC (show ((decide (((itOf (es.getD k ([], false)).1).author : Int) < 1)) || (decide (((itOf (es.getD k ([], false)).1).author : Int) > n))) = false → inR (((q : Int) + 1) + (((es.getD k ([], false)).1).length : Int)) from (by intros; (try simp only [zq24, versD] at *); omega)) (conj1 (show ((decide (((itOf (es.getD k ([], false)).1).author : Int) < 1)) || (decide (((itOf (es.getD k ([], false)).1).author : Int) > n))) = false → (0 : Int) ≤ (((q : Int) + 1) + (((es.getD k ([], false)).1).length : Int)) ∧ (((q : Int) + 1) + (((es.getD k ([], false)).1).length : Int)) < ((s).size : Int) from (by intros; (try simp only [zq24, versD] at *); omega))))))))))) (fun hc7 => ?_) (fun hc7 => ?_)
     ·(try simp only [zq8] at hc7)
      exfalso; rw [ln_end hs2 hqe] at hc7; simp [-List.getD_eq_getElem?_getD] at hc7; omega
     ·(try simp only [zq8] at hc7)
      refine zD hG [] (k + 1, (s).extract (((q : Int) + (((es.getD k ([], false)).1).length : Int)) + 2 : Int).toNat (s).size, eb ++ ([[.s ((s).extract ((q : Int) + 1 : Int).toNat (((q : Int) + 1) + (((es.getD k ([], false)).1).length : Int) : Int).toNat), .b (decide ((byteAt (s) 0 : Int) = 45))]] : List (List V.D))) (by kernel_rfl) (conjC (show ((eb).length + (([[.s ((s).extract ((q : Int) + 1 : Int).toNat (((q : Int) + 1) + (((es.getD k ([], false)).1).length : Int) : Int).toNat), .b (decide ((byteAt (s) 0 : Int) = 45))]] : List (List V.D))).length) * (24 + 1) ≤ 140737488355328 from (by intros; (try simp only [zq24, versD] at *); omega)) (conjC (show inR ((q : Int) + (((es.getD k ([], false)).1).length : Int)) from (by intros; (try simp only [zq24, versD] at *); omega)) (conjC (show inR (((q : Int) + (((es.getD k ([], false)).1).length : Int)) + 2) from (by intros; (try simp only [zq24, versD] at *); omega)) (conj1 (show (0 : Int) ≤ (((q : Int) + (((es.getD k ([], false)).1).length : Int)) + 2) ∧ (((q : Int) + (((es.getD k ([], false)).1).length : Int)) + 2 : Int) ≤ ((s).size : Int) ∧ ((s).size : Int) ≤ ((s).size : Int) from (by intros; (try simp only [zq24, versD] at *); omega)))))) ?_ ?_
      ·(try dsimp only); omega
      ·refine ⟨by omega, ln_rest hs2 hqe, ?_⟩
       rw [heb, vers_step hkl, ln_txt hs2 hqe, ln_dec hs2]
 ·(try simp only [zq8] at hc2)
  have hkl : k = es.length := by
   rcases Nat.lt_or_ge k es.length with h | h
   ·exact absurd (by have h9 := hc2; rw [hs, S_eqv] at h9; rw [hs, h9]) (ln_ne h hs)
   ·omega
  refine zE hG [] (.exit 0) (⟨[(4, [], .c (.d (.nil))), (5, [], .c (.d (.b false))), (6, [], .c (.ar 9003 0))], [(9003, .arr 0 53 2 (eb))]⟩) (by kernel_rfl) conj0 rfl ?_
  refine stepRL hG hmix [] [] (.tup [(false, [.d (.sl 2 (eb))]), (false, [.d (.b true)])]) [] (by kernel_rfl) conj0 ?_ ?_
  ·rw [heb, List.take_of_length_le (by omega)]
  ·first | rfl | (funext i; simp only [lookO_cons, upd]; ((repeat' split) <;> first | rfl | (exfalso; omega)))
end Go.Proofs.YtclaplngjmgnoaaGreatDoor
namespace Go.Proofs.YtclaplngjmgnoaaGreatDoor
open Go.RowKit Go.V
open Go.Eng (inR byteAt u8 bytesV)
variable {g : Gv}
theorem ins_perm {k : List UInt8} {v : Bool} : ∀ (es : RS), (insK ltS k v es).Perm ((k, v) :: es)
 | [] => List.Perm.refl _
 | y :: r => by
  simp only [insK]
  split
  ·exact List.Perm.refl _
  ·exact (List.Perm.cons y (ins_perm r)).trans (List.Perm.swap _ _ _)
theorem upd_new {k : List UInt8} {v : Bool} {es : RS} (h : (lkM k es).isSome = false) : (updM ltS k v es).Perm ((k, v) :: es) := by
 unfold updM
 rw [if_neg (by rw [h]; decide)]
 exact ins_perm es
def limI (a : Int) (k : Nat) : It := itW (1 + (k : Int)) a 0
noncomputable def gvS (a : Int) (es : RS) : Nat → RS
 | 0 => es
 | k + 1 => giveS a (gvS a es k) (limI a k)
theorem lim_ok {a : Int} (ha : nOk a) {k : Nat} (hk : k ≤ 1000) : ItOk (limI a k) := itW_ok ⟨by omega, by omega⟩ ha (n_lit (by decide))
theorem lim_inj {a b : Int} (ha : nOk a) (hb : nOk b) {j k : Nat} (hj : j ≤ 1000) (hk : k ≤ 1000) (h : itT (limI a j) = itT (limI b k)) : a = b ∧ j = k := by
 have h1 := itOf_it (lim_ok ha hj)
 have h2 := itOf_it (lim_ok hb hk)
 rw [h, h2] at h1
 have e1 := congrArg It.id h1
 have e2 := congrArg It.author h1
 simp only [limI, itW] at e1 e2
 exact ⟨e2.symm, by omega⟩
structure GvOk (a : Int) (es : RS) (k : Nat) (fs : RS) : Prop where
 rs : RsOk 2 fs
 keys : ∀ x, x ∈ fs.map (·.1) ↔ x ∈ es.map (·.1) ∨ ∃ j, j < min k 30 ∧ x = itT (limI a j)
 own : ownC a fs = min k 30
 len : fs.length = es.length + min k 30
theorem gv_ok {a : Int} {es : RS} (ha : a = 1 ∨ a = 2) (hes : RsOk 2 es) (hl : es.length ≤ 100) (h0 : ownC a es = 0) (hk0 : ∀ j, j ≤ 40 → ¬ itT (limI a j) ∈ es.map (·.1)) :
  ∀ k, k ≤ 33 → GvOk a es k (gvS a es k) ∧ giveE a (gvS a es k) (limI a k) = (if (k : Int) < 30 then 0 else 2) := by
 have han : nOk a := by rcases ha with rfl | rfl <;> exact n_lit (by decide)
 have hE : ∀ k fs, k ≤ 33 → GvOk a es k fs → (lkM (itT (limI a k)) fs).isSome = false ∧ giveE a fs (limI a k) = (if (k : Int) < 30 then 0 else 2) ∧ giveS a fs (limI a k) = (if (k : Int) < 30 then updM ltS (itT (limI a k)) false fs else fs) := by
  intro k fs hk h
  have hn : (lkM (itT (limI a k)) fs).isSome = false := by
   cases hh : (lkM (itT (limI a k)) fs).isSome with
   | false => rfl
   | true =>
    rcases (h.keys _).1 (lk_some_mem.1 hh) with h1 | ⟨j, h1, h2⟩
    ·exact absurd h1 (hk0 k (by omega))
    ·have := (lim_inj han han (by omega) (by omega) h2).2
     omega
  refine ⟨hn, ?_⟩
  have hau : (limI a k).author = a := rfl
  by_cases hlt : (k : Int) < 30
  ·have := give_yes hau hn (by rw [h.own]; omega)
   rw [if_pos hlt, if_pos hlt]; exact this
  ·have := give_many hau hn (by rw [h.own]; omega)
   rw [if_neg hlt, if_neg hlt]; exact this
 have go : ∀ k, k ≤ 33 → GvOk a es k (gvS a es k) := by
  intro k
  induction k with
  | zero => intro _; exact ⟨hes, fun x => by simp [gvS], by simpa [gvS] using h0, by simp [gvS]⟩
  | succ k ih =>
   intro hk
   have h := ih (by omega)
   obtain ⟨h1, h2, h3⟩ := hE k _ (by omega) h
   have e : gvS a es (k + 1) = giveS a (gvS a es k) (limI a k) := rfl
   rw [e, h3]
   by_cases hlt : (k : Int) < 30
   ·rw [if_pos hlt]
    obtain ⟨g1, g2, g3, g4⟩ := upd_keys (k := itT (limI a k)) (v := false) h.rs.sort
    have hp := upd_new (v := false) h1
    have hlen := hp.length_eq
    rw [List.length_cons, h.len] at hlen
    have hof := itOf_it (lim_ok han (k := k) (by omega))
    have hmem : ∀ x, x ∈ updM ltS (itT (limI a k)) false (gvS a es k) → x = (itT (limI a k), false) ∨ x ∈ gvS a es k := fun x hx => by
     have := hp.mem_iff.1 hx
     simpa using this
    refine ⟨⟨g1, by omega, fun x hx => ?_, fun x hx => ?_⟩, fun x => ?_, ?_, by omega⟩
    ·rcases hmem x hx with rfl | hx
     ·exact ⟨limI a k, lim_ok han (by omega), rfl⟩
     ·exact h.rs.it x hx
    ·rcases hmem x hx with rfl | hx
     ·show 1 ≤ (itOf (itT (limI a k))).author ∧ _
      rw [hof]
      show 1 ≤ a ∧ a ≤ 2
      rcases ha with rfl | rfl <;> decide
     ·exact h.rs.au x hx
    ·rw [g2 x, h.keys x]
     constructor
     ·rintro (rfl | h | ⟨j, hj, rfl⟩)
      ·exact .inr ⟨k, by omega, rfl⟩
      ·exact .inl h
      ·exact .inr ⟨j, by omega, rfl⟩
     ·rintro (h | ⟨j, hj, rfl⟩)
      ·exact .inr (.inl h)
      ·rcases Nat.lt_or_ge j k with h | h
       ·exact .inr (.inr ⟨j, by omega, rfl⟩)
       ·have : j = k := by omega
        subst this; exact .inl rfl
    ·rw [own_perm hp]
     have hou := h.own
     unfold ownC at hou ⊢
     have hd : decide ((itOf (itT (limI a k))).author = a) = true := by
      rw [hof]; exact decide_eq_true rfl
     rw [List.filter_cons, if_pos hd, List.length_cons, hou]
     omega
   ·rw [if_neg hlt]
    have e1 : min (k + 1) 30 = min k 30 := by omega
    exact ⟨h.rs, fun x => by rw [e1]; exact h.keys x, by rw [e1]; exact h.own, by rw [e1]; exact h.len⟩
 exact fun k hk => ⟨go k hk, (hE k _ hk (go k hk)).2.1⟩
theorem gv_same {a : Int} {es : RS} {k : Nat} (h : giveE a (gvS a es k) (limI a k) = 2) : gvS a es (k + 1) = gvS a es k := by
 show giveS a (gvS a es k) (limI a k) = _
 rw [giveS, h, if_neg (by decide)]
theorem n1 : nOk 1 := n_lit (by decide)
theorem n2 : nOk 2 := n_lit (by decide)
theorem gvB {k : Nat} (hk : k ≤ 33) : GvOk 2 [] k (gvS 2 [] k) ∧ giveE 2 (gvS 2 [] k) (limI 2 k) = (if (k : Int) < 30 then 0 else 2) :=
 gv_ok (.inr rfl) (rs0 2) (by simp) (by simp [ownC]) (by simp) k hk
theorem gvB_keys {k : Nat} (hk : k ≤ 33) {x : List UInt8 × Bool} (hx : x ∈ gvS 2 [] k) : ∃ j, j < 30 ∧ x.1 = itT (limI 2 j) := by
 rcases ((gvB hk).1.keys x.1).1 (List.mem_map_of_mem hx) with h | ⟨j, hj, h⟩
 ·simp at h
 ·exact ⟨j, by omega, h⟩
theorem gvA {m : Nat} (hm : m ≤ 33) {k : Nat} (hk : k ≤ 33) : GvOk 1 (gvS 2 [] m) k (gvS 1 (gvS 2 [] m) k) ∧ giveE 1 (gvS 1 (gvS 2 [] m) k) (limI 1 k) = (if (k : Int) < 30 then 0 else 2) := by
 have hB := (gvB hm).1
 refine gv_ok (.inl rfl) hB.rs (by have := hB.len; simp only [List.length_nil] at this; omega) ?_ ?_ k hk
 ·unfold ownC
  rw [List.length_eq_zero_iff, List.filter_eq_nil_iff]
  intro x hx
  obtain ⟨j, hj, h⟩ := gvB_keys hm hx
  rw [h, itOf_it (lim_ok n2 (by omega))]
  simp [limI, itW]
 ·intro j hj h
  obtain ⟨x, hx, h2⟩ := List.mem_map.1 h
  obtain ⟨i, hi, h3⟩ := gvB_keys hm hx
  have := (lim_inj n2 n1 (by omega) (by omega) (h3.symm.trans h2)).1
  omega
theorem jn_none {es : RS} (h : kSort es) : jnV [] es = es ∧ moreB [] es = false := by
 have e : jnV [] es = es := by
  obtain ⟨h1, h2, _⟩ := jn_ok (es := []) List.Pairwise.nil es h.nodup
  refine k_ext h1 h fun n => ?_
  rw [h2 n]; rfl
 refine ⟨e, ?_⟩
 unfold moreB
 rw [e, List.any_eq_false]
 intro x hx
 have : lineT x.1 x.2 ∈ es.map fun x => lineT x.1 x.2 := List.mem_map_of_mem hx
 simp [this]
theorem gvA_read {m : Nat} (hm : m ≤ 33) {k : Nat} (hk : k ≤ 33) : ∀ x, x ∈ gvS 1 (gvS 2 [] m) k → SpG g 41 [.c (.d (.s (S x.1)))] [] (.tup [(true, [.d (.i ((itOf x.1).id)), .d (.i ((itOf x.1).author)), .d (.i ((itOf x.1).rank)), .d (.i ((itOf x.1).time)), .d (.i ((itOf x.1).kind)), .d (.sl 7 (tvsD ((itOf x.1).input))), .d (.i (tvK ((itOf x.1).output))), .d (.s (S (tvS ((itOf x.1).output)))), .d (.i 0), .d (.i 0), .d (.i 0), .d (.sl 1 (([] : List (List D)))), .d (.sl 1 (([] : List (List D)))), .d (.s (S (itOf x.1).prop)), .d (.s (S (itOf x.1).param)), .d (.sl 1 (intsD ((itOf x.1).program)))]), (false, [.d (.b true)])]) [] := by
 intro x hx
 obtain ⟨i, hi, e⟩ : ∃ i : It, (∃ a : Int, ∃ j : Nat, nOk a ∧ j ≤ 1000 ∧ i = limI a j) ∧ x.1 = itT i := by
  rcases ((gvA hm hk).1.keys x.1).1 (List.mem_map_of_mem hx) with h | ⟨j, hj, h⟩
  ·obtain ⟨y, hy, h2⟩ := List.mem_map.1 h
   obtain ⟨j, hj, h3⟩ := gvB_keys hm hy
   exact ⟨limI 2 j, ⟨2, j, n2, by omega, rfl⟩, h2 ▸ h3⟩
  ·exact ⟨limI 1 j, ⟨1, j, n1, by omega, rfl⟩, h⟩
 obtain ⟨a, j, ha, hj, rfl⟩ := hi
 rw [e, itOf_it (lim_ok ha hj)]
 exact read_itW (lim_ok ha hj)
theorem pos33 {n : Int} (h : 0 ≤ n) : 0 ≤ Int.tmod n 33 ∧ Int.tmod n 33 < 33 := by
 have h2 := Int.tmod_eq_emod_of_nonneg (a := n) (b := 33) (by omega)
 omega
theorem one_at {q : Nat} {x : List D} (h : (q : Int) < 1) : (0 : Int) ≤ (q : Int) ∧ [x][q]? = some x := by
 have h0 : q = 0 := by omega
 subst h0; exact ⟨by decide, rfl⟩
theorem lim_same {j k : Nat} (hj : j ≤ 33) (hk : k ≤ 33) {ea : RS} (he : ea = gvS 1 (gvS 2 [] j) k) (h30 : ¬ (k : Int) < 30) : gvS 1 (gvS 2 [] j) (k + 1) = ea := by
 rw [he]
 exact gv_same (by rw [(gvA hj hk).2, if_neg h30])
theorem lim_len {j k : Nat} (hj : j ≤ 33) (hk : k ≤ 33) {ea : RS} (he : ea = gvS 1 (gvS 2 [] j) k) : ea.length = min j 30 + min k 30 := by
 rw [he, (gvA hj hk).1.len, (gvB hj).1.len]; simp
def zq25 := And.intro @decide_eq_true_eq (@Go.Eng.inR.eq_1)
theorem limits_ok (x y : Int) (hx : 0 ≤ x ∧ x < 256) (hy : 0 ≤ y ∧ y < 256) :
  SpG g 7 [.c (.d (.y x)), .c (.d (.y y))] [] (.c (.d (.b true))) [] := by
 obtain ⟨m, hme⟩ : ∃ m : Nat, m = (Int.tmod y 33).toNat := ⟨_, rfl⟩
 obtain ⟨m1, hm1e⟩ : ∃ m : Nat, m = (Int.tmod x 33).toNat := ⟨_, rfl⟩
 have hyy := pos33 hy.1
 have hxx := pos33 hx.1
 have hm : m ≤ 33 := by omega
 have hm1 : m1 ≤ 33 := by omega
 have hwy : IntKind.wrap .i64 (Int.tmod y 33) = (m : Int) := by rw [wrap64 (by unfold inR; omega)]; omega
 have hwx : IntKind.wrap .i64 (Int.tmod x 33) = (m1 : Int) := by rw [wrap64 (by unfold inR; omega)]; omega
 refine enterB 104 Tryz.func7 (by kernel_rfl) fun fr hG => ?_
 refine zC hG [(1, 0, .call (.c (.d (.b true))) [] []), (2, 0, .callG (.c (.bx 100 0)) [] [(100, .box 73 [.d (.i 1), .d (.i 2), .mp 102]), (102, .box ⟨.mpb ([]), none⟩ [])]), (2, 1, .callG (.c (.bx 100 0)) [] [(100, .box 73 [.d (.i 2), .d (.i 2), .mp 102]), (102, .box ⟨.mpb ([]), none⟩ [])])] [1, 0, 1, 1, 1] (false) (⟨[(0, [], .c (.d (.y x))), (1, [], .c (.d (.y y))), (4, [], .c (.d (.b false))), (5, [], .c (.d (.b true))), (6, [], .c (.bx 300 0)), (7, [], .c (.bx 301 0))], [(300, .box 73 [.d (.i 1), .d (.i 2), .mp 302]), (301, .box 73 [.d (.i 2), .d (.i 2), .mp 303]), (302, .box ⟨.mpb ([]), none⟩ []), (303, .box ⟨.mpb ([]), none⟩ [])]⟩) (by kernel_rfl) (conjC ((sanity_ok : SpG g _ _ _ _ _)) (conjC ((new2_ok 1 2 (by decide) : SpG g _ _ _ _ _)) (conj1 ((new2_ok 2 2 (by decide) : SpG g _ _ _ _ _))))) (fun hc1 => absurd hc1 (by decide)) (fun _ => ?_)
 refine zL hG [] [0, 1, 0, 1, 1, 1, 1] (fun (zz : Nat) => match zz with | j => (m - j, ⟨[(0, [], .c (.d (.y x))), (1, [], .c (.d (.y y))), (4, [], .c (.d (.b false))), (5, [], .c (.d (.b true))), (6, [], .c (.bx 300 0)), (7, [], .c (.bx 301 0)), (8, [], .c (.d (.i (j : Int))))], [(300, .box 73 [.d (.i 1), .d (.i 2), .mp 302]), (301, .box 73 [.d (.i 2), .d (.i 2), .mp 303]), (302, .box ⟨.mpb ([]), none⟩ []), (303, .box ⟨.mpb (gvS 2 [] j), none⟩ [])]⟩, j ≤ m)) 0 (by kernel_rfl) conj0 (by kernel_rfl) ?_ ?_
 ·exact Nat.zero_le _
 rintro j hj
 have hj2 : j ≤ 33 := by omega
 refine zc hG [] [1, 0] (decide (((j : Int) : Int) < (IntKind.wrap .i64 (Int.tmod y 33)))) (by kernel_rfl) conj0 (fun hc3 => ?_) (fun hc3 => ?_)
 ·(try simp only [blS, hwx, hwy] at hc3)
  refine zD hG [(8, 5, .callG (.c (.d (.i (if (j : Int) < 30 then 0 else 2)))) [301, 303] [(0, .box 73 [.d (.i 2), .d (.i 2), .mp 1]), (1, .box ⟨.mpb (gvS 2 [] (j + 1)), none⟩ [])])] (j + 1) (by kernel_rfl) (conjC (show inR (1 + (j : Int)) from (by intros; (try rw [hwx]); (try rw [hwy]); (try simp only [zq25] at *); omega)) (conjC ((give_w 2 2 (gvS 2 [] j) (gvS 2 [] (j + 1)) (1 + (j : Int)) 2 0 (if (j : Int) < 30 then 0 else 2) (gvB (k := j) (by omega)).1.rs (lim_ok n2 (by omega)) ⟨(gvB (k := j) (by omega)).2, rfl⟩ : SpG g _ _ _ _ _)) (conj1 (show inR ((j : Int) + 1) from (by intros; (try rw [hwx]); (try rw [hwy]); (try simp only [zq25] at *); omega))))) ?_ ?_
  ·(try dsimp only); omega
  ·omega
 ·(try simp only [blS, hwx, hwy] at hc3)
  have hjm : j = m := by omega
  refine zE hG [] (.exit 0) (⟨[(0, [], .c (.d (.y x))), (1, [], .c (.d (.y y))), (4, [], .c (.d (.b false))), (5, [], .c (.d (.b true))), (6, [], .c (.bx 300 0)), (7, [], .c (.bx 301 0))], [(300, .box 73 [.d (.i 1), .d (.i 2), .mp 302]), (301, .box 73 [.d (.i 2), .d (.i 2), .mp 303]), (302, .box ⟨.mpb ([]), none⟩ []), (303, .box ⟨.mpb (gvS 2 [] j), none⟩ [])]⟩) (by kernel_rfl) conj0 rfl ?_
  refine zL hG [(9, 1, .callG (.c (.d (.sl 3 (([[.i 2, .i 1, .s (S (encT (gvS 2 [] j)))]] : List (List V.D)))))) [301, 303] [(0, .box 73 [.d (.i 2), .d (.i 2), .mp 1]), (1, .box ⟨.mpb (gvS 2 [] j), none⟩ [])])] [0, 1, 0, 1, 1, 1, 1, 1] (fun (zz : Nat × RS) => match zz with | (q, em) => (1 - q, ⟨[(0, [], .c (.d (.y x))), (1, [], .c (.d (.y y))), (4, [], .c (.d (.b false))), (5, [], .c (.d (.b true))), (6, [], .c (.bx 300 0)), (39, [], .c (.d (.sl 3 (([[.i 2, .i 1, .s (S (encT (gvS 2 [] j)))]] : List (List V.D)))))), (40, [], .c (.d (.i 1))), (41, [], .c (.d (.i (q : Int))))], [(300, .box 73 [.d (.i 1), .d (.i 2), .mp 302]), (302, .box ⟨.mpb (em), none⟩ [])]⟩, q ≤ 1 ∧ em = if q = 0 then [] else gvS 2 [] j)) (0, []) (by kernel_rfl) (conj1 ((tick_w 2 2 (gvS 2 [] j) _ (gvB hj2).1.rs (by decide) (by decide) rfl : SpG g _ _ _ _ _))) (by kernel_rfl) ?_ ?_
  ·exact ⟨by omega, rfl⟩
  rintro ⟨q, em⟩ ⟨hq, hem⟩
  refine zc hG [] [0, 1] (decide (((q : Int) : Int) < 1)) (by kernel_rfl) conj0 (fun hc5 => ?_) (fun hc5 => ?_)
  ·(try simp only [blS, hwx, hwy] at hc5)
   have hem0 : em = [] := by rw [hem, if_pos (by omega)]
   refine zD hG [(11, 0, .elem ([.i 2, .i 1, .s (S (encT (gvS 2 [] j)))])), (12, 2, .callG (.c (.d (.nil))) [300, 302] [(0, .box 73 [.d (.i 1), .d (.i 2), .mp 1]), (1, .box ⟨.mpb (gvS 2 [] j), none⟩ [])])] (q + 1, gvS 2 [] j) (by kernel_rfl) (conjC (show (0 : Int) ≤ (q : Int) ∧ (([[.i 2, .i 1, .s (S (encT (gvS 2 [] j)))]] : List (List V.D)))[q]? = some ([.i 2, .i 1, .s (S (encT (gvS 2 [] j)))]) from (by intros; exact one_at (by omega))) (conjC ((take_l 1 2 2 em (gvS 2 [] j) (gvS 2 [] j) (by rw [hem0]; exact rs0 2) (gvB hj2).1.rs (by have := (gvB hj2).1.len; rw [hem0, this]; simp; omega) (by decide) (by decide) (by decide) (by rw [hem0]; exact jn_none (gvB hj2).1.rs.sort) : SpG g _ _ _ _ _)) (conj1 (show inR ((q : Int) + 1) from (by intros; (try rw [hwx]); (try rw [hwy]); (try simp only [zq25] at *); omega))))) ?_ ?_
   ·(try dsimp only); omega
   ·exact ⟨by omega, by rw [if_neg (by omega)]⟩
  ·(try simp only [blS, hwx, hwy] at hc5)
   rw [if_neg (by omega)] at hem
   refine zE hG [] (.exit 2) (⟨[(0, [], .c (.d (.y x))), (1, [], .c (.d (.y y))), (4, [], .c (.d (.b false))), (5, [], .c (.d (.b true))), (6, [], .c (.bx 300 0))], [(300, .box 73 [.d (.i 1), .d (.i 2), .mp 302]), (302, .box ⟨.mpb (em), none⟩ [])]⟩) (by kernel_rfl) conj0 rfl ?_
   refine zL hG [] [0, 1, 0, 1, 1, 1, 1, 1, 1] (fun (zz : Nat × RS) => match zz with | (k, ea) => (m1 - k, ⟨[(0, [], .c (.d (.y x))), (1, [], .c (.d (.y y))), (4, [], .c (.d (.b false))), (5, [], .c (.d (.b true))), (6, [], .c (.bx 300 0)), (11, [], .c (.d (.i (k : Int))))], [(300, .box 73 [.d (.i 1), .d (.i 2), .mp 302]), (302, .box ⟨.mpb (ea), none⟩ [])]⟩, k ≤ m1 ∧ ea = gvS 1 (gvS 2 [] j) k)) (0, em) (by kernel_rfl) conj0 (by kernel_rfl) ?_ ?_
   ·exact ⟨Nat.zero_le _, hem⟩
   rintro ⟨k, ea⟩ ⟨hk, hea⟩
   refine zc hG [] [1, 0] (decide (((k : Int) : Int) < (IntKind.wrap .i64 (Int.tmod x 33)))) (by kernel_rfl) conj0 (fun hc7 => ?_) (fun hc7 => ?_)
   ·(try simp only [blS, hwx, hwy] at hc7)
    rcases Classical.em ((k : Int) < 30) with h30 | h30
    ·skip
     refine zC hG [(17, 1, .callG (.c (.d (.s (S (encT ea))))) [300, 302] ((99999, .box 0 []) :: [(0, .box 73 [.d (.i 1), .d (.i 2), .mp 1]), (1, .box ⟨.mpb (ea), none⟩ [])])), (18, 5, .callG (.c (.d (.i 0))) [300, 302] [(0, .box 73 [.d (.i 1), .d (.i 2), .mp 1]), (1, .box ⟨.mpb (gvS 1 (gvS 2 [] j) (k + 1)), none⟩ [])]), (19, 13, .dead (.c (.d (.b false)))), (19, 15, .dead (.c (.d (.b false))))] [1, 1, 1, 0, 0, 1] ((!(true == (decide (((k : Int) : Int) < 30)))) && true) (⟨[(0, [], .c (.d (.y x))), (1, [], .c (.d (.y y))), (4, [], .c (.d (.b false))), (5, [], .c (.d (.b true))), (6, [], .c (.bx 300 0)), (11, [], .c (.d (.i (k : Int))))], [(300, .box 73 [.d (.i 1), .d (.i 2), .mp 302]), (302, .box ⟨.mpb (gvS 1 (gvS 2 [] j) (k + 1)), none⟩ [])]⟩) (by kernel_rfl) (conjC (And.intro (And.intro (rfl : (some (.box 73 [.d (.i 1), .d (.i 2), .mp 302]) : Option Ob) = some (.box 73 [.d (.i 1), .d (.i 2), .mp 302])) (And.intro (rfl : (some (.box ⟨.mpb (ea), none⟩ []) : Option Ob) = some (.box ⟨.mpb (ea), none⟩ [])) (trivial))) (rfl : true = true)) (conjC ((encode_ok 1 2 ea (by rw [hea]; exact (gvA hj2 (k := k) (by omega)).1.rs) : SpG g _ _ _ _ _)) (conjC (show inR (1 + (k : Int)) from (by intros; (try rw [hwx]); (try rw [hwy]); (try simp only [zq25] at *); omega)) (conjC ((give_w 1 2 ea (gvS 1 (gvS 2 [] j) (k + 1)) (1 + (k : Int)) 1 0 0 (by rw [hea]; exact (gvA hj2 (k := k) (by omega)).1.rs) (lim_ok n1 (by omega)) ⟨by rw [hea]; exact ((gvA hj2 (k := k) (by omega)).2).trans (if_pos h30), by rw [hea] <;> rfl⟩ : SpG g _ _ _ _ _)) (conjC (show ¬ (true = false ∧ false = true ∧ (!(true == (decide (((k : Int) : Int) < 30)))) = false ∧ True) from (fun h => absurd h.1 (by decide))) (conj1 (show ¬ (true = false ∧ false = true ∧ (!(true == (decide (((k : Int) : Int) < 30)))) = false ∧ True) from (fun h => absurd h.1 (by decide))))))))) (fun hc8 => ?_) (fun hc8 => ?_)
     ·(try simp only [blS, hwx, hwy] at hc8)
      exfalso; simp [h30] at hc8
     ·(try simp only [blS, hwx, hwy] at hc8)
      refine zD hG [] (k + 1, gvS 1 (gvS 2 [] j) (k + 1)) (by kernel_rfl) (conj1 (show inR ((k : Int) + 1) from (by intros; (try rw [hwx]); (try rw [hwy]); (try simp only [zq25] at *); omega))) ?_ ?_
      ·(try dsimp only); omega
      ·exact ⟨by omega, rfl⟩
    ·skip
     refine zC hG [(17, 1, .callG (.c (.d (.s (S (encT ea))))) [300, 302] ((99999, .box 0 []) :: [(0, .box 73 [.d (.i 1), .d (.i 2), .mp 1]), (1, .box ⟨.mpb (ea), none⟩ [])])), (18, 5, .callG (.c (.d (.i 2))) [300, 302] [(0, .box 73 [.d (.i 1), .d (.i 2), .mp 1]), (1, .box ⟨.mpb (gvS 1 (gvS 2 [] j) (k + 1)), none⟩ [])]), (19, 13, .callG (.c (.d (.s (S (encT (gvS 1 (gvS 2 [] j) (k + 1))))))) [300, 302] ((99999, .box 0 []) :: [(0, .box 73 [.d (.i 1), .d (.i 2), .mp 1]), (1, .box ⟨.mpb (gvS 1 (gvS 2 [] j) (k + 1)), none⟩ [])]))] [1, 1, 1, 0, 0, 1] ((!(false == (decide (((k : Int) : Int) < 30)))) || (!((S (encT (gvS 1 (gvS 2 [] j) (k + 1)))).toList == (S (encT ea)).toList))) (⟨[(0, [], .c (.d (.y x))), (1, [], .c (.d (.y y))), (4, [], .c (.d (.b false))), (5, [], .c (.d (.b true))), (6, [], .c (.bx 300 0)), (11, [], .c (.d (.i (k : Int))))], [(300, .box 73 [.d (.i 1), .d (.i 2), .mp 302]), (302, .box ⟨.mpb (gvS 1 (gvS 2 [] j) (k + 1)), none⟩ [])]⟩) (by kernel_rfl) (conjC (And.intro (And.intro (rfl : (some (.box 73 [.d (.i 1), .d (.i 2), .mp 302]) : Option Ob) = some (.box 73 [.d (.i 1), .d (.i 2), .mp 302])) (And.intro (rfl : (some (.box ⟨.mpb (ea), none⟩ []) : Option Ob) = some (.box ⟨.mpb (ea), none⟩ [])) (trivial))) (rfl : true = true)) (conjC ((encode_ok 1 2 ea (by rw [hea]; exact (gvA hj2 (k := k) (by omega)).1.rs) : SpG g _ _ _ _ _)) (conjC (show inR (1 + (k : Int)) from (by intros; (try rw [hwx]); (try rw [hwy]); (try simp only [zq25] at *); omega)) (conjC ((give_w 1 2 ea (gvS 1 (gvS 2 [] j) (k + 1)) (1 + (k : Int)) 1 0 2 (by rw [hea]; exact (gvA hj2 (k := k) (by omega)).1.rs) (lim_ok n1 (by omega)) ⟨by rw [hea]; exact ((gvA hj2 (k := k) (by omega)).2).trans (if_neg h30), by rw [hea] <;> rfl⟩ : SpG g _ _ _ _ _)) (conjC (fun (hg1 : false = false) => (fun (hg2 : true = true) => (fun (hg3 : (!(false == (decide (((k : Int) : Int) < 30)))) = false) => (And.intro (And.intro (rfl : (some (.box 73 [.d (.i 1), .d (.i 2), .mp 302]) : Option Ob) = some (.box 73 [.d (.i 1), .d (.i 2), .mp 302])) (And.intro (rfl : (some (.box ⟨.mpb (gvS 1 (gvS 2 [] j) (k + 1)), none⟩ []) : Option Ob) = some (.box ⟨.mpb (gvS 1 (gvS 2 [] j) (k + 1)), none⟩ [])) (trivial))) (rfl : true = true))))) (conj1 (fun (hg1 : false = false) => (fun (hg2 : true = true) => (fun (hg3 : (!(false == (decide (((k : Int) : Int) < 30)))) = false) => ((encode_ok 1 2 (gvS 1 (gvS 2 [] j) (k + 1)) (gvA hj2 (k := k + 1) (by omega)).1.rs : SpG g _ _ _ _ _))))))))))) (fun hc9 => ?_) (fun hc9 => ?_)
     ·(try simp only [blS, hwx, hwy] at hc9)
      exfalso; rw [lim_same hj2 (by omega) hea h30] at hc9; simp [h30] at hc9
     ·(try simp only [blS, hwx, hwy] at hc9)
      refine zD hG [] (k + 1, gvS 1 (gvS 2 [] j) (k + 1)) (by kernel_rfl) (conj1 (show inR ((k : Int) + 1) from (by intros; (try rw [hwx]); (try rw [hwy]); (try simp only [zq25] at *); omega))) ?_ ?_
      ·(try dsimp only); omega
      ·exact ⟨by omega, rfl⟩
   ·(try simp only [blS, hwx, hwy] at hc7)
    have hkm : k = m1 := by omega
    refine zE hG [] (.exit 4) (⟨[(0, [], .c (.d (.y x))), (1, [], .c (.d (.y y))), (4, [], .c (.d (.b false))), (5, [], .c (.d (.b true))), (6, [], .c (.bx 300 0))], [(300, .box 73 [.d (.i 1), .d (.i 2), .mp 302]), (302, .box ⟨.mpb (ea), none⟩ [])]⟩) (by kernel_rfl) conj0 rfl ?_
    refine stepRL hG hmix [(21, 1, .callG (.c (.d (.s (S (encT ea))))) [300, 302] ((99999, .box 0 []) :: [(0, .box 73 [.d (.i 1), .d (.i 2), .mp 1]), (1, .box ⟨.mpb (ea), none⟩ [])])), (21, 2, .call (.tup [(false, [.d (.sl 2 (versD ea))]), (false, [.d (.b true)])]) [] [])] [] (.c (.d (.b (decide ((((versD ea).length : Int) : Int) = ((if (30 : Int) < (IntKind.wrap .i64 (Int.tmod x 33)) then 30 else (IntKind.wrap .i64 (Int.tmod x 33))) + (if (30 : Int) < (IntKind.wrap .i64 (Int.tmod y 33)) then 30 else (IntKind.wrap .i64 (Int.tmod y 33))))))))) [] (by kernel_rfl) (conjC (And.intro (And.intro (rfl : (some (.box 73 [.d (.i 1), .d (.i 2), .mp 302]) : Option Ob) = some (.box 73 [.d (.i 1), .d (.i 2), .mp 302])) (And.intro (rfl : (some (.box ⟨.mpb (ea), none⟩ []) : Option Ob) = some (.box ⟨.mpb (ea), none⟩ [])) (trivial))) (rfl : true = true)) (conjC ((encode_ok 1 2 ea (by rw [hea]; exact (gvA hj2 (k := k) (by omega)).1.rs) : SpG g _ _ _ _ _)) (conjC ((lines33_ok 2 ea (by rw [hea]; exact (gvA hj2 (k := k) (by omega)).1.rs) (by rw [hea]; exact gvA_read hj2 (k := k) (by omega)) : SpG g _ _ _ _ _)) (conj1 (show true = true → inR ((if (30 : Int) < (IntKind.wrap .i64 (Int.tmod x 33)) then 30 else (IntKind.wrap .i64 (Int.tmod x 33))) + (if (30 : Int) < (IntKind.wrap .i64 (Int.tmod y 33)) then 30 else (IntKind.wrap .i64 (Int.tmod y 33)))) from (by intros; (try rw [hwx]); (try rw [hwy]); (try simp only [zq25] at *); omega)))))) ?_ ?_
    ·have hL := lim_len hj2 (k := k) (by omega) hea
     exact congrArg (fun b => SV.c (C.d (V.D.b b))) (decide_eq_true (by rw [hwx, hwy, vers_len, hL]; (repeat' split) <;> omega))
    ·first | rfl | (funext i; simp only [lookO_cons, upd]; ((repeat' split) <;> first | rfl | (exfalso; omega)))
end Go.Proofs.YtclaplngjmgnoaaGreatDoor
