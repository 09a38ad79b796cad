/- Part 4 of the proof: texts Eng4. -/
import Derived.Test.YtmpgfchkkemngaaGreatDoorP3
set_option linter.all false
namespace Go.Eng
open Go.RowKit
def argL (args : Array Value) : List (Nat × SV) := args.toList.zipIdx.map fun x => (x.2, .v x.1)
theorem argL_mem {args : Array Value} {t : Nat} {sv : SV} (h : (t, sv) ∈ argL args) : ∃ v, sv = .v v ∧ args[t]? = some v := by
 simp only [argL, List.mem_map, Prod.mk.injEq] at h
 obtain ⟨⟨v, k⟩, hm, rfl, rfl⟩ := h
 refine ⟨v, rfl, ?_⟩
 have := List.mem_zipIdx hm
 obtain ⟨_, hlt, hv⟩ := this
 simp only [Nat.zero_add, Nat.sub_zero, Array.length_toList] at hlt hv
 rw [Array.getElem?_eq_getElem hlt, hv]
 simp
section
variable {P : Program} {n : Nat} {ops : Array Oper} {Q : Exit → Act → World → Prop} {own : List Bx} {w : World} {env : List En}
theorem enter {f : FuncId} {fn : Func} {c : Code} {args : Array Value} {R : Ending → World → Prop} (hf : P.funcs[f]? = some fn) (hb : fn.body = some c) (hn : fn.ntmps = n) (hs : decide (args.size ≤ n) = true) (l : List (Nat × SV)) (hl : argL args = l)
  (h : Run P n c (bodyPost P fn R) (kn l) [] w) : Calls P f args w R := by
 have hs := of_decide_eq_true hs
 refine calls_of_wp hf hb (h _ ⟨rfl, ?_, ?_, ?_⟩)
 ·simp [hn]; omega
 ·intro t p sv hfd _
  obtain ⟨_, hm⟩ := find_kn hfd
  rw [← hl] at hm
  obtain ⟨v, rfl, hv⟩ := argL_mem hm
  have hlt : t < args.size := (Array.getElem?_eq_some_iff.1 hv).1
  simp only [SV.val, Array.getD_eq_getD_getElem?]
  rw [Array.getElem?_append_left hlt, hv]
  rfl
 ·intro t p sv hfd hh
  obtain ⟨rfl, _⟩ := find_kn hfd
  exact absurd (by simp [Holds]) hh
theorem ownOk_nil : OwnOk w [] := ⟨fun i b h => by simp at h, fun i j b c h => by simp at h⟩
def resV (P : Program) (env : List En) (own : List Bx) : ResultVar → Option Value
 | .tmp t => lookV env (nums own) [] (.tmp t)
 | .cell a t => match lookS env [] (.tmp a) with
  | some (.box i off) => match own[i]? with
   | some b => loadB P t b.cells off
   | none => none
  | _ => none
def retv (P : Program) (env : List En) (own : List Bx) (fn : Func) : Option Value :=
 match fn.results with
 | ⟨[]⟩ => some (.tuple #[])
 | ⟨[r]⟩ => resV P env own r
 | ⟨[r, s]⟩ => match resV P env own r, resV P env own s with
  | some x, some y => some (.tuple #[x, y])
  | _, _ => none
 | ⟨[r, s, t]⟩ => match resV P env own r, resV P env own s, resV P env own t with
  | some x, some y, some z => some (.tuple #[x, y, z])
  | _, _, _ => none
 | ⟨[r, s, t, u]⟩ => match resV P env own r, resV P env own s, resV P env own t, resV P env own u with
  | some x, some y, some z, some q => some (.tuple #[x, y, z, q])
  | _, _, _, _ => none
 | _ => none
def resRun (tmps : Array Value) : ResultVar → Sem Value
 | .tmp t => pure (tmps.getD t undef)
 | .cell a t => do loadVar t (← asAddr (tmps.getD a undef))
theorem resV_ok {a : Act} (hf : Fits n env (nums own) a) (hown : OwnOk w own) {r : ResultVar} {v : Value} (h : resV P env own r = some v) : (resRun a.tmps r).run P w = .ok v w := by
 have hp : Holds a [] := by simp [Holds]
 cases r with
 | tmp t => simp only [resV] at h; have := lookV_eq hf hp h; simp only [Act.eval] at this; simp [resRun, this]
 | cell ad t =>
  simp only [resV] at h
  split at h
  ·rename_i i off hx
   split at h
   ·rename_i b hb
    have := lookS_eq hf hp hx
    simp only [Act.eval, SV.val, getD_nums hb] at this
    have hl := run_loadB h (hown.at_ i b hb)
    simp only [Instr.loadAt, Instr.sureAddr, Sem.run_bind, Sem.run_pure, Result.andThen_ok] at hl
    simp [resRun, this, asAddr, hl]
   ·cases h
  ·cases h
theorem results_eq (fn : Func) (tmps : Array Value) : results fn tmps = (do let vs ← fn.results.mapM (resRun tmps); pure (if h : vs.size = 1 then vs[0] else .tuple vs)) := by
 have : (fun r => match r with | .tmp t => pure (tmps.getD t undef) | .cell x t => do loadVar t (← asAddr (tmps.getD x undef)) : ResultVar → Sem Value) = resRun tmps := by
  funext r; cases r <;> rfl
 unfold results
 rw [← this]
 rfl
theorem retv_ok {fn : Func} {a : Act} (hf : Fits n env (nums own) a) (hown : OwnOk w own) {v : Value} (h : retv P env own fn = some v) : (results fn a.tmps).run P w = .ok v w := by
 rw [results_eq]
 unfold retv at h
 split at h
 ·rename_i hr; simp only [Option.some.injEq] at h; subst h; simp [hr]
 ·rename_i r hr
  have h1 := resV_ok hf hown h
  simp only [hr]
  simp [h1]
 ·rename_i r s hr
  split at h
  ·rename_i x y hx hy
   simp only [Option.some.injEq] at h; subst h
   have h1 := resV_ok hf hown hx
   have h2 := resV_ok hf hown hy
   simp only [hr]
   simp [h1, h2]
  ·cases h
 ·rename_i r s t hr
  split at h
  ·rename_i x y z hx hy hz
   simp only [Option.some.injEq] at h; subst h
   have h1 := resV_ok hf hown hx
   have h2 := resV_ok hf hown hy
   have h3 := resV_ok hf hown hz
   simp only [hr]
   simp [h1, h2, h3]
  ·cases h
 ·rename_i r s t u hr
  split at h
  ·rename_i x y z q hx hy hz hq
   simp only [Option.some.injEq] at h; subst h
   have h1 := resV_ok hf hown hx
   have h2 := resV_ok hf hown hy
   have h3 := resV_ok hf hown hz
   have h4 := resV_ok hf hown hq
   simp only [hr]
   simp [h1, h2, h3, h4]
  ·cases h
 ·cases h
theorem at_ret {fn : Func} {R : Ending → World → Prop} (v : Value) (h : retv P env own fn = some v) (hown : OwnOk w own) (hR : R (.returned v) w) : At n (bodyPost P fn R) .ret env own w :=
 fun _ hf => ⟨hf.defers, v, retv_ok hf hown h, hR⟩
def wpK (P : Program) (ops : Array Oper) (Q : Exit → Act → World → Prop) (o : Oper) (K : Act → World → Prop) (a : Act) (w : World) : Prop :=
 if Region.wanted o (yielded ops a.tmps) then o.wp P a w K Q ∨ (o.asks P a w ∧ LetsOut Q) else K (a.put o.dst undef) w
def KF (n : Nat) (K : Act → World → Prop) (env : List En) (own : List Bx) (w : World) : Prop := ∀ a, Fits n env (nums own) a → K a w
def opAt (ops : Array Oper) (j : Nat) : Option Oper := ops.toList[j]?
def putE (env : List En) (dst : Option Nat) (p : Path) (sv : SV) : List En :=
 match dst with
 | some t => ⟨t, p, sv⟩ :: drop env t
 | none => env
def placeO (n : Nat) (ops : Array Oper) (env : List En) (o : Oper) : Option Path :=
 match o.dst with
 | some _ => match place n ops env o with
  | some (_, p) => some p
  | none => none
 | none => match pathOf ops env o with
  | some p => if closed env p then some p else none
  | none => none
def callO (P : Program) (n : Nat) (ops : Array Oper) (own : List Bx) (env : List En) (o : Oper) : Option (Option Nat × Path × FuncId × Array Value) :=
 match placeO n ops env o with
 | some p => if noSel o.op && o.op.operands.toList.all (fun x => (lookS env p x).isSome) then
   match red P (execOp (look env (nums own) p) o) with
   | some (.enter f args) => some (o.dst, p, f, args)
   | _ => none
  else none
 | none => none
def callOf (P : Program) (n : Nat) (ops : Array Oper) (own : List Bx) (env : List En) (j : Nat) : Option (Option Nat × Path × FuncId × Array Value) :=
 match opAt ops j with
 | some o => callO P n ops own env o
 | none => none
theorem placeO_spec {o : Oper} {p : Path} (h : placeO n ops env o = some p) : pathOf ops env o = some p ∧ closed env p = true ∧ ∀ t, o.dst = some t → place n ops env o = some (t, p) := by
 unfold placeO at h
 split at h
 ·rename_i t hd
  split at h
  ·rename_i t' p' hpl
   simp only [Option.some.injEq] at h
   subst h
   obtain ⟨hd', hp, _, _, hcl, _⟩ := place_spec hpl
   refine ⟨hp, hcl, fun u hu => ?_⟩
   rw [hd'] at hu
   simp only [Option.some.injEq] at hu
   subst hu
   exact hpl
  ·cases h
 ·rename_i hd
  split at h
  ·rename_i p' hp
   split at h
   ·rename_i hcl
    simp only [Option.some.injEq] at h
    subst h
    exact ⟨hp, hcl, fun u hu => by rw [hd] at hu; cases hu⟩
   ·cases h
  ·cases h
theorem fits_putO {o : Oper} {p : Path} {a : Act} (hf : Fits n env (nums own) a) (hpl : placeO n ops env o = some p) {sv : SV} {v : Value} (h1 : Holds a p → v = sv.val (nums own)) (h2 : ¬ Holds a p → v = undef) :
  Fits n (putE env o.dst p sv) (nums own) (a.put o.dst v) := by
 obtain ⟨_, _, hpl'⟩ := placeO_spec hpl
 cases hd : o.dst with
 | none => exact hf
 | some t =>
  obtain ⟨_, _, htn, hm, _, hpt⟩ := place_spec (hpl' t hd)
  exact hf.put htn hm hpt h1 h2
theorem drop_cons {j : Nat} {o : Oper} (h : opAt ops j = some o) : ops.toList.drop j = o :: ops.toList.drop (j + 1) := by
 unfold opAt at h
 obtain ⟨hlt, rfl⟩ := List.getElem?_eq_some_iff.1 h
 exact List.drop_eq_getElem_cons hlt
theorem runI_of {j : Nat} {o : Oper} (ho : opAt ops j = some o) (h : KF n (wpK P ops Q o (wpList P ops Q (ops.toList.drop (j + 1)))) env own w) : RunI P n ops j Q env own w := by
 intro a hf
 rw [drop_cons ho]
 exact h a hf
theorem callVK {o : Oper} {K : Act → World → Prop} {dst : Option Nat} {p : Path} {f : FuncId} {args : Array Value} (v : Value) (C : World → Prop) (h : callO P n ops own env o = some (dst, p, f, args))
  (hc : imp env p (Calls P f args w fun e w' => e = .returned v ∧ C w')) (hC : p ≠ [] → C w) (hk : ∀ w', C w' → KF n K (putE env dst p (.v v)) own w') : KF n (wpK P ops Q o K) env own w := by
 intro a hf
 unfold callO at h
 split at h
 ·rename_i p' hpl
  split at h
  ·rename_i hb
   simp only [Bool.and_eq_true, List.all_eq_true, Array.mem_toList_iff] at hb
   split at h
   ·rename_i f' args' hr
    simp only [Option.some.injEq, Prod.mk.injEq] at h
    obtain ⟨rfl, rfl, rfl, rfl⟩ := h
    obtain ⟨hpath, hcl, _⟩ := placeO_spec hpl
    unfold wpK
    have hw := wanted_iff hf hpath
    by_cases hh : Holds a p'
    ·rw [if_pos (hw.2 hh)]
     refine .inl ?_
     have he : execOp (look env (nums own) p') o = execOp a.eval o :=
      execOp_congr o (fun cs b hs => by rw [hs] at hb; simp [noSel] at hb) (fun x hx => look_eq hf hh (hb.2 x hx))
     rw [he] at hr
     unfold Oper.wp
     rw [red_run hr, Oper.upon_enter]
     refine (imp_use hf hh hcl p' (fun _ h => h) hc).mono ?_
     rintro e w' ⟨rfl, hCw⟩
     exact hk w' hCw _ (fits_putO hf hpl (fun _ => rfl) (fun h => absurd hh h))
    ·rw [if_neg (fun h => hh (hw.1 h))]
     refine hk w (hC ?_) _ (fits_putO hf hpl (fun h => absurd h hh) (fun _ => rfl))
     rintro rfl
     exact hh (by simp [Holds])
   ·cases h
  ·cases h
 ·cases h
theorem callV {j : Nat} {dst : Option Nat} {p : Path} {f : FuncId} {args : Array Value} (v : Value) (C : World → Prop) (h : callOf P n ops own env j = some (dst, p, f, args))
  (hc : imp env p (Calls P f args w fun e w' => e = .returned v ∧ C w')) (hC : p ≠ [] → C w) (hk : ∀ w', C w' → RunI P n ops (j + 1) Q (putE env dst p (.v v)) own w') : RunI P n ops j Q env own w := by
 unfold callOf at h
 split at h
 ·rename_i o ho; exact runI_of ho (callVK v C h hc hC hk)
 ·cases h
def ldO (n : Nat) (ops : Array Oper) (own : List Bx) (env : List En) (o : Oper) : Option (Nat × Path × TypeId × Value) :=
 match place n ops env o, o.op with
 | some (t, p), .load ty x => match lookV env (nums own) p x with
  | some a => some (t, p, ty, a)
  | none => none
 | _, _ => none
def ldOf (n : Nat) (ops : Array Oper) (own : List Bx) (env : List En) (j : Nat) : Option (Nat × Path × TypeId × Value) :=
 match opAt ops j with
 | some o => ldO n ops own env o
 | none => none
theorem ldXK {o : Oper} {K : Act → World → Prop} {t : Nat} {p : Path} {ty : TypeId} {ad : Value} (v : Value) (h : ldO n ops own env o = some (t, p, ty, ad)) (hrun : imp env p ((Instr.loadAt ty ad).run P w = .ok v w))
  (hk : KF n K (putE env (some t) p (.v v)) own w) : KF n (wpK P ops Q o K) env own w := by
 intro a hf
 unfold ldO at h
 split at h
 ·rename_i t' p' ty' x hpl hop
  split at h
  ·rename_i ad' had
   simp only [Option.some.injEq, Prod.mk.injEq] at h
   obtain ⟨rfl, rfl, rfl, rfl⟩ := h
   obtain ⟨hd, hpath, htn, hm, hcl, hpt⟩ := place_spec hpl
   unfold wpK
   have hw := wanted_iff hf hpath
   by_cases hh : Holds a p'
   ·rw [if_pos (hw.2 hh)]
    refine .inl ?_
    have hr : (execOp a.eval o).run P w = .ok (.value v) w := by
     unfold execOp
     simp only [hop, lookV_eq hf hh had]
     simp [imp_use hf hh hcl p' (fun _ h => h) hrun]
    unfold Oper.wp
    rw [hr, Oper.upon_value, hd]
    exact hk _ (hf.put htn hm hpt (fun _ => rfl) (fun h => absurd hh h))
   ·rw [if_neg (fun h => hh (hw.1 h)), hd]
    exact hk _ (hf.put htn hm hpt (fun h => absurd h hh) (fun _ => rfl))
  ·cases h
 ·cases h
theorem ldX {j : Nat} {t : Nat} {p : Path} {ty : TypeId} {ad : Value} (v : Value) (h : ldOf n ops own env j = some (t, p, ty, ad)) (hrun : imp env p ((Instr.loadAt ty ad).run P w = .ok v w))
  (hk : RunI P n ops (j + 1) Q (putE env (some t) p (.v v)) own w) : RunI P n ops j Q env own w := by
 unfold ldOf at h
 split at h
 ·rename_i o ho; exact runI_of ho (ldXK v h hrun hk)
 ·cases h
theorem run_load1 {ty : TypeId} {ad : Addr} {v : Value} (ht : isAggB P ty = some false) (hc : w.cell? ad = some v) : (Instr.loadAt ty (.pointer (some ad))).run P w = .ok v w := by
 have hagg : (isAgg ty).run P w = .ok false w := by
  unfold isAggB at ht
  split at ht
  ·cases ht
  ·cases ht
  ·rename_i dd h1 h2 hu
   cases dd <;> simp_all [isAgg, run_underlying hu]
  ·cases ht
 simp [Instr.loadAt, Instr.sureAddr, loadVar, hagg, hc]
def boxesIn (k : Nat) (env : List En) : Bool := env.all fun e => match e.sv with
 | .box i _ => i < k
 | _ => true
def newO (P : Program) (n : Nat) (ops : Array Oper) (own : List Bx) (env : List En) (o : Oper) : Option (Nat × TypeId × List Value) :=
 match place n ops env o with
 | some (t, []) => if boxesIn own.length env then
   match o.op with
   | .box ty x => match lookV env (nums own) [] x with
    | some v => some (t, ty, v.cells.toList)
    | none => none
   | .alloc ty => match P.info? ty with
    | some i => match i.zero with
     | some z => some (t, ty, z.cells.toList)
     | none => none
    | none => none
   | _ => none
  else none
 | _ => none
def newOf (P : Program) (n : Nat) (ops : Array Oper) (own : List Bx) (env : List En) (j : Nat) : Option (Nat × TypeId × List Value) :=
 match opAt ops j with
 | some o => newO P n ops own env o
 | none => none
theorem nums_append (own : List Bx) (b : Bx) : nums (own ++ [b]) = nums own ++ [b.num] := by simp [nums]
theorem boxesIn_spec {k : Nat} {env : List En} (h : boxesIn k env = true) {t : Nat} {p : Path} {i off : Nat} (hf : find env t = some (p, .box i off)) : i < k := by
 induction env with
 | nil => simp [find] at hf
 | cons e r ih =>
  simp only [boxesIn, List.all_cons, Bool.and_eq_true] at h
  simp only [find] at hf
  split at hf
  ·simp only [Option.some.injEq, Prod.mk.injEq] at hf
   have h1 := h.1
   rw [hf.2] at h1
   simpa using h1
  ·exact ih h.2 hf
theorem Fits.more {a : Act} (hf : Fits n env (nums own) a) (hb : boxesIn own.length env = true) (b : Bx) : Fits n env (nums (own ++ [b])) a := by
 refine ⟨hf.defers, hf.size, fun t p sv hfd hh => ?_, hf.no⟩
 rw [hf.yes t p sv hfd hh]
 cases sv with
 | v x => rfl
 | box i off =>
  have := boxesIn_spec hb hfd
  have e1 : (nums own).length = own.length := by simp [nums]
  simp only [SV.val, nums_append, List.getD_eq_getElem?_getD]
  rw [List.getElem?_append_left (by rw [e1]; exact this)]
theorem OwnOk.lt (h : OwnOk w own) {i : Nat} {b : Bx} (hb : own[i]? = some b) : b.num < w.heap.size := (Array.getElem?_eq_some_iff.1 (h.at_ i b hb)).1
theorem OwnOk.alloc (h : OwnOk w own) (ty : TypeId) (cells : List Value) : OwnOk (w.alloc (.cells cells.toArray ty)) (own ++ [⟨w.heap.size, ty, cells⟩]) := by
 refine ⟨fun i b hb => ?_, fun i j b c hb hc hbc => ?_⟩
 ·rw [List.getElem?_append] at hb
  split at hb
  ·rw [Below.heap_alloc _ _ _ (h.lt hb)]; exact h.at_ i b hb
  ·rename_i hi
   have : i - own.length = 0 := by
    rcases Nat.eq_zero_or_pos (i - own.length) with h0 | h0
    ·exact h0
    ·rw [List.getElem?_eq_none (by simp; omega)] at hb; cases hb
   rw [this] at hb
   simp only [List.getElem?_cons_zero, Option.some.injEq] at hb
   subst hb
   exact heap_alloc_new w _
 ·rw [List.getElem?_append] at hb hc
  have one : ∀ {k : Nat} {x : Bx}, [(⟨w.heap.size, ty, cells⟩ : Bx)][k]? = some x → k = 0 ∧ x.num = w.heap.size := by
   intro k x hx
   cases k with
   | zero => simp only [List.getElem?_cons_zero, Option.some.injEq] at hx; subst hx; exact ⟨rfl, rfl⟩
   | succ k => simp at hx
  split at hb
  ·split at hc
   ·exact h.inj i j b c hb hc hbc
   ·obtain ⟨_, e⟩ := one hc; have := h.lt hb; omega
  ·split at hc
   ·obtain ⟨_, e⟩ := one hb; have := h.lt hc; omega
   ·obtain ⟨e1, _⟩ := one hb; obtain ⟨e2, _⟩ := one hc; omega
theorem newK {o : Oper} {K : Act → World → Prop} {t : Nat} {ty : TypeId} {cells : List Value} (h : newO P n ops own env o = some (t, ty, cells))
  (hk : KF n K (putE env (some t) [] (.box own.length 0)) (own ++ [⟨w.heap.size, ty, cells⟩]) (w.alloc (.cells cells.toArray ty))) : KF n (wpK P ops Q o K) env own w := by
 intro a hf
 unfold newO at h
 split at h
 ·rename_i t' hpl
  split at h
  ·rename_i hbi
   obtain ⟨hd, hpath, htn, hm, hcl, hpt⟩ := place_spec hpl
   have hh : Holds a [] := by simp [Holds]
   have fin : ∀ (ty' : TypeId) (cs : List Value), t' = t → (execOp a.eval o).run P w = .ok (.value (.pointer (some ⟨w.heap.size, 0, none⟩))) (w.alloc (.cells cs.toArray ty')) → ty' = ty → cs = cells →
     wpK P ops Q o K a w := by
    rintro ty' cs rfl hrun rfl rfl
    unfold wpK
    rw [if_pos ((wanted_iff hf hpath).2 hh)]
    refine .inl ?_
    unfold Oper.wp
    rw [hrun, Oper.upon_value, hd]
    refine hk _ (((hf.more hbi ⟨w.heap.size, ty', cs⟩)).put htn hm (fun x hx => by cases hx) (fun _ => ?_) (fun h => absurd hh h))
    simp only [SV.val, nums_append, List.getD_eq_getElem?_getD]
    have e1 : (nums own).length = own.length := by simp [nums]
    rw [List.getElem?_append_right (by omega), e1]
    simp
   split at h
   ·rename_i ty' x hop
    split at h
    ·rename_i v hv
     simp only [Option.some.injEq, Prod.mk.injEq] at h
     obtain ⟨h1, h2, h3⟩ := h
     refine fin ty' v.cells.toList h1 ?_ h2 h3
     unfold execOp
     simp only [hop, lookV_eq hf hh hv]
     simp [Instr.box, newVar, newRow, newObj]
     rfl
    ·cases h
   ·rename_i ty' hop
    split at h
    ·rename_i i hi
     split at h
     ·rename_i z hz
      simp only [Option.some.injEq, Prod.mk.injEq] at h
      obtain ⟨h1, h2, h3⟩ := h
      refine fin ty' z.cells.toList h1 ?_ h2 h3
      unfold execOp
      simp only [hop]
      simp [Instr.alloc, zeroValue, typeInfo, hi, hz, newVar, newRow, newObj]
      rfl
     ·cases h
    ·cases h
   ·cases h
  ·cases h
 ·cases h
theorem newBK {o : Oper} {K : Act → World → Prop} {t : Nat} {ty : TypeId} {cells : List Value} (h : newO P n ops own env o = some (t, ty, cells)) (hown : OwnOk w own)
  (hk : ∀ b w', w.heap.size ≤ b → OwnOk w' (own ++ [⟨b, ty, cells⟩]) → Below w.heap.size w w' → KF n K (putE env (some t) [] (.box own.length 0)) (own ++ [⟨b, ty, cells⟩]) w') : KF n (wpK P ops Q o K) env own w :=
 newK h (hk _ _ (Nat.le_refl _) (hown.alloc ty cells) ((Below.refl _ _).alloc (Nat.le_refl _) _))
def splice (cells : List Value) (off : Nat) (vs : List Value) : List Value := cells.take off ++ vs ++ cells.drop (off + vs.length)
def stO (P : Program) (ops : Array Oper) (own : List Bx) (env : List En) (o : Oper) : Option (Nat × Bx) :=
 match o.dst, pathOf ops env o with
 | none, some [] => match o.op with
  | .store ty x v => match lookS env [] x, lookV env (nums own) [] v, P.info? ty with
   | some (.box i off), some u, some ti => match own[i]? with
    | some b => if u.cells.size = ti.size && decide (off + u.cells.size ≤ b.cells.length) && u.cells.toList.all (·.oneCell') then some (i, ⟨b.num, b.ty, splice b.cells off u.cells.toList⟩) else none
    | none => none
   | _, _, _ => none
  | _ => none
 | _, _ => none
def stOf (P : Program) (ops : Array Oper) (own : List Bx) (env : List En) (j : Nat) : Option (Nat × Bx) :=
 match opAt ops j with
 | some o => stO P ops own env o
 | none => none
theorem OwnOk.setRow (h : OwnOk w own) {i : Nat} {b : Bx} (hb : own[i]? = some b) (cs : List Value) : OwnOk (w.setRow b.num cs.toArray) (own.set i ⟨b.num, b.ty, cs⟩) := by
 have hil : i < own.length := (List.getElem?_eq_some_iff.1 hb).1
 have hn : ∀ (k : Nat) (c : Bx), (own.set i ⟨b.num, b.ty, cs⟩)[k]? = some c → ∃ c', own[k]? = some c' ∧ c'.num = c.num := by
  intro k c hc
  rw [List.getElem?_set] at hc
  split at hc
  ·rename_i hik
   subst hik
   try rw [if_pos hil] at hc
   simp only [Option.some.injEq] at hc
   subst hc
   exact ⟨b, hb, rfl⟩
  ·exact ⟨c, hc, rfl⟩
 refine ⟨fun k c hc => ?_, fun k l c d hc hd hcd => ?_⟩
 ·rw [List.getElem?_set] at hc
  split at hc
  ·rename_i hik
   subst hik
   try rw [if_pos hil] at hc
   simp only [Option.some.injEq] at hc
   subst hc
   exact setRow_heap w b.num b.cells.toArray cs.toArray b.ty (0, 0) (h.at_ i b hb)
  ·rename_i hik
   have hne : c.num ≠ b.num := fun e => hik (h.inj i k b c hb hc e.symm)
   have := h.at_ k c hc
   simp only [World.setRow, Array.getElem?_modify]
   rw [if_neg (fun e => hne e.symm)]
   exact this
 ·obtain ⟨c', hc', e1⟩ := hn k c hc
  obtain ⟨d', hd', e2⟩ := hn l d hd
  exact h.inj k l c' d' hc' hd' (by omega)
theorem nums_set {i : Nat} {b : Bx} (hb : own[i]? = some b) (cs : List Value) : nums (own.set i ⟨b.num, b.ty, cs⟩) = nums own := by
 simp only [nums, List.map_set]
 apply List.ext_getElem?
 intro k
 rw [List.getElem?_set]
 split
 ·rename_i hik
  subst hik
  split
  ·simp [hb]
  ·rename_i hl; simp only [List.length_map] at hl; rw [List.getElem?_eq_none (by simpa using hl)]
 ·rfl
theorem storeK {o : Oper} {K : Act → World → Prop} {i : Nat} {b : Bx} (h : stO P ops own env o = some (i, b)) (hown : OwnOk w own)
  (hk : KF n K env (own.set i b) (w.setRow b.num b.cells.toArray)) : KF n (wpK P ops Q o K) env own w := by
 intro a hf
 unfold stO at h
 split at h
 ·rename_i hd hpath
  split at h
  ·rename_i ty x v hop
   split at h
   ·rename_i i' off u ti hx hv hti
    split at h
    ·rename_i b' hb'
     split at h
     ·rename_i hcond
      simp only [Option.some.injEq, Prod.mk.injEq] at h
      obtain ⟨rfl, rfl⟩ := h
      simp only [Bool.and_eq_true, decide_eq_true_eq, List.all_eq_true] at hcond
      obtain ⟨⟨hs1, hs2⟩, hs3⟩ := hcond
      have hh : Holds a [] := by simp [Holds]
      unfold wpK
      rw [if_pos ((wanted_iff hf hpath).2 hh)]
      refine .inl ?_
      have hrun : (execOp a.eval o).run P w = .ok .skip (w.setRow b'.num (splice b'.cells off u.cells.toList).toArray) := by
       unfold execOp
       have hx' := lookS_eq hf hh hx
       simp only [SV.val, getD_nums hb'] at hx'
       simp only [hop, hx', lookV_eq hf hh hv]
       have := run_storeCells_at (P := P) b'.num off b'.ty u.cells.toList 0 b'.cells.toArray w (hown.at_ i' b' hb') (by simpa using hs2) hs3
       simp only [Nat.add_zero] at this
       simp only [Instr.storeAt, Instr.sureAddr, storeVar, sizeOf, typeInfo]
       simp [hti, hs1, this, splice]
      unfold Oper.wp
      rw [hrun, Oper.upon_skip, hd]
      refine hk _ ?_
      rw [nums_set hb']
      exact hf
     ·cases h
    ·cases h
   ·cases h
  ·cases h
 ·cases h
theorem grown_setRow (w : World) (g : Nat) (cs : Array Value) : w.grownBy (w.setRow g cs) (some g) := by
 refine ⟨rfl, rfl, rfl, by simp [World.setRow], fun k _ hne => ?_⟩
 simp only [World.setRow, Array.getElem?_modify]
 rw [if_neg (fun e => hne (by rw [e]))]
theorem stO_spec {o : Oper} {i : Nat} {b : Bx} (h : stO P ops own env o = some (i, b)) : ∃ b', own[i]? = some b' ∧ b = ⟨b'.num, b'.ty, b.cells⟩ := by
  unfold stO at h
  repeat' split at h
  all_goals first
    | (cases h; done)
    | (simp only [Option.some.injEq, Prod.mk.injEq] at h
       obtain ⟨rfl, rfl⟩ := h
       exact ⟨_, by assumption, rfl⟩)
theorem storeBK {o : Oper} {K : Act → World → Prop} {i : Nat} {b : Bx} (h : stO P ops own env o = some (i, b)) (hown : OwnOk w own)
  (hk : ∀ w', OwnOk w' (own.set i b) → w.grownBy w' (some b.num) → KF n K env (own.set i b) w') : KF n (wpK P ops Q o K) env own w := by
 obtain ⟨b', hb', hbb⟩ := stO_spec h
 refine storeK h hown (hk _ ?_ (grown_setRow _ _ _))
 have hs := hown.setRow hb' b.cells
 have e1 : b'.num = b.num := by rw [hbb]
 rw [← hbb, e1] at hs
 exact hs
theorem newB {j : Nat} {t : Nat} {ty : TypeId} {cells : List Value} (h : newOf P n ops own env j = some (t, ty, cells)) (hown : OwnOk w own)
  (hk : ∀ b w', w.heap.size ≤ b → OwnOk w' (own ++ [⟨b, ty, cells⟩]) → Below w.heap.size w w' → RunI P n ops (j + 1) Q (putE env (some t) [] (.box own.length 0)) (own ++ [⟨b, ty, cells⟩]) w') : RunI P n ops j Q env own w := by
 unfold newOf at h
 split at h
 ·rename_i o ho; exact runI_of ho (newBK h hown hk)
 ·cases h
theorem storeB {j : Nat} {i : Nat} {b : Bx} (h : stOf P ops own env j = some (i, b)) (hown : OwnOk w own)
  (hk : ∀ w', OwnOk w' (own.set i b) → w.grownBy w' (some b.num) → RunI P n ops (j + 1) Q env (own.set i b) w') : RunI P n ops j Q env own w := by
 unfold stOf at h
 split at h
 ·rename_i o ho; exact runI_of ho (storeBK h hown hk)
 ·cases h
theorem OwnOk.ext {w' : World} (h : OwnOk w own) (hb : Below w.heap.size w w') : OwnOk w' own :=
 ⟨fun i b hi => (hb.block _ (h.lt hi)).trans (h.at_ i b hi), h.inj⟩
theorem below_ext {a b c : World} (h : Below a.heap.size a b) (k : Below b.heap.size b c) : Below a.heap.size a c := h.trans (k.mono h.size)
theorem below_own {a b c : World} {g : Nat} (h : Below a.heap.size a b) (k : b.grownBy c (some g)) (hg : a.heap.size ≤ g) : Below a.heap.size a c :=
 h.grown k h.size (fun x hx => by injection hx with hx; omega)
end
end Go.Eng
