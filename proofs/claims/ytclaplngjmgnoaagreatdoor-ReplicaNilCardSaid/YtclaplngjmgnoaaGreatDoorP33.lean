/- Part 33 of the proof: texts X3, XF, X4, X5, X6, X7, V33r, U33a, U33h, U33o, U33b, U33c, U33d, U33e, U33f, U33g, U33i. -/
import Derived.Test.YtclaplngjmgnoaaGreatDoorP29
import Derived.Test.YtclaplngjmgnoaaGreatDoorP32
import Derived.Lib.AppendZerosOnto
import Derived.RangeFuncNested
set_option linter.all false
set_option maxRecDepth 100000
namespace Go.V
open Go.RowKit
def qV : TypeDesc → Value → Bool
 | .int _, .int _ _ => true
 | .string, .string _ => true
 | _, _ => false
def fP (agg : Bool) (wd : Nat) (vs : List Value) : Value := if agg then .agg (vs.take wd).toArray else vs.headD undef
theorem aA5 {agg : Bool} {wd : Nat} {kd : TypeDesc} {k : Value} : ∀ (ks : List (Value × Nat)) (vs vs' : List Value) (i : Nat),
  (∀ j v', Instr.findNow kd k (bX agg wd ks vs') i = some (some (j, v')) → ∃ m, j = i + m ∧ m < ks.length ∧ Instr.findNow kd k (bX agg wd ks vs) i = some (some (j, fP agg wd (vs.drop (m * wd))))) ∧
  (Instr.findNow kd k (bX agg wd ks vs') i = some none → Instr.findNow kd k (bX agg wd ks vs) i = some none)
 | [], vs, vs', i => ⟨fun j v' h => by simp [bX, Instr.findNow] at h, fun h => h⟩
 | (x, b) :: r, vs, vs', i => by
  simp only [bX, Instr.findNow]
  cases hs : Instr.sameNow kd k x with
  | none => simp
  | some t =>
   cases t with
   | true =>
    refine ⟨fun j v' h => ?_, fun h => by simp at h⟩
    simp only [Option.some.injEq, Prod.mk.injEq] at h
    obtain ⟨rfl, _⟩ := h
    exact ⟨0, rfl, by simp, by simp [fP]⟩
   | false =>
    simp only
    obtain ⟨h1, h2⟩ := aA5 (agg := agg) (wd := wd) (kd := kd) (k := k) r (vs.drop wd) (vs'.drop wd) (i + 1)
    refine ⟨fun j v' h => ?_, h2⟩
    obtain ⟨m, e1, e2, e3⟩ := h1 j v' h
    refine ⟨m + 1, by omega, by simp; omega, ?_⟩
    rw [e3, List.drop_drop, Nat.succ_mul, Nat.add_comm]
theorem uP (agg : Bool) (wd : Nat) : ∀ (ks : List (Value × Nat)) (vs us : List Value) (k : Value) (b : Nat), vs.length = ks.length * wd → (agg = false → wd = 1) → us.length = wd → bX agg wd (ks ++ [(k, b)]) (vs ++ us) = bX agg wd ks vs ++ [{ key := k, val := fP agg wd us, born := b }]
 | [], vs, us, k, b, h, _, hu => by
  have : vs = [] := List.eq_nil_of_length_eq_zero (by simpa using h)
  subst this
  simp [bX, fP]
 | (x, b') :: r, vs, us, k, b, h, ha, hu => by
  have hl : wd ≤ vs.length := by rw [h]; simp [Nat.succ_mul]
  simp only [List.cons_append, bX]
  rw [List.drop_append_of_le_length hl, uP agg wd r (vs.drop wd) us k b (by simp [h, Nat.succ_mul]) ha hu, List.take_append_of_le_length hl]
  cases agg with
  | true => rfl
  | false =>
   have := ha rfl
   subst this
   cases vs with
   | nil => simp at hl
   | cons y ys => rfl
theorem zH {α : Type} {l vs : List α} {off d : Nat} (h : d ≤ off) (h2 : off + vs.length ≤ l.length) : (aV l off vs).drop d = aV (l.drop d) (off - d) vs := by
 unfold aV
 rw [List.drop_drop, show d + (off - d + vs.length) = off + vs.length by omega, List.append_assoc, List.append_assoc, List.drop_append_of_le_length (by simp; omega), List.drop_take]
theorem uN (agg : Bool) (wd : Nat) : ∀ (ks : List (Value × Nat)) (vs us : List Value) (m : Nat), vs.length = ks.length * wd → (agg = false → wd = 1) → us.length = wd → m < ks.length → bX agg wd ks (aV vs (m * wd) us) = (bX agg wd ks vs).modify m fun e => { e with val := fP agg wd us }
 | [], vs, us, m, _, _, _, hm => by simp at hm
 | (x, b) :: r, vs, us, m, h, ha, hu, hm => by
  have hl : wd ≤ vs.length := by rw [h]; simp [Nat.succ_mul]
  cases m with
  | zero =>
   simp only [Nat.zero_mul, bX, List.modify_zero_cons]
   have e1 : aV vs 0 us = us ++ vs.drop wd := by simp [aV, hu]
   rw [e1, List.drop_left' hu, List.take_left' hu]
   cases agg with
   | true => simp [fP, ← hu]
   | false =>
    have := ha rfl
    subst this
    cases us with
    | nil => simp at hu
    | cons y ys => simp [fP]
  | succ m =>
   have hm' : m < r.length := by simpa using hm
   have hle : (m + 1) * wd + us.length ≤ vs.length := by
    rw [h, hu]
    have : (m + 2) * wd ≤ (r.length + 1) * wd := Nat.mul_le_mul_right _ (by omega)
    have e : (m + 2) * wd = (m + 1) * wd + wd := by rw [Nat.succ_mul]
    simp only [List.length_cons]
    omega
   have hge : wd ≤ (m + 1) * wd := by rw [Nat.succ_mul]; omega
   simp only [bX, List.modify_succ_cons]
   rw [zH hge hle, show (m + 1) * wd - wd = m * wd by rw [Nat.succ_mul]; omega, uN agg wd r (vs.drop wd) us m (by simp [h, Nat.succ_mul]) ha hu hm']
   have e2 : (aV vs ((m + 1) * wd) us).take wd = vs.take wd := by
    unfold aV
    rw [List.append_assoc, List.take_append_of_le_length (by simp; omega), List.take_take, Nat.min_eq_left hge]
   have e3 : agg = false → (aV vs ((m + 1) * wd) us).headD undef = vs.headD undef := by
    intro ha'
    have := ha ha'
    subst this
    cases vs with
    | nil => simp at hl
    | cons y ys => simp [aV]
   rw [e2]
   cases agg with
   | true => rfl
   | false => simp only [Bool.false_eq_true, if_false]; rw [e3 rfl]
section
variable {P : Program} {fr : Fr} {own : Own} {a : Act} {w w' : World} {pl : Pl} {o : Oper} {p : Path} {lk : Lk}
def mmX (P : Program) (ob : Own) (T : TypeId) (nid : Nat) : Option Eff :=
 match P.underlying T, ob nid with
 | some (.map _ et), none => match Eng.isAggB P et, P.info? et with
  | some agg, some i => if agg || Nat.beq i.size 1 then some ⟨.c (.mp nid), [(nid, .box ⟨.mapx agg i.size [] 0, none⟩ [])], [nid], []⟩ else none
  | _, _ => none
 | _, _ => none
theorem mmX_ok (m : Mem fr own w pl) {T : TypeId} (hop : o.op = .makeMap T none) {ob : Own} {nid : Nat} {e : Eff} (h : mmX P ob T nid = some e) (hob : ∀ i ∈ e.touch, own i = ob i) : Does P fr own a w pl o e := by
 unfold mmX at h
 split at h
 rename_i kt et hu hnone
 split at h
 rename_i agg i ha hi
 split at h
 simp only [Option.some.injEq] at h
 subst h
 intro K Q hK
 obtain ⟨pl', m', L, hb, _⟩ := m.newBoxO (i := nid) (by rw [hob nid (by simp), hnone]) ⟨.mapx agg i.size [] 0, none⟩ (fun b hb => by cases hb) (cells := []) (vs := []) All2.nil (x := .map #[] 0) rfl
 have hrun : (execOp a.eval o).run P w = .ok (.value (.map (some w.heap.size))) (w.alloc (.map #[] 0)) := by
  unfold execOp
  simp only [hop]
  simp [Instr.makeMap, run_underlying hu, newObj]
  rfl
 unfold Oper.wp
 rw [hrun, Oper.upon_value]
 exact hK _ _ pl' m' L (.inr ⟨⟨_, [], upd_same _ _ _⟩, by rw [hb]⟩)
 cases h
 cases h
 cases h
def aD7 (agg : Bool) (wd : Nat) : SV → Option (List C)
 | .c x => if agg then none else some [x]
 | .agg xs => if agg && Nat.beq xs.length wd then some xs else none
 | .tup _ => none
theorem aIZ {agg : Bool} {wd : Nat} (hw : agg = false → wd = 1) {s : SV} {cs : List C} {v : Value} (h : aD7 agg wd s = some cs) (hv : bC w pl own s v) : ∃ us : List Value, v = fP agg wd us ∧ us.length = wd ∧ All2 (COk w pl own) cs us := by
 unfold aD7 at h
 split at h
 split at h
 cases h
 rename_i x ha
 simp only [Option.some.injEq] at h; subst h
 have ha : agg = false := by simpa using ha
 exact ⟨[v], by simp [fP, ha], (hw ha).symm, All2.one hv⟩
 split at h
 rename_i xs ha
 simp only [Bool.and_eq_true, jO] at ha
 simp only [Option.some.injEq] at h; subst h
 obtain ⟨vs, rfl, h2⟩ := hv
 have hl : vs.length = wd := by rw [← h2.1]; exact ha.2
 exact ⟨vs, by simp [fP, ha.1, ← hl], hl, h2⟩
 cases h
 cases h
def svX (agg : Bool) (cs : List C) : Option SV := if agg then some (.agg cs) else match cs with
 | [c] => some (.c c)
 | _ => none
def insX (P : Program) (lk : Lk) (ob : Own) (T : TypeId) (m k x : Operand) : Option Eff :=
 match lk [] m, exO lk [] k, lk [] x with
 | some (.c (.mp i)), some key, some s => match ob i, P.underlying T with
  | some (.box ⟨.mapx agg wd ks next, q⟩ cells), some (.map kt _) => match P.underlying kt, aD7 agg wd s with
   | some kd, some cs => if qV kd key && Nat.beq cells.length (ks.length * wd) && (agg || Nat.beq wd 1) then match Instr.findNow kd key (bX agg wd ks []) 0 with
     | some none => some ⟨.c .any, [(i, .box ⟨.mapx agg wd (ks ++ [(key, next)]) (next + 1), q⟩ (cells ++ cs))], [i], []⟩
     | some (some (j, _)) => match ks[j]? with
      | some (key0, _) => if Instr.sameBits 10000 key0 key then some ⟨.c .any, [(i, .box ⟨.mapx agg wd (ks.modify j fun y => (key, y.2)) next, q⟩ (aV cells (j * wd) cs))], [i], []⟩ else none
      | none => none
     | none => none
    else none
   | _, _ => none
  | _, _ => none
 | _, _, _ => none
theorem run_checkKey {e : Bool} {kt : TypeId} {kd : TypeDesc} {key : Value} (hkt : P.underlying kt = some kd) (hk : qV kd key = true) : (Instr.checkKey e 10000 kt key).run P w = .ok () w := by
 unfold Instr.checkKey
 cases kd <;> cases key <;> first | (simp [qV] at hk; done) | simp [Sem.run_bind, run_underlying hkt, Result.andThen]
theorem run_findKey {kt : TypeId} {kd : TypeDesc} {key : Value} {es : List MapEntry} {x : Option (Nat × Value)} (hkt : P.underlying kt = some kd) (h : Instr.findNow kd key es 0 = some x) : (Instr.findKey kt key es).run P w = .ok x w := by
 unfold Instr.findKey
 simp [Sem.run_bind, run_underlying hkt, Result.andThen, h]
theorem uO (agg : Bool) (wd : Nat) (key : Value) : ∀ (ks : List (Value × Nat)) (vs : List Value) (j : Nat), bX agg wd (ks.modify j fun y => (key, y.2)) vs = (bX agg wd ks vs).modify j fun e => { e with key }
 | [], vs, j => by cases j <;> rfl
 | x :: r, vs, 0 => rfl
 | x :: r, vs, j + 1 => by simp only [List.modify_succ_cons, bX]; rw [uO agg wd key r]
theorem aFN (m : Mem fr own w pl) (hl : bH a w pl own p lk) (hp : Eng.Holds a p) {T : TypeId} {y k x : Operand} (hop : o.op = .insert T y k x ∨ o.op = .mapUpdate T y k x) (hd : o.dst = none) {ob : Own} {e : Eff} (h : insX P lk ob T y k x = some e) (hob : ∀ i ∈ e.touch, own i = ob i) : Does P fr own a w pl o e := by
  unfold insX at h
  split at h
  · rename_i i key s hy hk hx
    split at h
    · rename_i agg wd ks next q cells kt et hbx hu
      split at h
      · rename_i kd cs hkt hc
        split at h
        · rename_i hchk
          simp only [Bool.and_eq_true, Bool.or_eq_true, jO] at hchk
          obtain ⟨⟨hokk, hlen⟩, hwd⟩ := hchk
          have hw : agg = false → wd = 1 := fun ha => by rcases hwd with h | h; · rw [ha] at h; cases h
                                                         · exact h
          obtain ⟨uv, huv, hul, hcu⟩ := aIZ hw hc (hl [] x s hx holds_nil hp)
          obtain ⟨_, hv⟩ := hl [] y _ hy holds_nil hp
          have hkv := bJ hl hp holds_nil hk
          split at h
          · rename_i hfn
            simp only [Option.some.injEq] at h
            subst h
            have hi : own i = some (.box ⟨.mapx agg wd ks next, q⟩ cells) := by rw [hob i (by simp), hbx]
            obtain ⟨vs, hb, hcells⟩ := m.obj i _ hi
            have hb : w.heap[pl.blk i]? = some (.map (bX agg wd ks vs).toArray next) := hb
            have hvl : vs.length = ks.length * wd := by rw [← hcells.1]; exact hlen
            have hf := (aA5 (agg := agg) (wd := wd) (kd := kd) (k := key) ks vs [] 0).2 hfn
            intro K Q hK
            obtain ⟨m', L⟩ := m.turnObjO (ty' := ⟨.mapx agg wd (ks ++ [(key, next)]) (next + 1), q⟩) (cells' := cells ++ cs) (vs' := vs ++ uv) hi rfl (hcells.append hcu) (x := .map ((bX agg wd ks vs).toArray.push { key, val := fP agg wd uv, born := next }) (next + 1)) (by
              show _ = _
              rw [uP agg wd ks vs uv key next hvl hw hul]
              simp)
            have hgo : (getObj (pl.blk i)).run P w = .ok (.map (bX agg wd ks vs).toArray next) w := by simp [getObj, Sem.run, hb]
            have hso : ∀ ob2, (setObj (pl.blk i) ob2).run P w = .ok () { w with heap := w.heap.setIfInBounds (pl.blk i) ob2 } := fun ob2 => by simp [setObj, Sem.run, hb]
            have hmu : (Instr.mapUpdate T (.map (some (pl.blk i))) key (fP agg wd uv)).run P w = .ok () { w with heap := w.heap.setIfInBounds (pl.blk i) (.map ((bX agg wd ks vs).toArray.push { key, val := fP agg wd uv, born := next }) (next + 1)) } := by
              unfold Instr.mapUpdate
              simp only [Sem.run_bind, run_underlying hu, Result.andThen_ok, hgo, run_checkKey hkt hokk, run_findKey hkt hf]
              rw [hso]
            have hrun : (execOp a.eval o).run P w = .ok .skip { w with heap := w.heap.setIfInBounds (pl.blk i) (.map ((bX agg wd ks vs).toArray.push { key, val := fP agg wd uv, born := next }) (next + 1)) } := by
              unfold execOp
              rcases hop with hop | hop
              · simp only [hop, hv, hkv, huv, Sem.run_bind, hmu, Result.andThen_ok, Sem.run_pure]
              · simp only [hop, hv, hkv, huv, Sem.run_bind, hmu, Result.andThen_ok, Sem.run_pure]
            unfold Oper.wp
            rw [hrun, Oper.upon_skip]
            exact hK undef _ pl m' L (.inl hd)
          · rename_i j v0 hfn
            split at h
            · rename_i key0 b0 hks
              split at h
              · rename_i hsb
                simp only [Option.some.injEq] at h
                subst h
                have hi : own i = some (.box ⟨.mapx agg wd ks next, q⟩ cells) := by rw [hob i (by simp), hbx]
                obtain ⟨vs, hb, hcells⟩ := m.obj i _ hi
                have hb : w.heap[pl.blk i]? = some (.map (bX agg wd ks vs).toArray next) := hb
                have hvl : vs.length = ks.length * wd := by rw [← hcells.1]; exact hlen
                obtain ⟨mm, hjm, hlt, hf⟩ := (aA5 (agg := agg) (wd := wd) (kd := kd) (k := key) ks vs [] 0).1 j v0 hfn
                have : mm = j := by omega
                subst this
                have hek : ((bX agg wd ks vs).toArray[mm]?).map (·.key) = some key0 := by
                  have : ∀ (ks : List (Value × Nat)) (vs : List Value) (j : Nat) (x : Value × Nat), ks[j]? = some x → ((bX agg wd ks vs)[j]?).map (·.key) = some x.1 := by
                    intro ks
                    induction ks with
                    | nil => intro vs j x h; simp at h
                    | cons y r ih =>
                      intro vs j x h
                      cases j with
                      | zero => simp only [List.getElem?_cons_zero, Option.some.injEq] at h; subst h; rfl
                      | succ j => simpa [bX] using ih (vs.drop wd) j x (by simpa using h)
                  simpa using this ks vs mm _ hks
                intro K Q hK
                obtain ⟨m', L⟩ := m.turnObjO (ty' := ⟨.mapx agg wd (ks.modify mm fun y => (key, y.2)) next, q⟩) (cells' := aV cells (mm * wd) cs) (vs' := aV vs (mm * wd) uv) hi rfl (f6 hcells hcu _) (x := .map ((bX agg wd ks vs).toArray.modify mm fun e => { e with key, val := fP agg wd uv }) next) (by
                  show _ = _
                  rw [uO, uN agg wd ks vs uv mm hvl hw hul hlt]
                  congr 2
                  apply Array.ext'
                  simp only [Array.toList_modify]
                  apply List.ext_getElem?
                  intro z
                  simp only [List.getElem?_modify]
                  by_cases hz : mm = z
                  · subst hz
                    cases (bX agg wd ks vs)[mm]? <;> simp
                  · simp [hz])
                have hgo : (getObj (pl.blk i)).run P w = .ok (.map (bX agg wd ks vs).toArray next) w := by simp [getObj, Sem.run, hb]
                have hso : ∀ ob2, (setObj (pl.blk i) ob2).run P w = .ok () { w with heap := w.heap.setIfInBounds (pl.blk i) ob2 } := fun ob2 => by simp [setObj, Sem.run, hb]
                have hks2 : (Instr.keyThatStays key0 key).run P w = .ok key w := by simp [Instr.keyThatStays, hsb]
                have hmu : (Instr.mapUpdate T (.map (some (pl.blk i))) key (fP agg wd uv)).run P w = .ok () { w with heap := w.heap.setIfInBounds (pl.blk i) (.map ((bX agg wd ks vs).toArray.modify mm fun e => { e with key, val := fP agg wd uv }) next) } := by
                  unfold Instr.mapUpdate
                  simp only [Sem.run_bind, run_underlying hu, Result.andThen_ok, hgo, run_checkKey hkt hokk, run_findKey hkt hf, hek, Option.getD_some, hks2]
                  rw [hso]
                have hrun : (execOp a.eval o).run P w = .ok .skip { w with heap := w.heap.setIfInBounds (pl.blk i) (.map ((bX agg wd ks vs).toArray.modify mm fun e => { e with key, val := fP agg wd uv }) next) } := by
                  unfold execOp
                  rcases hop with hop | hop
                  · simp only [hop, hv, hkv, huv, Sem.run_bind, hmu, Result.andThen_ok, Sem.run_pure]
                  · simp only [hop, hv, hkv, huv, Sem.run_bind, hmu, Result.andThen_ok, Sem.run_pure]
                unfold Oper.wp
                rw [hrun, Oper.upon_skip]
                exact hK undef _ pl m' L (.inl hd)
              · cases h
            · cases h
          · cases h
        · cases h
      · cases h
    · cases h
  · cases h
def aGM (agg : Bool) (cs : List C) (b : Bool) : SV := .tup [(agg, cs), (false, [.d (.v (.bool b))])]
def lkpX (P : Program) (lk : Lk) (ob : Own) (T : TypeId) (m k : Operand) (ok : Bool) : Option Eff :=
 match lk [] m, exO lk [] k with
 | some (.c (.mp i)), some key => match ob i, P.underlying T with
  | some (.box ⟨.mapx agg wd ks next, q⟩ cells), some (.map kt et) => match P.underlying kt with
   | some kd => if qV kd key && Nat.beq cells.length (ks.length * wd) && (agg || Nat.beq wd 1) then match Instr.findNow kd key (bX agg wd ks []) 0 with
     | some (some (j, _)) => match svX agg ((cells.drop (j * wd)).take wd) with
      | some s => some ⟨if ok then aGM agg ((cells.drop (j * wd)).take wd) true else s, [], [i], []⟩
      | none => none
     | some none => match P.info? et with
      | some ti => match ti.zero with
       | some z => match ofV z with
        | some s => match s with
         | .c c => some ⟨if ok then aGM false [c] false else s, [], [i], []⟩
         | .agg cs => some ⟨if ok then aGM true cs false else s, [], [i], []⟩
         | .tup _ => none
        | none => none
       | none => none
      | none => none
     | none => none
    else none
   | none => none
  | _, _ => none
 | _, _ => none
theorem oR {T kt et : TypeId} {kd : TypeDesc} {key : Value} {r cl : Nat} {es : List MapEntry} {ok : Bool} {v : Value} {b : Bool} (hu : P.underlying T = some (.map kt et)) (hkt : P.underlying kt = some kd) (hk : qV kd key = true) (hb : w.heap[r]? = some (.map es.toArray cl))
  (hf : (b = true ∧ ∃ j, Instr.findNow kd key es 0 = some (some (j, v))) ∨ (b = false ∧ Instr.findNow kd key es 0 = some none ∧ ∃ ti, P.info? et = some ti ∧ ti.zero = some v)) :
  (Instr.lookup T (.map (some r)) key ok).run P w = .ok (if ok then .tuple #[v, .bool b] else v) w := by
 unfold Instr.lookup
 have hgo : (getObj r).run P w = .ok (.map es.toArray cl) w := by simp [getObj, Sem.run, hb]
 rcases hf with ⟨rfl, j, hj⟩ | ⟨rfl, hn, ti, hti, hz⟩
 simp only [Sem.run_bind, run_underlying hu, Result.andThen_ok, hgo, run_checkKey hkt hk, run_findKey hkt hj, Sem.run_pure]
 have hzv : (zeroValue et).run P w = .ok v w := by simp [zeroValue, typeInfo, hti, hz]
 simp only [Sem.run_bind, run_underlying hu, Result.andThen_ok, hgo, run_checkKey hkt hk, run_findKey hkt hn, Sem.run_pure, hzv]
theorem aHK {b : Bool} : bR w pl own (false, [.d (.v (.bool b))]) (.bool b) := Rd.v _ rfl
theorem lK {agg : Bool} {cs : List C} {b : Bool} {v : Value} (h : bR w pl own (agg, cs) v) : bC w pl own (aGM agg cs b) (.tuple #[v, .bool b]) := ⟨[v, .bool b], rfl, All2.cons h (All2.one aHK)⟩
theorem lkpX_ok (m : Mem fr own w pl) (hl : bH a w pl own p lk) (hp : Eng.Holds a p) {T : TypeId} {y k : Operand} {ok : Bool} (hop : o.op = .lookup T y k ok) {ob : Own} {e : Eff} (h : lkpX P lk ob T y k ok = some e) (hob : ∀ i ∈ e.touch, own i = ob i) : Does P fr own a w pl o e := by
  unfold lkpX at h
  split at h
  · rename_i i key hy hk
    split at h
    · rename_i agg wd ks next q cells kt et hbx hu
      split at h
      · rename_i kd hkt
        split at h
        · rename_i hchk
          simp only [Bool.and_eq_true, Bool.or_eq_true, jO] at hchk
          obtain ⟨⟨hokk, hlen⟩, hwd⟩ := hchk
          have hw : agg = false → wd = 1 := fun ha => by rcases hwd with h | h; · rw [ha] at h; cases h
                                                         · exact h
          obtain ⟨_, hv⟩ := hl [] y _ hy holds_nil hp
          have hkv := bJ hl hp holds_nil hk
          split at h
          · rename_i j v0 hfn
            split at h
            · rename_i s hs
              simp only [Option.some.injEq] at h
              subst h
              have hi : own i = some (.box ⟨.mapx agg wd ks next, q⟩ cells) := by rw [hob i (by simp), hbx]
              obtain ⟨vs, hb, hcells⟩ := m.obj i _ hi
              have hb : w.heap[pl.blk i]? = some (.map (bX agg wd ks vs).toArray next) := hb
              obtain ⟨mm, hjm, hlt, hf⟩ := (aA5 (agg := agg) (wd := wd) (kd := kd) (k := key) ks vs [] 0).1 j v0 hfn
              have : mm = j := by omega
              subst this
              have hvl : vs.length = ks.length * wd := by rw [← hcells.1]; exact hlen
              have hcut : All2 (COk w pl own) ((cells.drop (mm * wd)).take wd) ((vs.drop (mm * wd)).take wd) := (hcells.drop _).take _
              have hpart : bR w pl own (agg, (cells.drop (mm * wd)).take wd) (fP agg wd (vs.drop (mm * wd))) := by
                cases agg with
                | true => exact ⟨_, by simp [fP], hcut⟩
                | false =>
                  have := hw rfl
                  subst this
                  simp only [svX, Bool.false_eq_true, if_false] at hs
                  split at hs
                  · rename_i c hc1
                    rw [hc1] at hcut ⊢
                    obtain ⟨u, t, hu1, hcu, ht⟩ := hcut.uncons
                    have : (vs.drop (mm * 1)).headD undef = u := by
                      cases hvd : vs.drop (mm * 1) with
                      | nil => rw [hvd] at hu1; simp at hu1
                      | cons z zs => rw [hvd] at hu1; simp at hu1; simp [hu1.1]
                    simp only [fP, Bool.false_eq_true, if_false, this]
                    exact hcu
                  · cases hs
              have hsv : bC w pl own s (fP agg wd (vs.drop (mm * wd))) := by
                unfold svX at hs
                cases agg with
                | true => simp only [if_true, Option.some.injEq] at hs; subst hs; exact hpart
                | false =>
                  simp only [Bool.false_eq_true, if_false] at hs
                  split at hs
                  · rename_i c hc1
                    simp only [Option.some.injEq] at hs; subst hs
                    rw [hc1] at hpart
                    exact hpart
                  · cases hs
              have hrun := oR (w := w) (ok := ok) hu hkt hokk hb (.inl ⟨rfl, _, hf⟩)
              refine aD (v := if ok then .tuple #[fP agg wd (vs.drop (mm * wd)), .bool true] else fP agg wd (vs.drop (mm * wd))) m ?_ ?_
              · unfold execOp
                simp only [hop, hv, hkv, Sem.run_bind, hrun, Result.andThen_ok, Sem.run_pure]
                done
              · cases ok with
                | true => exact lK hpart
                | false => exact hsv
            · cases h
          · rename_i hfn
            split at h
            · rename_i ti hti
              split at h
              · rename_i z hz
                split at h
                · rename_i s hs
                  have fin : ∀ (s' : SV) (tp : SV), e = ⟨if ok then tp else s', [], [i], []⟩ → bC w pl own s' z → bC w pl own tp (.tuple #[z, .bool false]) → Does P fr own a w pl o e := by
                    rintro s' tp rfl h1 h2
                    have hi : own i = some (.box ⟨.mapx agg wd ks next, q⟩ cells) := by rw [hob i (by simp), hbx]
                    obtain ⟨vs, hb, hcells⟩ := m.obj i _ hi
                    have hb : w.heap[pl.blk i]? = some (.map (bX agg wd ks vs).toArray next) := hb
                    have hf := (aA5 (agg := agg) (wd := wd) (kd := kd) (k := key) ks vs [] 0).2 hfn
                    have hrun := oR (w := w) (ok := ok) hu hkt hokk hb (.inr ⟨rfl, hf, ti, hti, hz⟩)
                    refine aD (v := if ok then .tuple #[z, .bool false] else z) m ?_ ?_
                    · unfold execOp
                      simp only [hop, hv, hkv, Sem.run_bind, hrun, Result.andThen_ok, Sem.run_pure]
                      done
                    · cases ok with
                      | true => exact h2
                      | false => exact h1
                  have hsv : bC w pl own s z := kU hs
                  split at h
                  · rename_i c
                    simp only [Option.some.injEq] at h
                    exact fin _ _ h.symm hsv (lK (agg := false) hsv)
                  · rename_i cs'
                    simp only [Option.some.injEq] at h
                    exact fin _ _ h.symm hsv (lK (agg := true) hsv)
                  · cases h
                · cases h
              · cases h
            · cases h
          · cases h
        · cases h
      · cases h
    · cases h
  · cases h
def lkpN (P : Program) (lk : Lk) (T : TypeId) (m k : Operand) (ok : Bool) : Option Eff :=
 match lk [] m, exO lk [] k with
 | some (.c (.d (.v (.map none)))), some key => match P.underlying T with
  | some (.map kt et) => match P.underlying kt, P.info? et with
   | some kd, some ti => bif qV kd key then (match ti.zero with
    | some z => match ofV z with
     | some s => match s with
      | .c c => some ⟨if ok then aGM false [c] false else s, [], [], []⟩
      | .agg cs => some ⟨if ok then aGM true cs false else s, [], [], []⟩
      | .tup _ => none
     | none => none
    | none => none) else none
   | _, _ => none
  | _ => none
 | _, _ => none
theorem lkpN_ok (m : Mem fr own w pl) (hl : bH a w pl own p lk) (hp : Eng.Holds a p) {T : TypeId} {y k : Operand} {ok : Bool} (hop : o.op = .lookup T y k ok) {e : Eff} (h : lkpN P lk T y k ok = some e) : Does P fr own a w pl o e := by
 unfold lkpN at h
 split at h
 rename_i key hy hk
 split at h
 rename_i kt et hu
 split at h
 rename_i kd ti hkt hti
 cases hokk : qV kd key with
 | false => rw [hokk] at h; cases h
 | true =>
  rw [hokk] at h
  simp only [cond_true] at h
  have hv : a.eval y = .map none := Rd.exact (hl [] y _ hy holds_nil hp)
  have hkv := bJ hl hp holds_nil hk
  split at h
  rename_i z hz
  split at h
  rename_i s hs
  have hzv : (zeroValue et).run P w = .ok z w := by simp [zeroValue, typeInfo, hti, hz]
  have hrun : (Instr.lookup T (.map none) key ok).run P w = .ok (if ok then .tuple #[z, .bool false] else z) w := by
   unfold Instr.lookup
   have hfk : (Instr.findKey kt key []).run P w = .ok none w := run_findKey hkt rfl
   simp only [Sem.run_bind, run_underlying hu, Result.andThen_ok, run_checkKey hkt hokk, hfk, Sem.run_pure, hzv]
  have fin : ∀ (s' : SV) (tp : SV), e = ⟨if ok then tp else s', [], [], []⟩ → bC w pl own s' z → bC w pl own tp (.tuple #[z, .bool false]) → Does P fr own a w pl o e := by
   rintro s' tp rfl h1 h2
   refine aD (v := if ok then .tuple #[z, .bool false] else z) m ?_ ?_
   unfold execOp
   simp only [hop, hv, hkv, Sem.run_bind, hrun, Result.andThen_ok, Sem.run_pure]
   cases ok with
   | true => exact h2
   | false => exact h1
  have hsv : bC w pl own s z := kU hs
  split at h
  rename_i c
  simp only [Option.some.injEq] at h
  exact fin _ _ h.symm hsv (lK (agg := false) hsv)
  rename_i cs'
  simp only [Option.some.injEq] at h
  exact fin _ _ h.symm hsv (lK (agg := true) hsv)
  cases h
  cases h
  cases h
 cases h
 cases h
 cases h
def opW (P : Program) (lk : Lk) (ob : Own) (o : Oper) (nid : Nat) : Option Eff := match o.op with
 | .makeMap T none => mmX P ob T nid
 | .insert T m k x => match o.dst with
  | none => insX P lk ob T m k x
  | some _ => none
 | .mapUpdate T m k x => match o.dst with
  | none => insX P lk ob T m k x
  | some _ => none
 | .lookup T m k ok => match lkpX P lk ob T m k ok with
  | some e => some e
  | none => lkpN P lk T m k ok
 | .load t x => aLQ P lk ob t x
 | .store ty x v => match o.dst with
  | none => aBZ P lk ob ty x v
  | some _ => none
 | .buildSlice T len parts => bslG P lk ob T len parts nid
 | .call { callee := .builtin .append, args := ⟨[s, x]⟩, argTypes := ⟨[T, T']⟩ } => bif Nat.beq T T' then appG P lk ob T s x nid else none
 | _ => none
theorem opW_ok (m : Mem fr own w pl) (hl : bH a w pl own p lk) (hp : Eng.Holds a p) {ob : Own} {nid : Nat} {e : Eff} (h : opW P lk ob o nid = some e) (hob : ∀ i ∈ e.touch, own i = ob i) : Does P fr own a w pl o e := by
 unfold opW at h
 split at h
 rename_i hop; exact mmX_ok m hop h hob
 rename_i hop
 split at h
 rename_i hd; exact aFN m hl hp (.inl hop) hd h hob
 cases h
 rename_i hop
 split at h
 rename_i hd; exact aFN m hl hp (.inr hop) hd h hob
 cases h
 rename_i hop
 split at h
 rename_i e' he
 simp only [Option.some.injEq] at h
 subst h
 exact lkpX_ok m hl hp hop he hob
 exact lkpN_ok m hl hp hop h
 rename_i hop; exact aLP m hl hp hop h hob
 rename_i hop
 split at h
 rename_i hd; exact aGR m hl hp hop hd h hob
 cases h
 rename_i hop; exact bslG_ok m hl hp hop h hob
 rename_i s x T T' hop
 cases hT : Nat.beq T T' with
 | false => rw [hT] at h; cases h
 | true =>
  rw [hT] at h
  have := Nat.eq_of_beq_eq_true hT
  subst this
  exact appG_ok m hl hp hop h hob
 cases h
end
end Go.V
namespace Go.V
open Go.RowKit
section
variable {P : Program} {fr : Fr} {own own' : Own} {a : Act} {w w' : World} {pl pl' : Pl} {o : Oper} {p : Path} {lk : Lk}
theorem Mem.freeze (h : Mem fr own w pl) {i k : Nat} {e : TypeId} {sz : Nat} {es : List (List D)} (hi : own i = some (.arr k ⟨e, []⟩ sz es)) (h100 : 100 ≤ i) :
  ∃ pl', Mem fr (upd own i (.arr (k + 1) ⟨e, []⟩ sz [])) w pl' ∧ Later w pl own w pl' (upd own i (.arr (k + 1) ⟨e, []⟩ sz [])) ∧
   Rd w (Sh pl' (upd own i (.arr (k + 1) ⟨e, []⟩ sz []))) (.sl sz es) (.slice (pl.sl i).1 es.length (pl.sl i).2) := by
 obtain ⟨xs, hxs, hr, hs⟩ := h.obj i _ hi
 have hr : All2 (Rd w (Sh pl own)) es.flatten xs := hr
 have hb0 : aJ pl own i = (pl.sl i).1.map (·.block) := by unfold aJ; rw [hi]
 have := Mem.set (own' := upd own i (.arr (k + 1) ⟨e, []⟩ sz [])) (pl' := ⟨pl.S, pl.blk, pI pl.sl i (none, 0)⟩) (w' := w) h i (.arr (k + 1) ⟨e, []⟩ sz []) rfl rfl (fun j hj => ⟨rfl, jW _ _ hj⟩) (fun _ _ _ => rfl)
  (fun _ _ => ⟨[], by simp only [cE]; exact ⟨by simp, .inl ⟨rfl, rfl⟩⟩, AllO.of All2.nil, by simp⟩)
  (fun b hb => by simp [aJ, upd_same, cE] at hb)
  (fun ty cs h => by rw [hi] at h; cases h)
  (fun k2 e2 sz2 es2 h => by
   rw [hi] at h
   injection h with h
   injection h with h1 h2 h3 h4
   subst h1
   exact ⟨k + 1, _, _, _, rfl, by omega, fun hk => by omega⟩) rfl rfl rfl (Nat.le_refl _) (fun _ _ _ he => by cases he)
 obtain ⟨m', L⟩ := this
 refine ⟨_, m', L, ?_⟩
 rcases hxs.2 with ⟨hA, h0⟩ | ⟨g, cap, cur, hA, hB, hg, hn, hc, hsz, htk⟩
 ·injection hA with h1 h2 h3
  have : es = [] := List.eq_nil_of_length_eq_zero h0
  subst this
  rw [h1, h3]
  exact .nil sz
 ·injection hA with h1 h2 h3
  rw [h1, h3]
  have hbg : aJ pl own i = some g := by rw [hb0, h1]; rfl
  have hSg : pl.S g := (h.hS g).2 (.inr (by
   rcases h.base i g hbg with hh | hh
   ·exact hh
   ·have := h.frOk.few i g hh; omega))
  have hget : ∀ (i j : Nat) (ds : List D) (d : D), es[i]? = some ds → ds[j]? = some d → ∃ x, xs[i * sz + j]? = some x ∧ Rd w (Sh pl own) d x := fun i j ds d hi hj => hr.get (c7 hs hi hj)
  have hus : ∀ {q : Nat} {x : Value}, xs[q]? = some x → xs.getD q undef = x := fun hx => by rw [List.getD_eq_getElem?_getD, hx]; rfl
  refine Rd.sl (off := 0) (fun i j => xs.getD (i * sz + j) undef) ⟨hSg, fun j hj => ?_⟩ hg hn (by omega) hs (fun i' j ds d hi' hj => ?_) (fun i' j ds d hi' hj => ?_)
  ·by_cases hji : j = i
   ·subst hji
    simp [aJ, upd_same, cE] at hj
   ·rw [fM (own' := upd own i (.arr (k + 1) ⟨e, []⟩ sz [])) (own := own) (pl' := ⟨pl.S, pl.blk, pI pl.sl i (none, 0)⟩) (pl := pl) (upd_ne _ _ hji) rfl (jW _ _ hji)] at hj
    exact hji (h.inj j i g hj hbg)
  ·obtain ⟨x, hx, _⟩ := hget i' j ds d hi' hj
   rw [hus hx]
   rw [← htk, List.getElem?_take] at hx
   split at hx
   ·simpa using hx
   ·cases hx
  ·obtain ⟨x, hx, hrx⟩ := hget i' j ds d hi' hj
   rw [hus hx]
   exact L.rd hrx
def frC (i k sz : Nat) (es : List (List D)) : C → C
 | .ar j k' => bif Nat.beq j i && Nat.beq k' k then .d (.sl sz es) else .ar j k'
 | c => c
def lkF (lk : Lk) (i k sz : Nat) (es : List (List D)) : Lk := fun q x => match lk q x with
 | some (.c c) => some (.c (frC i k sz es c))
 | some (.agg xs) => some (.agg (xs.map (frC i k sz es)))
 | r => r
def aDU (lk : Lk) (own : Tr Ob) (i : Nat) : Option (Lk × Tr Ob × (Nat × Ob)) := match own.get i with
 | some (.arr k ⟨e, []⟩ sz es) => bif Nat.ble 100 i then (match nC own [(i, .arr (k + 1) ⟨e, []⟩ sz [])] with
  | some own' => some (lkF lk i k sz es, own', (i, .arr (k + 1) ⟨e, []⟩ sz []))
  | none => none) else none
 | _ => none
def rM : List Nat → Lk → Tr Ob → Option (Lk × Tr Ob × List (Nat × Ob))
 | [], lk, own => some (lk, own, [])
 | i :: r, lk, own => match aDU lk own i with
  | some (lk1, own1, u) => match rM r lk1 own1 with
   | some (lk2, own2, us) => some (lk2, own2, u :: us)
   | none => none
  | none => none
def aI3 : List C → List Nat → List Nat
 | [], a => a
 | .ar i _ :: r, a => bif (aI3 r a).contains i then aI3 r a else i :: aI3 r a
 | _ :: r, a => aI3 r a
def aF8 (lk : Lk) : List Operand → List Nat
 | [] => []
 | x :: r => match lk [] x with
  | some (.c c) => aI3 [c] (aF8 lk r)
  | some (.agg xs) => aI3 xs (aF8 lk r)
  | _ => aF8 lk r
theorem All2.mapL {α β γ : Type} {R : α → β → Prop} {S : γ → β → Prop} {f : α → γ} {xs : List α} {ys : List β} (h : All2 R xs ys) (hf : ∀ x y, R x y → S (f x) y) : All2 S (xs.map f) ys := by
 refine ⟨by simp [h.1], fun j x y hx hy => ?_⟩
 rw [List.getElem?_map] at hx
 cases hj : xs[j]? with
 | none => rw [hj] at hx; cases hx
 | some z =>
  rw [hj] at hx
  simp only [Option.map_some, Option.some.injEq] at hx
  subst hx
  exact hf _ _ (h.2 j z y hj hy)
theorem aIJ {T T1 : Tr Ob} {i : Nat} {lk1 : Lk} {u : Nat × Ob} (h : aDU lk T i = some (lk1, T1, u)) : u.1 = i ∧ T1.get = upd T.get i u.2 ∧
  ∀ {fr : Fr} {own0 : Own} {a : Act} {w : World} {pl : Pl} {p : Path}, own0 i = T.get i → Mem fr own0 w pl → bH a w pl own0 p lk → ∃ pl', Mem fr (upd own0 i u.2) w pl' ∧ Later w pl own0 w pl' (upd own0 i u.2) ∧ bH a w pl' (upd own0 i u.2) p lk1 := by
 unfold aDU at h
 split at h
 rename_i k e sz es hi
 cases h100 : Nat.ble 100 i with
 | false => rw [h100] at h; cases h
 | true =>
  rw [h100] at h
  simp only [cond_true] at h
  split at h
  rename_i T' hs
  simp only [Option.some.injEq, Prod.mk.injEq] at h
  obtain ⟨rfl, rfl, rfl⟩ := h
  refine ⟨rfl, eA hs, fun {fr own0 a w pl p} h0 m hl => ?_⟩
  obtain ⟨pl', m', L, hr⟩ := m.freeze (i := i) (by rw [h0]; exact hi) (Nat.le_of_ble_eq_true h100)
  refine ⟨pl', m', L, fun q x sv hx hq hp => ?_⟩
  have key : ∀ {c : C} {v : Value}, COk w pl own0 c v → COk w pl' (upd own0 i (.arr (k + 1) ⟨e, []⟩ sz [])) (frC i k sz es c) v := by
   intro c v hv
   cases c with
   | ar j k' =>
    simp only [frC]
    cases hb : (Nat.beq j i && Nat.beq k' k) with
    | false => exact L.c hv
    | true =>
     simp only [Bool.and_eq_true] at hb
     have e1 := Nat.eq_of_beq_eq_true hb.1
     have e2 := Nat.eq_of_beq_eq_true hb.2
     subst e1; subst e2
     rw [dG (w := w) hv (by rw [h0]; exact hi)]
     exact hr
   | _ => exact L.c hv
  unfold lkF at hx
  split at hx
  rename_i c hj
  simp only [Option.some.injEq] at hx
  subst hx
  exact key (hl q x _ hj hq hp)
  rename_i xs hj
  simp only [Option.some.injEq] at hx
  subst hx
  obtain ⟨vs, hv, h2⟩ := hl q x _ hj hq hp
  exact ⟨vs, hv, h2.mapL fun _ _ h => key h⟩
  exact L.sv (hl q x _ hx hq hp)
  cases h
 cases h
theorem uH : ∀ {l : List Nat} {lk lk1 : Lk} {T T1 : Tr Ob} {us : List (Nat × Ob)}, rM l lk T = some (lk1, T1, us) → keys us = l ∧ T1.get = bE T.get us ∧
  ∀ {fr : Fr} {own0 : Own} {a : Act} {w : World} {pl : Pl} {p : Path}, (∀ i ∈ l, own0 i = T.get i) → Mem fr own0 w pl → bH a w pl own0 p lk → ∃ pl', Mem fr (bE own0 us) w pl' ∧ Later w pl own0 w pl' (bE own0 us) ∧ bH a w pl' (bE own0 us) p lk1
 | [], lk, lk1, T, T1, us, h => by
  simp only [rM, Option.some.injEq, Prod.mk.injEq] at h
  obtain ⟨rfl, rfl, rfl⟩ := h
  exact ⟨rfl, rfl, fun {fr own0 a w pl p} _ m hl => ⟨pl, m, Later.refl _ _ _, hl⟩⟩
 | i :: r, lk, lk1, T, T1, us, h => by
  simp only [rM] at h
  split at h
  rename_i lkA TA u h1
  split at h
  rename_i lkB TB us' h2
  simp only [Option.some.injEq, Prod.mk.injEq] at h
  obtain ⟨rfl, rfl, rfl⟩ := h
  obtain ⟨a1, a2, a3⟩ := aIJ h1
  obtain ⟨b1, b2, b3⟩ := uH h2
  obtain ⟨ui, uo⟩ := u
  simp only at a1
  subst a1
  refine ⟨by simp only [keys, List.map_cons]; rw [← b1]; rfl, by rw [b2, a2]; rfl, fun {fr own0 a w pl p} h0 m hl => ?_⟩
  obtain ⟨pl1, m1, L1, hl1⟩ := a3 (h0 ui (by simp)) m hl
  obtain ⟨pl2, m2, L2, hl2⟩ := b3 (fun j hj => by
   rw [a2]
   by_cases hji : j = ui
   subst hji; rw [upd_same, upd_same]
   rw [upd_ne _ _ hji, upd_ne _ _ hji]; exact h0 j (by simp [hj])) m1 hl1
  exact ⟨pl2, m2, L1.trans L2, hl2⟩
  cases h
  cases h
theorem aIU {v : Value} {s : SV} {i : Nat} {ob : Ob} {t : List Nat} {c : List Obl} (m : Mem fr (upd own i ob) w pl') (L : Later w pl own w pl' (upd own i ob)) (hr : (execOp a.eval o).run P w = .ok (.value v) w) (hs : bC w pl' (upd own i ob) s v) : Does P fr own a w pl o ⟨s, [(i, ob)], t, c⟩ := by
 intro K Q hK
 unfold Oper.wp
 rw [hr, Oper.upon_value]
 exact hK v w pl' m L (.inr hs)
def cutE (P : Program) (lk : Lk) (ob : Own) (t : TypeId) (x : Operand) (lo hi : Option Operand) : Option Eff :=
 match P.underlying t, lk [] x with
 | some (.slice e), some (.c (.ar i k)) => match ob i, P.info? e with
  | some (.arr k' e' sz es), some ti => bif Nat.beq k' k && Nat.beq ti.size sz then (match lo with
   | none => (match oG lk hi es.length with
    | some (_, h) => bif decide (0 ≤ h ∧ h ≤ (es.length : Int)) && !mkd e'.ov then some ⟨.c (.ar i (k' + 1)), [(i, .arr (k' + 1) e' sz (es.take h.toNat))], [i], []⟩ else none
    | none => none)
   | some l0 => (match oG lk (some l0) 0, oG lk hi es.length with
    | some (_, l), some (_, h) => bif decide (0 ≤ l ∧ l ≤ h ∧ h ≤ (es.length : Int)) && !mkd e'.ov then some ⟨.c (.av i k' l.toNat (h.toNat - l.toNat)), [], [i], []⟩ else none
    | _, _ => none)) else none
  | _, _ => none
 | some (.slice e), some (.c (.d (.v (.slice none 0 0)))) => match oG lk lo 0, oG lk hi ((0 : Nat) : Int), P.info? e with
  | some (_, l), some (_, h), some ti => bif decide (l = 0 ∧ h = 0) then some ⟨.c (.d (.v (.slice none 0 0))), [], [], []⟩ else none
  | _, _, _ => none
 | _, _ => none
theorem wH {t el : TypeId} {x : Operand} {lo hi : Option Operand} {ti : TypeInfo} {A : Option Addr} {n c : Nat} {l h : Int} {v1 v2 : Option Value} (hop : o.op = .slice t x lo hi none) (hu : P.underlying t = some (.slice el)) (hti : P.info? el = some ti) (hx : a.eval x = .slice A n c)
  (hl : bH a w pl own p lk) (hp : Eng.Holds a p) (hb1 : oG lk lo 0 = some (v1, l)) (hb2 : oG lk hi (n : Int) = some (v2, h)) (hb : 0 ≤ l ∧ l ≤ h ∧ h ≤ (c : Int)) :
  (execOp a.eval o).run P w = .ok (.value (.slice (if c = l.toNat then A else A.map (·.add (l.toNat * ti.size))) (h.toNat - l.toNat) (c - l.toNat))) w := by
 obtain ⟨e1, k1⟩ := fY hl hp hb1
 obtain ⟨e2, k2⟩ := fY hl hp hb2
 unfold execOp
 simp only [hop, hx, e1, e2, Option.map_none]
 have := kQ (P := P) (w := w) (isS := true) (len := n) (cap := c) k1 k2 hb
 simp [Instr.sliceAt, run_underlying hu, Instr.slice, this, sizeOf, typeInfo, hti]
theorem ownsQ.take {B : Nat} {e : TypeId} {sz n c : Nat} {A : Option Addr} {xs : List Value} (h : ownsQ false w B e sz (.slice A n c) n xs) {k : Nat} (hk : k ≤ n) : ownsQ false w B e sz (.slice A k c) k (xs.take (k * sz)) := by
 obtain ⟨h1, h2⟩ := h
 have hle : k * sz ≤ n * sz := Nat.mul_le_mul_right _ hk
 refine ⟨by rw [List.length_take, h1]; omega, ?_⟩
 rcases h2 with ⟨hv, h0⟩ | ⟨g, cap, cur, hv, hB, hg, hn, hc, hs, ht⟩
 injection hv with e1 e2 e3
 obtain rfl : k = 0 := by omega
 exact .inl ⟨by rw [e1, e3], rfl⟩
 injection hv with e1 e2 e3
 exact .inr ⟨g, cap, cur, by rw [e1, e3], hB, hg, by omega, hc, hs, by rw [← ht, List.take_take, Nat.min_eq_left hle]⟩
theorem cutE_ok (m : Mem fr own w pl) (hl : bH a w pl own p lk) (hp : Eng.Holds a p) {t : TypeId} {x : Operand} {lo hi : Option Operand} (hop : o.op = .slice t x lo hi none) {ob : Own} {e : Eff} (h : cutE P lk ob t x lo hi = some e) (hob : ∀ i ∈ e.touch, own i = ob i) : Does P fr own a w pl o e := by
 unfold cutE at h
 split at h
 rename_i el i k hu hx
 split at h
 rename_i k' e' sz es ti hi' hti
 cases hc : (Nat.beq k' k && Nat.beq ti.size sz) with
 | false => rw [hc] at h; cases h
 | true =>
  rw [hc] at h
  simp only [cond_true] at h
  simp only [Bool.and_eq_true] at hc
  have e1 := Nat.eq_of_beq_eq_true hc.1
  have e2 := Nat.eq_of_beq_eq_true hc.2
  subst e1
  split at h
  split at h
  rename_i v2 hh hb2
  cases hd : (decide (0 ≤ hh ∧ hh ≤ (es.length : Int)) && !mkd e'.ov) with
  | false => rw [hd] at h; cases h
  | true =>
   rw [hd] at h
   simp only [cond_true, Option.some.injEq] at h
   subst h
   simp only [Bool.and_eq_true, decide_eq_true_eq, Bool.not_eq_true'] at hd
   obtain ⟨hd, hmk⟩ := hd
   have ho : own i = some (.arr k' e' sz es) := by rw [hob i (by simp)]; exact hi'
   have hv := dG (w := w) (hl [] x _ hx holds_nil hp) ho
   obtain ⟨xs, hxs, hr, hs⟩ := m.obj i _ ho
   rw [hmk] at hxs
   have hcap : es.length ≤ (pl.sl i).2 := by
    rcases hxs.2 with ⟨hA, h0⟩ | ⟨g, cap, cur, hA, hB, hg, hn, _⟩
    omega
    injection hA with _ _ h3; omega
   have hlen : (es.take hh.toNat).length = hh.toNat := by rw [List.length_take]; omega
   obtain ⟨pl', m', L, hsl⟩ := m.turnArrO (k' := k' + 1) (e' := e') (es' := es.take hh.toNat) (A := (pl.sl i).1) (cap := (pl.sl i).2) ho (w' := w) (World.grownBy.refl _ _) (by rw [hmk, hlen]; exact hxs.take (by omega)) (.inl rfl)
    ⟨by rw [fQ hs, List.length_take, List.length_take, hr.1], fun j d y hd' hy => by
     rw [fQ hs, List.getElem?_take] at hd'
     rw [List.getElem?_take] at hy
     split at hd'
     rename_i hj; rw [if_pos hj] at hy; exact hr.2 j d y hd' hy
     cases hd'⟩ (fun ds hd' => hs ds (List.mem_of_mem_take hd')) (.inl (by omega))
   have hrun := wH (lo := none) (hi := hi) hop hu hti hv hl hp rfl hb2 ⟨by omega, by omega, by omega⟩
   refine aIU (pl' := pl') m' L hrun ⟨k' + 1, e', sz, _, upd_same _ _ _, Nat.le_refl _, fun _ => ?_, rfl⟩
   rw [hsl, hlen]
   simp only [Int.toNat_zero, Nat.zero_mul, Nat.sub_zero]
   split
   rfl
   cases (pl.sl i).1 <;> simp [Addr.add]
  cases h
  rename_i l0
  split at h
  rename_i v1 l v2 hh hb1 hb2
  cases hd : (decide (0 ≤ l ∧ l ≤ hh ∧ hh ≤ (es.length : Int)) && !mkd e'.ov) with
  | false => rw [hd] at h; cases h
  | true =>
   rw [hd] at h
   simp only [cond_true, Option.some.injEq] at h
   subst h
   simp only [Bool.and_eq_true, decide_eq_true_eq, Bool.not_eq_true'] at hd
   obtain ⟨hd, hmk⟩ := hd
   have ho : own i = some (.arr k' e' sz es) := by rw [hob i (by simp)]; exact hi'
   have hv := dG (w := w) (hl [] x _ hx holds_nil hp) ho
   obtain ⟨xs, hxs, hr, hs⟩ := m.obj i _ ho
   rw [hmk] at hxs
   have hcap : es.length ≤ (pl.sl i).2 := by
    rcases hxs.2 with ⟨hA, h0⟩ | ⟨g, cap, cur, hA, hB, hg, hn, _⟩
    omega
    injection hA with _ _ h3; omega
   have hrun := wH (lo := some l0) (hi := hi) hop hu hti hv hl hp hb1 hb2 ⟨by omega, by omega, by omega⟩
   refine aD m hrun ⟨k', e', sz, es, ho, Nat.le_refl _, fun _ => ⟨by omega, ?_⟩, rfl⟩
   rw [e2]
  cases h
 cases h
 rename_i el hu hx
 split at h
 rename_i v1 l v2 hh ti hb1 hb2 hti
 cases hd : (decide (l = 0 ∧ hh = 0)) with
 | false => rw [hd] at h; cases h
 | true =>
  rw [hd] at h
  simp only [cond_true, Option.some.injEq] at h
  subst h
  simp only [decide_eq_true_eq] at hd
  obtain ⟨rfl, rfl⟩ := hd
  have hv : a.eval x = .slice none 0 0 := Rd.exact (hl [] x _ hx holds_nil hp)
  have hrun := wH hop hu hti hv hl hp hb1 hb2 ⟨by omega, by omega, by omega⟩
  refine aD m hrun ?_
  exact Rd.v _ rfl
 cases h
 cases h
def tW (ob : Own) : SV → Option (Bool × List Nat)
 | .c (.d (.sl _ (_ :: _))) => some (true, [])
 | .c (.ar i k) => match ob i with
  | some (.arr k' _ _ (_ :: _)) => bif Nat.beq k' k then some (true, [i]) else none
  | _ => none
 | .c (.av i k _ _) => match ob i with
  | some (.arr k' _ _ (_ :: _)) => bif Nat.beq k' k then some (true, [i]) else none
  | _ => none
 | .c (.fn _ _ _) => some (false, [])
 | _ => none
def isSl (P : Program) (t : TypeId) : Bool := match P.underlying t with
 | some (.slice _) => true
 | _ => false
def isFn (P : Program) (t : TypeId) : Bool := match P.underlying t with
 | some (.func _ _ _) => true
 | _ => false
def nilZ (P : Program) (lk : Lk) (ob : Own) (op : BinOp) (t : TypeId) (x y : Operand) : Option Eff :=
 match lk [] x, lk [] y with
 | some sv, some (.c (.d (.v (.slice none 0 0)))) => match tW ob sv with
  | some (true, tc) => bif isSl P t then (match op with
   | .eql => some ⟨.c (.d (.v (.bool false))), [], tc, []⟩
   | .neq => some ⟨.c (.d (.v (.bool true))), [], tc, []⟩
   | _ => none) else none
  | _ => none
 | some sv, some (.c (.d (.v .nilFunc))) => match tW ob sv with
  | some (false, tc) => bif isFn P t then (match op with
   | .eql => some ⟨.c (.d (.v (.bool false))), [], tc, []⟩
   | .neq => some ⟨.c (.d (.v (.bool true))), [], tc, []⟩
   | _ => none) else none
  | _ => none
 | _, _ => none
theorem qA {t e : TypeId} {ad : Addr} {n c : Nat} (h : P.underlying t = some (.slice e)) : (Op.equal t (.slice (some ad) n c) (.slice none 0 0)).run P w = .ok false w := by
 have h : ∀ d : Nat, (Op.equalIn (d + 1) t (.slice (some ad) n c) (.slice none 0 0)).run P w = .ok false w := fun d => by
  simp [Op.equalIn, run_underlying h]
 simp [Op.equal, Op.maxDepth, h 9999]
theorem qD {t : TypeId} {x y z} {g l m} (h : P.underlying t = some (.func x y z)) : (Op.equal t (.func g l m) .nilFunc).run P w = .ok false w := by
 have h : ∀ d : Nat, (Op.equalIn (d + 1) t (.func g l m) .nilFunc).run P w = .ok false w := fun d => by
  simp [Op.equalIn, run_underlying h]
 simp [Op.equal, Op.maxDepth, h 9999]
theorem aAL (m : Mem fr own w pl) {ob : Own} {sv : SV} {tc : List Nat} (h : tW ob sv = some (true, tc)) (hob : ∀ i ∈ tc, own i = ob i) {v : Value} (hv : bC w pl own sv v) : ∃ ad n c, v = .slice (some ad) n c := by
 have hne : ∀ {i k : Nat} {e : AT} {sz : Nat} {d : List D} {r : List (List D)}, own i = some (.arr k e sz (d :: r)) → ∃ g, (pl.sl i).1 = some g := fun {i k e sz d r} ho => by
  rcases aBL (m.obj i _ ho) with ⟨h0, _⟩ | ⟨b, hb⟩
  cases h0
  exact ⟨_, hb⟩
 unfold tW at h
 split at h
 simp only [Option.some.injEq, Prod.mk.injEq] at h
 obtain ⟨_, rfl⟩ := h
 have hv : Rd _ _ _ _ := hv
 cases hv with
 | sl us hF hb hc hm hs hu hr => exact ⟨_, _, _, rfl⟩
 rename_i i k
 split at h
 rename_i k' e' sz d r hi
 cases hk : Nat.beq k' k with
 | false => rw [hk] at h; cases h
 | true =>
  rw [hk] at h
  simp only [cond_true, Option.some.injEq, Prod.mk.injEq] at h
  obtain ⟨_, rfl⟩ := h
  have e1 := Nat.eq_of_beq_eq_true hk
  subst e1
  have ho : own i = some (.arr k' e' sz (d :: r)) := by rw [hob i (by simp)]; exact hi
  have := dG (w := w) hv ho
  obtain ⟨g, hg⟩ := hne ho
  rw [hg] at this
  exact ⟨_, _, _, this⟩
 cases h
 rename_i i k l n
 split at h
 rename_i k' e' sz d r hi
 cases hk : Nat.beq k' k with
 | false => rw [hk] at h; cases h
 | true =>
  rw [hk] at h
  simp only [cond_true, Option.some.injEq, Prod.mk.injEq] at h
  obtain ⟨_, rfl⟩ := h
  have e1 := Nat.eq_of_beq_eq_true hk
  subst e1
  have ho : own i = some (.arr k' e' sz (d :: r)) := by rw [hob i (by simp)]; exact hi
  have := (aNK (w := w) hv ho).2
  obtain ⟨g, hg⟩ := hne ho
  rw [hg] at this
  split at this
  exact ⟨_, _, _, this⟩
  exact ⟨_, _, _, this⟩
 cases h
 simp at h
 cases h
theorem aAM {ob : Own} {sv : SV} {tc : List Nat} (h : tW ob sv = some (false, tc)) {v : Value} (hv : bC w pl own sv v) : ∃ g l m, v = .func g l m := by
 unfold tW at h
 split at h
 simp at h
 split at h
 rename_i k' _ _ _ _ _
 cases hk : Nat.beq k' _ with
 | false => rw [hk] at h; cases h
 | true => rw [hk] at h; simp at h
 cases h
 split at h
 rename_i k' _ _ _ _ _
 cases hk : Nat.beq k' _ with
 | false => rw [hk] at h; cases h
 | true => rw [hk] at h; simp at h
 cases h
 exact ⟨_, _, _, hv.2⟩
 cases h
theorem nilZ_ok (m : Mem fr own w pl) (hl : bH a w pl own p lk) (hp : Eng.Holds a p) {op : BinOp} {t : TypeId} {x y : Operand} {ty : TypeId} (hop : o.op = .binOp op t x y ty) {ob : Own} {e : Eff} (h : nilZ P lk ob op t x y = some e) (hob : ∀ i ∈ e.touch, own i = ob i) : Does P fr own a w pl o e := by
 unfold nilZ at h
 split at h
 rename_i sv hx hy
 have hvy : a.eval y = .slice none 0 0 := Rd.exact (hl [] y _ hy holds_nil hp)
 split at h
 rename_i tc hn
 cases ht : isSl P t with
 | false => rw [ht] at h; cases h
 | true =>
  rw [ht] at h
  simp only [cond_true] at h
  unfold isSl at ht
  split at ht
  rename_i el hu
  split at h
  simp only [Option.some.injEq] at h
  subst h
  obtain ⟨ad, n, c, hvx⟩ := aAL m hn hob (hl [] x _ hx holds_nil hp)
  refine aD (v := .bool false) m ?_ (Rd.v _ rfl)
  unfold execOp
  simp only [hop, hvx, hvy]
  simp [eqGuard, binOp, qA hu]
  simp only [Option.some.injEq] at h
  subst h
  obtain ⟨ad, n, c, hvx⟩ := aAL m hn hob (hl [] x _ hx holds_nil hp)
  refine aD (v := .bool true) m ?_ (Rd.v _ rfl)
  unfold execOp
  simp only [hop, hvx, hvy]
  simp [eqGuard, binOp, qA hu]
  cases h
  cases ht
 cases h
 rename_i sv hx hy
 have hvy : a.eval y = .nilFunc := Rd.exact (hl [] y _ hy holds_nil hp)
 split at h
 rename_i tc hn
 cases ht : isFn P t with
 | false => rw [ht] at h; cases h
 | true =>
  rw [ht] at h
  simp only [cond_true] at h
  unfold isFn at ht
  split at ht
  rename_i _ _ _ hu
  split at h
  simp only [Option.some.injEq] at h
  subst h
  obtain ⟨g, l, m', hvx⟩ := aAM hn (hl [] x _ hx holds_nil hp)
  refine aD (v := .bool false) m ?_ (Rd.v _ rfl)
  unfold execOp
  simp only [hop, hvx, hvy]
  simp [eqGuard, binOp, qD hu]
  simp only [Option.some.injEq] at h
  subst h
  obtain ⟨g, l, m', hvx⟩ := aAM hn (hl [] x _ hx holds_nil hp)
  refine aD (v := .bool true) m ?_ (Rd.v _ rfl)
  unfold execOp
  simp only [hop, hvx, hvy]
  simp [eqGuard, binOp, qD hu]
  cases h
  cases ht
 cases h
 cases h
def zerE (P : Program) (lk : Lk) (ob : Own) (T tn : TypeId) (s x : Operand) (nid : Nat) : Option Eff :=
 match P.underlying T, P.underlying tn, lk [] s, exO lk [] x with
 | some (.slice e), some (.int _), some (.c (.d (.v (.slice none 0 0)))), some (.int _ (.ofNat k)) => match P.info? e, ob nid with
  | some i, none => match i.zero with
   | some z => match z.cells with
    | ⟨[v]⟩ => bif Nat.blt 0 k && Nat.ble k 1000 && Nat.beq i.size 1 && Nat.ble i.bytes 1000 && v.oneCell' then some ⟨.c (.ar nid 0), [(nid, .arr 0 ⟨e, []⟩ 1 (List.replicate k [.v v]))], [nid], []⟩ else none
    | _ => none
   | none => none
  | _, _ => none
 | _, _, _, _ => none
theorem aGF (v : Value) (k : Nat) : (Builtin.zeroCells #[v] k).toList = List.replicate k v := by
 apply List.ext_getElem
 simp [Builtin.zeroCells]
 intro j h1 h2
 simp [Builtin.zeroCells, Nat.mod_one]
theorem aA3 (v : D) : ∀ k : Nat, (List.replicate k [v]).flatten = List.replicate k v
 | 0 => rfl
 | k + 1 => by simp only [List.replicate_succ, List.flatten_cons, aA3 v k]; rfl
theorem zerE_ok (m : Mem fr own w pl) (hl : bH a w pl own p lk) (hp : Eng.Holds a p) {T tn : TypeId} {s x : Operand} (hop : o.op = .call { callee := .builtin .append, args := #[s, x], argTypes := #[T, tn] }) {ob : Own} {nid : Nat} {e : Eff} (h : zerE P lk ob T tn s x nid = some e) (hob : ∀ i ∈ e.touch, own i = ob i) : Does P fr own a w pl o e := by
 unfold zerE at h
 split at h
 rename_i el kn kq k hT htn hs hx
 split at h
 rename_i i hi hnone
 split at h
 rename_i z hz
 split at h
 rename_i v hzc
 cases hc : (Nat.blt 0 k && Nat.ble k 1000 && Nat.beq i.size 1 && Nat.ble i.bytes 1000 && v.oneCell') with
 | false => rw [hc] at h; cases h
 | true =>
  rw [hc] at h
  simp only [cond_true, Option.some.injEq] at h
  subst h
  simp only [Bool.and_eq_true] at hc
  obtain ⟨⟨⟨⟨c1, c2⟩, c3⟩, c4⟩, c5⟩ := hc
  have c1 : 0 < k := by simpa using c1
  have c2 := Nat.le_of_ble_eq_true c2
  have c3 := Nat.eq_of_beq_eq_true c3
  have c4 := Nat.le_of_ble_eq_true c4
  have hvs : a.eval s = .slice none 0 0 := Rd.exact (hl [] s _ hs holds_nil hp)
  have hvx : a.eval x = .int kq (k : Int) := bJ hl hp holds_nil hx
  have hnx : Builtin.nextslicecap (0 + k) 0 = 0 + k := by unfold Builtin.nextslicecap; rw [if_pos (by omega)]
  have hkb : k * i.bytes ≤ 1000 * 1000 := Nat.mul_le_mul c2 c4
  have hr := Lib.run_append_grow_zeros (P := P) w T tn o.type el i z kq kn hT htn hi hz none 0 0 [] (by simp [Builtin.firstCells]) k c1 (by omega) (by omega) (by omega) (by omega) (by rw [hnx, Nat.zero_add]; omega)
  simp only [Nat.zero_add] at hr
  have hge := grownCap_ge w k 0 el
  have hcm : grownCap w k 0 el ≤ maxLen := grownCap_le_maxLen w k 0 el (by unfold maxLen; omega)
  obtain ⟨pl', m', L, hsl⟩ := m.newArr (i := nid) (e := ⟨el, []⟩) (sz := 1) (es := List.replicate k [.v v]) (by rw [hob nid (by simp)]; exact hnone)
   (w' := w.drew.alloc (.cells (([] : List Value).toArray ++ Builtin.zeroCells z.cells k ++ Builtin.zeroCells z.cells (grownCap w k 0 el - k)) el)) (A := some ⟨w.heap.size, 0, none⟩) (cap := grownCap w k 0 el) (xs := List.replicate k v)
   ⟨rfl, rfl, rfl, by simp, fun j hj _ => Below.heap_alloc w.drew _ _ hj⟩
   ⟨by simp, .inr ⟨w.heap.size, _, _, rfl, Nat.zero_le _, heap_alloc_new w.drew _, by simpa using hge, hcm, by
    simp only [Array.size_append, List.size_toArray, size_zeroCells, hzc]
    simp only [List.length_nil, List.length_cons]
    omega, by
    rw [hzc]
    simp only [Array.toList_append, aGF, List.nil_append]
    have : (List.replicate k [D.v v]).length * 1 = (List.replicate k v).length := by simp
    rw [this]
    exact List.take_left⟩⟩
   (fun ad had => by injection had with had; rw [← had]; exact Nat.le_refl _)
   (AllO.of ⟨by simp, fun j d y hd hy => by
    rw [aA3] at hd
    have h1 := List.eq_of_mem_replicate (List.mem_of_getElem? hd)
    have h2 := List.eq_of_mem_replicate (List.mem_of_getElem? hy)
    subst h1; subst h2
    exact Rd.v _ c5⟩)
   (fun ds hd => by have := List.eq_of_mem_replicate hd; subst this; rfl)
  intro K Q hK
  have hrun : (execOp a.eval o).run P w = .ok (.value (.slice (some ⟨w.heap.size, 0, none⟩) k (grownCap w k 0 el))) (w.drew.alloc (.cells (([] : List Value).toArray ++ Builtin.zeroCells z.cells k ++ Builtin.zeroCells z.cells (grownCap w k 0 el - k)) el)) := by
   unfold execOp
   simp only [hop, resolve, invoke, builtin, Sem.run_bind, Sem.run_pure, Result.andThen_ok, List.map_toArray, List.map_cons, List.map_nil, hvs, hvx, hr]
  unfold Oper.wp
  rw [hrun, Oper.upon_value]
  refine hK _ _ pl' m' L (.inr ⟨0, ⟨el, []⟩, 1, _, upd_same _ _ _, Nat.le_refl _, fun _ => ?_, rfl⟩)
  rw [hsl]
  simp
 cases h
 cases h
 cases h
 cases h
def opQ (P : Program) (lk : Lk) (ob : Own) (o : Oper) (nid : Nat) : Option Eff := match o.op with
 | .call { callee := .builtin .append, args := ⟨[s, x]⟩, argTypes := ⟨[T, tn]⟩ } => zerE P lk ob T tn s x nid
 | .slice t x lo hi none => cutE P lk ob t x lo hi
 | .binOp op t x y _ => nilZ P lk ob op t x y
 | _ => none
theorem opQ_ok (m : Mem fr own w pl) (hl : bH a w pl own p lk) (hp : Eng.Holds a p) {ob : Own} {nid : Nat} {e : Eff} (h : opQ P lk ob o nid = some e) (hob : ∀ i ∈ e.touch, own i = ob i) : Does P fr own a w pl o e := by
 unfold opQ at h
 split at h
 rename_i hop; exact zerE_ok m hl hp hop h hob
 rename_i hop; exact cutE_ok m hl hp hop h hob
 rename_i hop; exact nilZ_ok m hl hp hop h hob
 cases h
def sameT : Operand → Option Operand → Bool
 | .tmp a, some (.tmp b) => a == b
 | _, _ => false
def lkN (P : Program) (o : Oper) (lk : Lk) : Lk := match o.op with
 | .call { callee := .builtin .append, args := xs, argTypes := ats } => match P.underlying (ats.getD 0 0) with
  | some (.slice e) => match P.info? e with
   | some i => fun q x => match lk q x with
    | some (.c (.d (.v (.slice none 0 0)))) => bif sameT x xs[0]? then lk q x else some (.c (.d (.sl i.size [])))
    | r => r
   | none => lk
  | _ => lk
 | _ => lk
theorem lkN_ok (hl : bH a w pl own p lk) : bH a w pl own p (lkN P o lk) := by
 unfold lkN
 split
 split
 split
 rename_i i hi
 intro q x sv hx hq hp
 simp only at hx
 split at hx
 rename_i hv
 revert hx
 cases sameT x _ with
 | true => intro hx; exact hl q x _ hx hq hp
 | false =>
  intro hx
  simp only [cond_false, Option.some.injEq] at hx
  subst hx
  have := Rd.exact (hl q x _ hv hq hp)
  show Rd _ _ _ _
  rw [this]
  exact .nil _
 exact hl q x _ hx hq hp
 exact hl
 exact hl
 exact hl
end
end Go.V
namespace Go.V
open Go.RowKit
def bytesOf : List (List D) → Option (List UInt8)
 | [] => some []
 | [.v (.int .u8 n)] :: r => match bytesOf r with
  | some l => some (UInt8.ofNat n.toNat :: l)
  | none => none
 | _ => none
def oD (es : List (List D)) : Hint := match bytesOf es with
 | some l => .call (.c (.d (.v (.string ⟨l.toArray⟩)))) [] []
 | none => .none
def aNL (lk : Lk) (ob : Own) (o : Oper) : Hint := match o.op with
 | .load _ _ => .auto
 | .indexAddr _ _ _ => .auto
 | .buildSlice _ len _ => bif Nat.beq len 0 then .none else .elem []
 | .makeSlice _ x _ => match exO lk [] x with
  | some (.int _ (.ofNat 0)) => .none
  | _ => .mask []
 | .convert _ _ x => match lk [] x with
  | some (.c (.d (.sl 1 es))) => oD es
  | some (.c (.ar i _)) => match ob i with
   | some (.arr _ _ 1 es) => oD es
   | _ => .none
  | _ => .none
 | .call { callee := .builtin .unsafeString, args := ⟨x :: _⟩, argTypes := _ } => match lk [] x with
  | some (.c (.sd i _)) => match ob i with
   | some (.arr _ _ _ es) => oD es
   | _ => .none
  | _ => .none
 | _ => .none
inductive Who where
 | fn (f : FuncId) (svs : List SV)
 | yl (i : Nat) (svs : List SV)
 | no
def aH9 : List Value → Option (List SV)
 | [] => some []
 | v :: r => match ofV v, aH9 r with
  | some s, some l => some (s :: l)
  | _, _ => none
def aGH (P : Program) (sv : SV) (svs : List SV) : Who := match sv with
 | .c (.d (.v (.func (.func f) l m))) => bif enters P f then (match aH9 l.toList, aH9 m.toList with
   | some l', some m' => .fn f (l' ++ svs ++ m')
   | _, _ => .no) else .no
 | .c (.fn f l m) => bif enters P f then .fn f (l.map (fun y => .c (.bx y.1 y.2)) ++ svs ++ m.map (fun y => .c (.bx y.1 y.2))) else .no
 | .c (.yl i) => .yl i svs
 | _ => .no
def who (P : Program) (lk : Lk) (o : Oper) : Who := match o.op with
 | .call { callee := .value (.func f), args := xs, argTypes := _ } => bif enters P f then (match eF (xs.toList.map (lk [])) with
  | some svs => .fn f svs
  | none => .no) else .no
 | .call { callee := .value (.tmp x), args := xs, argTypes := _ } => match lk [] (.tmp x), eF (xs.toList.map (lk [])) with
  | some sv, some svs => aGH P sv svs
  | _, _ => .no
 | _ => .no
abbrev Step := Nat → FuncId → List SV → Tr Ob → Option OpR
abbrev aNX := Nat → Nat → List SV → Tr Ob → Option OpR
structure NE (P : Program) where
 f : FuncId
 ok : mW P f
def aLF {P : Program} : List (NE P) → FuncId → Option (NE P)
 | [], _ => none
 | e :: r, f => bif Nat.beq e.f f then some e else aLF r f
theorem aLE {P : Program} : ∀ {T : List (NE P)} {f : FuncId} {e : NE P}, aLF T f = some e → e.f = f
 | [], f, e, h => by simp [aLF] at h
 | x :: r, f, e, h => by
  simp only [aLF, d2] at h
  split at h
  rename_i hx; simp only [Option.some.injEq] at h; rw [← h]; exact hx
  exact aLE h
def neOp {P : Program} (ne : List (NE P)) (lk : Lk) (o : Oper) : Option SV := match o.op with
 | .call { callee := .value (.func f), args := ⟨[x]⟩, argTypes := _ } => match aLF ne f with
  | some _ => bif xC P f then (match lk [] x with
   | some (.c c) => some (.c c)
   | _ => none) else none
  | none => none
 | _ => none
structure EntD (P : Program) where
 f : FuncId
 ar : Nat
 ok : ∀ (args : Array Value) (w : World), args.size = ar → CallsDIn Fence.wide 0 P f args .returning w fun e u w' => ∃ v, e = .returned v ∧ u = .returning ∧ w.grownBy w' none
def aIV {P : Program} : List (EntD P) → FuncId → Option (EntD P)
 | [], _ => none
 | e :: r, f => bif Nat.beq e.f f then some e else aIV r f
theorem aMV {P : Program} : ∀ {T : List (EntD P)} {f : FuncId} {e : EntD P}, aIV T f = some e → e.f = f
 | [], f, e, h => by simp [aIV] at h
 | x :: r, f, e, h => by
  simp only [aIV, d2] at h
  split at h
  rename_i hx; simp only [Option.some.injEq] at h; rw [← h]; exact hx
  exact aMV h
structure Exe (P : Program) (G : List (Nat × List Value)) where
 T : List (Ent P G)
 ne : List (NE P)
 df : List (EntD P)
 orc : Nat → Option Bool
 lit : Nat → Option Value
 call : Step
 yld : aNX
 hnt : Nat → Option (List D) := fun _ => none
def litR (own : Tr Ob) (k : Nat) (e : Eff) (v : Value) : Option OpR := match e.sv with
 | .c (.d (.v x)) => s8 own (k + 1) ((x = v) :: e.obl) ⟨.c (.d (.v v)), e.upd, e.touch, e.obs⟩
 | _ => none
def aFY {P : Program} {G : List (Nat × List Value)} (E : Exe P G) (lt : Option Value) (hint : Hint) (lk : Lk) (own : Tr Ob) (o : Oper) (k : Nat) : Option OpR :=
  match who P lk o with
  | .fn f svs => match aA7 E.T f with
    | some e => match aNF e k svs own with
      | some r => some r
      | none => E.call k f svs own
    | none => E.call k f svs own
  | .yl i svs => E.yld k i svs own
  | .no => match neOp E.ne lk o with
   | some s => s8 own (k + 1) [] ⟨s, [], [], []⟩
   | none => match opW P lk own.get o k with
    | some e => s8 own (k + 1) [] e
    | none => match opE P G lk own.get o k hint with
      | some e => match lt with
       | some v => litR own k e v
       | none => match E.orc k with
        | some _ => s8 own (k + 1) e.obl e
        | none => bif e.obs.all (·.b) then s8 own (k + 1) [] e else none
      | none => match opQ P lk own.get o k with
       | some e => s8 own (k + 1) [] e
       | none => match opE P G (lkN P o lk) own.get o k hint with
        | some e => bif e.obs.all (·.b) then s8 own (k + 1) [] e else none
        | none => none
def aL4 : Option Value → Bool
 | some .nilIface => true
 | _ => false
def hntH (h : Option (List D)) (a : Hint) : Hint := match h with
 | some ds => .elem ds
 | none => a
def litV : Option Value → Option Value
 | some (.agg _) => none
 | v => v
def doOp {P : Program} {G : List (Nat × List Value)} (E : Exe P G) (lk : Lk) (own : Tr Ob) (o : Oper) (k : Nat) : Option OpR :=
 bif aL4 (E.lit k) then (match rM (aF8 lk o.op.operands.toList) lk own with
  | some (lk1, own1, us) => match aFY E none .none lk1 own1 o k with
   | some r => some ⟨r.sv, us ++ r.upd, keys us ++ r.touch, r.own, r.k, r.cs⟩
   | none => none
  | none => none) else aFY E (litV (E.lit k)) (hntH (E.hnt k) (aNL lk own.get o)) lk own o k
def aN8 (P : Program) (G : List (Nat × List Value)) (call : Step) : Prop :=
 ∀ (k : Nat) (f : FuncId) (svs : List SV) (own : Tr Ob) (r : OpR), call k f svs own = some r → r.own.get = bE own.get r.upd ∧ (∀ x ∈ keys r.upd, x ∈ r.touch) ∧
  ∀ (fr : Fr) (own0 : Own) (w : World) (pl : Pl) (vals : List Value), fr.G = G → conj r.cs → (∀ i ∈ r.touch, own0 i = own.get i) → Mem fr own0 w pl → All2 (bC w pl own0) svs vals →
   Calls P f vals.toArray w fun e w' => ∃ v pl', e = .returned v ∧ Mem fr (bE own0 r.upd) w' pl' ∧ Later w pl own0 w' pl' (bE own0 r.upd) ∧ bC w' pl' (bE own0 r.upd) r.sv v
def YldOk (P : Program) (G : List (Nat × List Value)) (yld : aNX) : Prop :=
 ∀ (k : Nat) (i : Nat) (svs : List SV) (own : Tr Ob) (r : OpR), yld k i svs own = some r → r.own.get = bE own.get r.upd ∧ (∀ x ∈ keys r.upd, x ∈ r.touch) ∧
  ∀ (fr : Fr) (own0 : Own) (w : World) (pl : Pl) (vals : List Value), fr.G = G → conj r.cs → (∀ i ∈ r.touch, own0 i = own.get i) → Mem fr own0 w pl → All2 (bC w pl own0) svs vals →
   ∃ (f : FuncId) (tmps : Array Value) (assign body : Code), (Instr.yield (pl.blk i) vals.toArray).run P w = .ok (.round (pl.blk i) f tmps assign body) w ∧
    RoundIn Fence.wide 0 P (pl.blk i) f tmps assign body w fun e w' => ∃ v pl', e = .returned v ∧ Mem fr (bE own0 r.upd) w' pl' ∧ Later w pl own0 w' pl' (bE own0 r.upd) ∧ bC w' pl' (bE own0 r.upd) r.sv v
structure ExeOk {P : Program} {G : List (Nat × List Value)} (E : Exe P G) : Prop where
 call : aN8 P G E.call
 yld : YldOk P G E.yld
section
variable {P : Program} {G : List (Nat × List Value)} {lk : Lk} {p : Path} {o : Oper} {E : Exe P G}
theorem wW {w : World} {pl : Pl} {own : Own} : ∀ {l : List Value} {s : List SV}, aH9 l = some s → All2 (bC w pl own) s l
 | [], s, h => by simp only [aH9, Option.some.injEq] at h; subst h; exact All2.nil
 | v :: r, s, h => by
  simp only [aH9] at h
  split at h
  rename_i s' l hs hl
  simp only [Option.some.injEq] at h; subst h
  exact All2.cons (kU hs) (wW hl)
  cases h
def WhoOk (P : Program) (lk : Lk) (p : Path) (o : Oper) : Who → Prop
 | .fn f svs => ∀ (own0 : Own) (a : Act) (w : World) (pl : Pl), bH a w pl own0 p lk → Eng.Holds a p → ∃ vals : List Value, All2 (bC w pl own0) svs vals ∧ (execOp a.eval o).run P w = .ok (.enter f vals.toArray) w
 | .yl i svs => ∀ (own0 : Own) (a : Act) (w : World) (pl : Pl), bH a w pl own0 p lk → Eng.Holds a p → ∃ vals : List Value, All2 (bC w pl own0) svs vals ∧ (execOp a.eval o).run P w = (Instr.yield (pl.blk i) vals.toArray).run P w
 | .no => True
def WhoVOk (P : Program) (sv : SV) (svs : List SV) : Who → Prop
 | .fn f svs' => ∀ (own0 : Own) (w : World) (pl : Pl) (v : Value) (vals : List Value), bC w pl own0 sv v → All2 (bC w pl own0) svs vals →
   ∃ lv mv : Array Value, enters P f = true ∧ v = .func (.func f) lv mv ∧ All2 (bC w pl own0) svs' (lv.toList ++ vals ++ mv.toList)
 | .yl i svs' => ∀ (own0 : Own) (w : World) (pl : Pl) (v : Value), bC w pl own0 sv v → svs' = svs ∧ v = .func (.yield (pl.blk i)) #[] #[]
 | .no => True
theorem u9 (sv : SV) (svs : List SV) : WhoVOk P sv svs (aGH P sv svs) := by
 unfold aGH
 split
 rename_i f l m
 cases he : enters P f with
 | false => trivial
 | true =>
  simp only [cond_true]
  split
  rename_i l' m' hl' hm'
  intro own0 w pl v vals hv hvs
  have hv : v = .func (.func f) l m := Rd.exact hv
  exact ⟨l, m, he, hv, ((wW hl').append hvs).append (wW hm')⟩
  trivial
 rename_i f l m
 cases he : enters P f with
 | false => trivial
 | true =>
  intro own0 w pl v vals hv hvs
  obtain ⟨hb, hv⟩ := hv
  refine ⟨(l.map (adV pl)).toArray, (m.map (adV pl)).toArray, he, hv, ?_⟩
  exact ((xZ fun y hy => hb y (by simp [hy])).append hvs).append (xZ fun y hy => hb y (by simp [hy]))
 intro own0 w pl v hv
 exact ⟨rfl, hv.2⟩
 trivial
theorem who_ok : WhoOk P lk p o (who P lk o) := by
 unfold who
 split
 rename_i f xs ats hop
 cases he : enters P f with
 | false => trivial
 | true =>
  simp only [cond_true]
  split
  rename_i svs hs
  intro own0 a w pl hl hp
  exact ⟨_, dK hl hp hs, jY hop he⟩
  trivial
 rename_i x xs ats hop
 split
 rename_i sv svs hx hs
 have hw := u9 (P := P) sv svs
 cases hwv : aGH P sv svs with
 | no => trivial
 | fn f svs' =>
  rw [hwv] at hw
  intro own0 a w pl hl hp
  obtain ⟨lv, mv, he, hv, h2⟩ := hw own0 w pl _ _ (hl [] _ _ hx holds_nil hp) (dK hl hp hs)
  exact ⟨_, h2, jX (l := lv.toList) (m := mv.toList) hop (by simpa using hv) he⟩
 | yl i svs' =>
  rw [hwv] at hw
  intro own0 a w pl hl hp
  obtain ⟨rfl, hv⟩ := hw own0 w pl _ (hl [] _ _ hx holds_nil hp)
  exact ⟨_, dK hl hp hs, tG hop hv⟩
 trivial
 trivial
theorem aBD (hE : ExeOk E) {lt : Option Value} {hint : Hint} {own : Tr Ob} {k : Nat} {r : OpR} (h : aFY E lt hint lk own o k = some r) : aN5 P G lk p o own r := by
 have hw : WhoOk P lk p o (who P lk o) := who_ok
 unfold aFY at h
 split at h
 ·rename_i f svs hwho
  rw [hwho] at hw
  have inl : E.call k f svs own = some r → aN5 P G lk p o own r := by
   intro h
   obtain ⟨h1, h2, h3⟩ := hE.call _ _ _ _ _ h
   refine ⟨h1, h2, fun fr own0 a w pl hG hc ht m hl hp => ?_⟩
   obtain ⟨vals, hv, hr⟩ := hw own0 a w pl hl hp
   intro K hK
   refine .inl fun Q => ?_
   unfold Oper.wp
   rw [hr, Oper.upon_enter]
   refine Calls.mono (h3 fr own0 w pl vals hG hc ht m hv) ?_
   rintro e w' ⟨v, pl', rfl, m', L, hs⟩
   exact hK v w' pl' m' L (.inr hs)
  split at h
  ·rename_i e he
   split at h
   ·rename_i r' hr'
    simp only [Option.some.injEq] at h
    subst h
    refine aNE hr' fun own0 a w pl hl hp => ?_
    obtain ⟨vals, hv, hr⟩ := hw own0 a w pl hl hp
    have := aFV he
    subst this
    exact ⟨vals, hv, tD hr⟩
   ·exact inl h
  ·exact inl h
 ·rename_i i svs hwho
  rw [hwho] at hw
  obtain ⟨h1, h2, h3⟩ := hE.yld _ _ _ _ _ h
  refine ⟨h1, h2, fun fr own0 a w pl hG hc ht m hl hp => ?_⟩
  obtain ⟨vals, hv, hr⟩ := hw own0 a w pl hl hp
  intro K hK
  obtain ⟨f, tmps, asg, bd, h4, h5⟩ := h3 fr own0 w pl vals hG hc ht m hv
  refine .inr ⟨_, f, tmps, asg, bd, hr.trans h4, h5.mono ?_⟩
  rintro e w' ⟨v, pl', rfl, m', L, hs⟩
  exact ⟨v, rfl, hK v w' pl' m' L (.inr hs)⟩
 ·split at h
  ·rename_i s hs
   refine gR h fun fr own0 a w pl hG hc ht m hl hp => ?_
   unfold neOp at hs
   split at hs
   ·rename_i f x ats hop
    split at hs
    ·rename_i ne hne
     cases hn : xC P f with
     | false => rw [hn] at hs; cases hs
     | true =>
      rw [hn] at hs
      simp only [cond_true] at hs
      split at hs
      ·rename_i c hx
       simp only [Option.some.injEq] at hs
       subst hs
       have hNE : mW P f := by have := aLE hne; subst this; exact ne.ok
       exact (r3 (e := ⟨.c c, [], [], [.un (mW P f)]⟩) rfl rfl (aAO m hl hp hop (show aAP P lk f x = some ⟨.c c, [], [], [.un (mW P f)]⟩ by unfold aAP; rw [hn, if_pos rfl, hx]) hNE).x)
      ·cases hs
    ·cases hs
   ·cases hs
  split at h
  ·rename_i e he
   exact gR h fun fr own0 a w pl hG hc ht m hl hp => (opW_ok m hl hp he ht).x
  ·split at h
   ·rename_i e he
    split at h
    ·rename_i v
     unfold litR at h
     split at h
     ·rename_i x hx
      refine gR h fun fr own0 a w pl hG hc ht m hl hp => ?_
      subst hG
      have hc1 : x = v := jN hc (by simp)
      have hc2 : conj e.obl := fJ fun c hcm => jN hc (by simp [hcm])
      subst hc1
      exact r3 (e := e) hx.symm rfl (nL m hl hp he ht hc2)
     ·cases h
    split at h
    ·refine gR h fun fr own0 a w pl hG hc ht m hl hp => ?_
     subst hG
     exact nL m hl hp he ht hc
    cases hob : e.obs.all (·.b) with
    | false => rw [hob] at h; cases h
    | true =>
     rw [hob] at h
     refine gR h fun fr own0 a w pl hG hc ht m hl hp => ?_
     subst hG
     refine nL m hl hp he ht (fJ fun c hcm => ?_)
     simp only [Eff.obl, pOf, List.mem_map] at hcm
     obtain ⟨x, hx, rfl⟩ := hcm
     exact x.h (List.all_eq_true.1 hob x hx)
   ·split at h
    ·rename_i e he
     exact gR h fun fr own0 a w pl hG hc ht m hl hp => (opQ_ok m hl hp he ht).x
    ·split at h
     ·rename_i e he
      cases hob : e.obs.all (·.b) with
      | false => rw [hob] at h; cases h
      | true =>
       rw [hob] at h
       refine gR h fun fr own0 a w pl hG hc ht m hl hp => ?_
       subst hG
       refine nL m (lkN_ok hl) hp he ht (fJ fun c hcm => ?_)
       simp only [Eff.obl, pOf, List.mem_map] at hcm
       obtain ⟨x, hx, rfl⟩ := hcm
       exact x.h (List.all_eq_true.1 hob x hx)
     ·cases h
theorem aFX (hE : ExeOk E) {own : Tr Ob} {k : Nat} {r : OpR} (h : doOp E lk own o k = some r) : aN5 P G lk p o own r := by
 unfold doOp at h
 cases hm : aL4 (E.lit k) with
 | false => rw [hm] at h; exact aBD hE h
 | true =>
  rw [hm] at h
  simp only [cond_true] at h
  split at h
  rename_i lk1 own1 us hf
  split at h
  rename_i r1 hr
  simp only [Option.some.injEq] at h
  subst h
  obtain ⟨f1, f2, f3⟩ := uH hf
  have hin : ∀ {fr : Fr} {own0 : Own} {a : Act} {w : World} {pl : Pl}, bH a w pl own0 p lk1 → bH a w pl own0 p lk1 := id
  obtain ⟨g1, g2, g3⟩ := aBD (p := p) hE hr
  refine ⟨by show r1.own.get = _; rw [g1, f2, eH], fun x hx => ?_, fun fr own0 a w pl hG hc ht m hl hp => ?_⟩
  simp only [keys, List.map_append, List.mem_append] at hx ⊢
  rcases hx with hx | hx
  exact .inl hx
  exact .inr (g2 x hx)
  obtain ⟨pl1, m1, L1, hl1⟩ := f3 (fun i hi => ht i (by simp only [List.mem_append]; exact .inl (f1 ▸ hi))) m hl
  have hd := g3 fr (bE own0 us) a w pl1 hG hc (fun i hi => by
   rw [f2]
   exact f0 _ (ht i (by simp only [List.mem_append]; exact .inr hi))) m1 hl1 hp
  intro K hK
  refine hd K fun v w' pl' m' L' hs => ?_
  simp only [OpR.eff] at hK m' L' hs
  rw [eH] at hK
  exact hK v w' pl' m' (L1.trans L') hs
  cases h
  cases h
end
inductive Mk where
 | mark (i : Nat)
 | df (f : FuncId) (cap : List (Nat × Nat))
structure XS where
 env : Tr SV
 own : Tr Ob
 k : Nat
 T : List Nat
 U : List (Nat × Ob)
 cs : List Prop
 mks : List Mk
def lkX (loc : cC) (tr : Tr SV) (p : Path) (us : List Nat) : Lk := rC (bU loc tr) p us
def aMU (n : Nat) (d : Option Nat) : Bool := match d with
 | some t => Nat.blt t n && few t
 | none => true
def putX (loc : cC) (r : Rec) : cC := match r.dst with
 | some t => (t, r.path, r.sv) :: loc
 | none => loc
def aKN {P : Program} {G : List (Nat × List Value)} (E : Exe P G) (n : Nat) (ops : Array Oper) (loc : cC) (tr : Tr SV) (own : Tr Ob) (k : Nat) (o : Oper) : Option (Rec × Tr Ob × Nat × List Prop) :=
 match pathOf ops (bU loc tr) o with
 | some p => bif closed (bU loc tr) p && chainB (bU loc tr) p && aMU n o.dst && jK n o.dst p then
   bif jG (bU loc tr) p then (match doOp E (lkX loc tr p (jA o)) own o k with
    | some r => some (⟨o.dst, [], r.sv, r.upd, r.touch, jA o ++ p.map (·.1), []⟩, r.own, r.k, r.cs)
    | none => none)
   else some (⟨o.dst, p, .c (.d (.v (.bool false))), [], [], p.map (·.1), []⟩, own, k, [])
  else none
 | none => none
def oW {P : Program} {G : List (Nat × List Value)} (E : Exe P G) (n : Nat) (ops : Array Oper) : List Oper → cC → Tr SV → Tr Ob → Nat → Option (List Rec × cC × Tr Ob × Nat × List Prop)
 | [], loc, _, own, k => some ([], loc, own, k, [])
 | o :: l, loc, tr, own, k => match aKN E n ops loc tr own k o with
  | some (r, own1, k1, cs1) => match oW E n ops l (putX loc r) tr own1 k1 with
   | some (rs, loc', own', k', cs) => some (r :: rs, loc', own', k', cs1 ++ cs)
   | none => none
  | none => none
def aHC {P : Program} {G : List (Nat × List Value)} (E : Exe P G) (n : Nat) (ops : Array Oper) (draw : Bool) (st : XS) : Option XS :=
 match oW E n ops ops.toList [] st.env st.own st.k with
 | some (rs, loc, own, k, cs) => bif okT rs && (!draw || (okB 0 rs (bef ops) && eU 0 ops.toList)) then
   some ⟨rQ loc st.env, own, k, (rs.flatMap (·.touch)) ++ st.T, (rs.flatMap (·.upd)).reverse ++ st.U, cs ++ st.cs, st.mks⟩ else none
 | none => none
section
variable {P : Program} {G : List (Nat × List Value)} {E : Exe P G} {fr : Fr} {n : Nat} {ops : Array Oper}
theorem aA6 (loc : cC) (tr : Tr SV) (r : Rec) : bU (putX loc r) tr = dW (bU loc tr) r := by
 funext u
 unfold putX dW
 cases r.dst with
 | none => rfl
 | some t =>
  simp only [bU, aE, upd]
  by_cases h : u = t
  subst h; simp
  have : (t == u) = false := by simpa using fun e => h e.symm
  simp [this, h]
theorem lU {env env' : Env} {o : Oper} {p : Path} (h : pathOf ops env o = some p) (hu : ∀ x ∈ p, env' x.1 = env x.1) : pathOf ops env' o = some p := by
 unfold pathOf at h ⊢
 split at h
 exact h
 rename_i j want hg
 split at h
 cases h
 rename_i g hd
 split at h
 rename_i q b hfd
 simp only [Option.some.injEq] at h
 have : env' g = env g := hu (g, want) (by rw [← h]; simp)
 simp only [hd, this, hfd, h]
 cases h
theorem recX_ok (hE : ExeOk E) (hG : fr.G = G) {loc : cC} {tr : Tr SV} {own own' : Tr Ob} {k k' : Nat} {i : Nat} {o : Oper} {r : Rec} {cs : List Prop} (h : aKN E n ops loc tr own k o = some (r, own', k', cs)) (hoi : ops[i]? = some o) (hc : conj cs) :
  own'.get = bE own.get r.upd ∧ (∀ x ∈ keys r.upd, x ∈ r.touch) ∧ (∀ x, x ∈ slots r → x ∈ r.uses) ∧ yA P fr n ops i r (bU loc tr) own.get ∧ r.dst = o.dst ∧ aMU n o.dst = true := by
 unfold aKN at h
 split at h
 rename_i p hp
 cases hchk : (closed (bU loc tr) p && chainB (bU loc tr) p && aMU n o.dst && jK n o.dst p) with
 | false => rw [hchk] at h; cases h
 | true =>
  rw [hchk] at h
  simp only [Bool.and_eq_true] at hchk
  obtain ⟨⟨⟨hcl, hch⟩, hdx⟩, hdo⟩ := hchk
  cases hh : jG (bU loc tr) p with
  | true =>
   rw [hh] at h
   simp only [cond_true] at h
   split at h
   rename_i r' hr
   simp only [Option.some.injEq, Prod.mk.injEq] at h
   obtain ⟨rfl, rfl, rfl, rfl⟩ := h
   obtain ⟨h1, h2, h3⟩ := aFX (p := p) hE hr
   refine ⟨h1, h2, fun x hx => by simp [slots] at hx, ?_, rfl, hdx⟩
   intro env own0 a w pl hok hu ht hm K hK
   simp only at hu ht hm hK
   have hpu : ∀ x ∈ p, env x.1 = bU loc tr x.1 := fun x hx => hu x.1 (by simp only [List.mem_append, List.mem_map]; exact .inr ⟨x, hx, rfl⟩)
   have hpath := lU hp hpu
   have hw := fZ hok hpath
   have hP : Eng.Holds a p := by
    obtain ⟨e1, e2⟩ := eV hpu
    exact nT hok (by rw [e1]; exact hch) (by rw [e2]; exact holdsB_iff.1 hh)
   have hlk : bH a w pl own0 p (lkX loc tr p (jA o)) := by
    intro q x sv hs hq hh
    refine g8 hok p q x sv ?_ hq hh
    cases x with
    | tmp t =>
     simp only [lkX, rC] at hs
     split at hs
     rename_i hin
     have : env t = bU loc tr t := hu t (by simp only [List.mem_append]; exact .inl (by simpa using hin))
     simp only [jF] at hs ⊢
     rw [this]; exact hs
     cases hs
    | const v => exact hs
    | global g => exact hs
    | func f => exact hs
   unfold d9
   rw [hoi]
   simp only
   rw [if_pos (hw.2 hP)]
   refine h3 fr own0 a w pl hG hc ht hok.mem hlk hP K fun v w' pl' m' L hv => ?_
   refine hK _ w' pl' ?_
   have hok' := hok.later m' L
   cases hd : o.dst with
   | none => simp only [dW, hd]; exact hok'
   | some t =>
    simp only [jK, hd, Bool.and_eq_true, decide_eq_true_eq] at hdo
    simp only [dW, hd]
    exact hok'.put hdo.1 (hm t hd) (fun x hx => by cases hx) (fun _ => hv.resolve_left (by rw [hd]; simp)) (fun h => absurd holds_nil h)
   cases h
  | false =>
   rw [hh] at h
   simp only [cond_false, Option.some.injEq, Prod.mk.injEq] at h
   obtain ⟨rfl, rfl, rfl, rfl⟩ := h
   refine ⟨rfl, fun x hx => by simp [keys] at hx, fun x hx => hx, ?_, rfl, hdx⟩
   intro env own0 a w pl hok hu ht hm K hK
   simp only at hu ht hm hK
   have hpu : ∀ x ∈ p, env x.1 = bU loc tr x.1 := fun x hx => hu x.1 (by simp only [List.mem_map]; exact ⟨x, hx, rfl⟩)
   have hw := fZ hok (lU hp hpu)
   have hP : ¬ Eng.Holds a p := by
    intro hP
    obtain ⟨e1, e2⟩ := eV hpu
    have := nU hok (by rw [e1]; exact hch) hP
    rw [e2] at this
    rw [holdsB_iff.2 this] at hh
    cases hh
   unfold d9
   rw [hoi]
   simp only
   rw [if_neg (fun h => hP (hw.1 h))]
   refine hK _ w pl ?_
   cases hd : o.dst with
   | none => simp only [dW, hd]; exact hok
   | some t =>
    simp only [jK, hd, Bool.and_eq_true, decide_eq_true_eq, List.all_eq_true, bne_iff_ne] at hdo
    simp only [dW, hd]
    exact hok.put hdo.1 (hm t hd) (fun x hx => hdo.2 x hx) (fun h => absurd h hP) (fun _ => rfl)
 cases h
theorem qP (hE : ExeOk E) (hG : fr.G = G) {tr : Tr SV} : ∀ {l : List Oper} {i0 : Nat} {loc loc' : cC} {own own' : Tr Ob} {k k' : Nat} {rs : List Rec} {cs : List Prop}, oW E n ops l loc tr own k = some (rs, loc', own', k', cs) → (∀ i o, l[i]? = some o → ops[i0 + i]? = some o) → conj cs →
  rs.length = l.length ∧ bU loc' tr = bZ rs (fun _ => true) 0 (bU loc tr) ∧ own'.get = bV rs (fun _ => true) 0 own.get ∧
  (∀ (i : Nat) (r : Rec), rs[i]? = some r → ∃ envi owni, yA P fr n ops (i0 + i) r envi owni ∧ envi = bZ rs (fun j => decide (j < i)) 0 (bU loc tr) ∧ owni = bV rs (fun j => decide (j < i)) 0 own.get) ∧
  (∀ (i : Nat) (r : Rec), rs[i]? = some r → ∀ x ∈ keys r.upd, x ∈ r.touch) ∧ (∀ (i : Nat) (r : Rec), rs[i]? = some r → ∀ x, x ∈ slots r → x ∈ r.uses) ∧ ((loc.all fun e => few e.1) = true → (loc'.all fun e => few e.1) = true) ∧
  own'.get = bE own.get (rs.flatMap (·.upd))
 | [], i0, loc, loc', own, own', k, k', rs, cs, h, _, _ => by
  simp only [oW, Option.some.injEq, Prod.mk.injEq] at h
  obtain ⟨rfl, rfl, rfl, rfl, rfl⟩ := h
  exact ⟨rfl, rfl, rfl, fun i r hi => by simp at hi, fun i r hi => by simp at hi, fun i r hi => by simp at hi, fun h => h, rfl⟩
 | o :: l, i0, loc, loc', own, own', k, k', rs, cs, h, hops, hc => by
  simp only [oW] at h
  split at h
  ·rename_i r own1 k1 cs1 hr
   split at h
   ·rename_i rs2 loc2 own2 k2 cs2 hrs
    simp only [Option.some.injEq, Prod.mk.injEq] at h
    obtain ⟨rfl, rfl, rfl, rfl, rfl⟩ := h
    obtain ⟨hc1, hc2⟩ := dH hc
    obtain ⟨a1, a2, a3, a4, a5, a6⟩ := recX_ok hE hG (i := i0) hr (by simpa using hops 0 o rfl) hc1
    obtain ⟨b1, b2, b3, b4, b5, b6, b7, b8⟩ := qP hE hG (i0 := i0 + 1) hrs (fun i o' hi => by rw [show i0 + 1 + i = i0 + (i + 1) by omega]; exact hops (i + 1) o' (by simpa using hi)) hc2
    have shE : ∀ (rs : List Rec) (D D' : Nat → Bool) (k k' : Nat) (e : Env), (∀ j, D (k + j) = D' (k' + j)) → bZ rs D k e = bZ rs D' k' e := by
     intro rs
     induction rs with
     | nil => intros; rfl
     | cons y ys ih =>
      intro D D' k k' e hD
      have h0 := hD 0
      simp only [Nat.add_zero] at h0
      simp only [bZ, h0]
      exact ih _ _ _ _ _ fun j => by have := hD (j + 1); rw [show k + 1 + j = k + (j + 1) by omega, show k' + 1 + j = k' + (j + 1) by omega]; exact this
    have shO : ∀ (rs : List Rec) (D D' : Nat → Bool) (k k' : Nat) (e : Own), (∀ j, D (k + j) = D' (k' + j)) → bV rs D k e = bV rs D' k' e := by
     intro rs
     induction rs with
     | nil => intros; rfl
     | cons y ys ih =>
      intro D D' k k' e hD
      have h0 := hD 0
      simp only [Nat.add_zero] at h0
      simp only [bV, h0]
      exact ih _ _ _ _ _ fun j => by have := hD (j + 1); rw [show k + 1 + j = k + (j + 1) by omega, show k' + 1 + j = k' + (j + 1) by omega]; exact this
    refine ⟨by simp [b1], ?_, ?_, fun i r' hi => ?_, fun i r' hi => ?_, fun i r' hi => ?_, fun hf => b7 ?_, ?_⟩
    ·rw [b2, aA6]
     simp only [bZ, if_true]
     exact shE _ _ _ _ _ _ fun j => rfl
    ·rw [b3, a1]
     simp only [bV, if_true]
     exact shO _ _ _ _ _ _ fun j => rfl
    ·cases i with
     | zero =>
      simp only [List.getElem?_cons_zero, Option.some.injEq] at hi
      subst hi
      exact ⟨_, _, a4, (hY _ _ (fun j => by simp) 0 _).symm, (gZ _ _ (fun j => by simp) 0 _).symm⟩
     | succ i =>
      obtain ⟨envi, owni, c1, c2, c3⟩ := b4 i r' (by simpa using hi)
      refine ⟨envi, owni, by rw [show i0 + (i + 1) = i0 + 1 + i by omega]; exact c1, ?_, ?_⟩
      ·rw [c2, aA6]
       simp only [bZ, decide_eq_true (show 0 < i + 1 by omega), if_true]
       exact shE _ _ _ _ _ _ fun j => by simp only [Nat.zero_add, decide_eq_decide]; omega
      ·rw [c3, a1]
       simp only [bV, decide_eq_true (show 0 < i + 1 by omega), if_true]
       exact shO _ _ _ _ _ _ fun j => by simp only [Nat.zero_add, decide_eq_decide]; omega
    ·cases i with
     | zero => simp only [List.getElem?_cons_zero, Option.some.injEq] at hi; subst hi; exact a2
     | succ i => exact b5 i r' (by simpa using hi)
    ·cases i with
     | zero => simp only [List.getElem?_cons_zero, Option.some.injEq] at hi; subst hi; exact a3
     | succ i => exact b6 i r' (by simpa using hi)
    ·unfold putX
     cases hd : r.dst with
     | none => exact hf
     | some t =>
      rw [a5] at hd
      rw [hd] at a6
      simp only [aMU, Bool.and_eq_true] at a6
      simp only [List.all_cons, a6.2, Bool.true_and]
      exact hf
    ·rw [b8, a1, List.flatMap_cons, eH]
   ·cases h
  ·cases h
theorem aKM (hE : ExeOk E) {loc : cC} {tr : Tr SV} {own own' : Tr Ob} {k k' : Nat} {o : Oper} {r : Rec} {cs : List Prop} (h : aKN E n ops loc tr own k o = some (r, own', k', cs)) :
  own'.get = bE own.get r.upd ∧ (∀ x ∈ keys r.upd, x ∈ r.touch) := by
 unfold aKN at h
 split at h
 rename_i p hp
 cases hchk : (closed (bU loc tr) p && chainB (bU loc tr) p && aMU n o.dst && jK n o.dst p) with
 | false => rw [hchk] at h; cases h
 | true =>
  rw [hchk] at h
  cases hh : jG (bU loc tr) p with
  | true =>
   rw [hh] at h
   simp only [cond_true] at h
   split at h
   rename_i r' hr
   simp only [Option.some.injEq, Prod.mk.injEq] at h
   obtain ⟨rfl, rfl, rfl, rfl⟩ := h
   obtain ⟨h1, h2, h3⟩ := aFX (p := p) hE hr
   exact ⟨h1, h2⟩
   cases h
  | false =>
   rw [hh] at h
   simp only [cond_true, cond_false, Option.some.injEq, Prod.mk.injEq] at h
   obtain ⟨rfl, rfl, rfl, rfl⟩ := h
   exact ⟨rfl, fun x hx => by simp [keys] at hx⟩
 cases h
theorem gX (hE : ExeOk E) {tr : Tr SV} : ∀ {l : List Oper} {loc loc' : cC} {own own' : Tr Ob} {k k' : Nat} {rs : List Rec} {cs : List Prop}, oW E n ops l loc tr own k = some (rs, loc', own', k', cs) →
  own'.get = bE own.get (rs.flatMap (·.upd)) ∧ ∀ r ∈ rs, ∀ x ∈ keys r.upd, x ∈ r.touch
 | [], loc, loc', own, own', k, k', rs, cs, h => by
  simp only [oW, Option.some.injEq, Prod.mk.injEq] at h
  obtain ⟨rfl, rfl, rfl, rfl, rfl⟩ := h
  exact ⟨rfl, fun r hr => by cases hr⟩
 | o :: l, loc, loc', own, own', k, k', rs, cs, h => by
  simp only [oW] at h
  split at h
  ·rename_i r own1 k1 cs1 hr
   split at h
   ·rename_i rs2 loc2 own2 k2 cs2 hrs
    simp only [Option.some.injEq, Prod.mk.injEq] at h
    obtain ⟨rfl, rfl, rfl, rfl, rfl⟩ := h
    obtain ⟨a1, a2⟩ := aKM hE hr
    obtain ⟨b1, b2⟩ := gX hE hrs
    refine ⟨by rw [b1, a1, List.flatMap_cons, eH], fun r' hr' => ?_⟩
    rcases List.mem_cons.1 hr' with rfl | hr'
    ·exact a2
    ·exact b2 r' hr'
   ·cases h
  ·cases h
def dR : List (Nat × Ob) → Own → Own
 | [], own => own
 | (i, o) :: r, own => upd (dR r own) i o
theorem bS : ∀ (l m : List (Nat × Ob)) (own : Own), dR (l ++ m) own = dR l (dR m own)
 | [], _, _ => rfl
 | (i, o) :: r, m, own => by simp only [List.cons_append, dR, bS r m own]
theorem cY : ∀ (l : List (Nat × Ob)) (own : Own), dR l.reverse own = bE own l
 | [], _ => rfl
 | (i, o) :: r, own => by
  simp only [List.reverse_cons, bE]
  rw [bS, cY r]
  rfl
theorem e7 (l : List (Nat × Ob)) {own own' : Own} {i : Nat} (h : own i = own' i) : dR l own i = dR l own' i := by
 rw [← List.reverse_reverse l, cY, cY]
 exact f0 _ h
theorem qU : ∀ (rs : List Rec) (k : Nat) (own : Own), bV rs (fun _ => true) k own = bE own (rs.flatMap (·.upd))
 | [], _, _ => rfl
 | r :: rs, k, own => by simp only [bV, if_true, List.flatMap_cons, eH]; exact qU rs (k + 1) _
def Mk.d (pl : Pl) : Mk → Deferred
 | .mark i => { target := .collected (pl.blk i), args := #[] }
 | .df f cap => { target := .fn (.func f) (cap.map (adV pl)).toArray, args := #[] }
def mkD (pl : Pl) (mk : List Mk) : List Deferred := mk.map (Mk.d pl)
def Mk.bx (own : Own) : Mk → Prop
 | .mark i => ∃ ty cs, own i = some (.box ty cs)
 | .df _ cap => ∀ x ∈ cap, ∃ ty cs, own x.1 = some (.box ty cs)
structure OkM (fr : Fr) (n : Nat) (env : Env) (own : Own) (mk : List Mk) (a : Act) (w : World) (pl : Pl) : Prop where
 ok : Ok { fr with ds := mkD pl mk } n env own a w pl
 bx : ∀ x ∈ mk, x.bx own
theorem g6 {w w' : World} {pl pl' : Pl} {own own' : Own} (L : Later w pl own w' pl' own') {mk : List Mk} (h : ∀ x ∈ mk, x.bx own) : mkD pl' mk = mkD pl mk ∧ ∀ x ∈ mk, x.bx own' := by
 refine ⟨List.map_congr_left fun x hx => ?_, fun x hx => ?_⟩
 have hb := h x hx
 cases x with
 | mark i =>
  obtain ⟨ty, cs, ho⟩ := hb
  simp only [Mk.d, (L.bx i ty cs ho).2]
 | df f cap =>
  simp only [Mk.d]
  congr 3
  exact List.map_congr_left fun y hy => by
   obtain ⟨ty, cs, ho⟩ := hb y hy
   simp only [adV, (L.bx y.1 ty cs ho).2]
 have hb := h x hx
 cases x with
 | mark i =>
  obtain ⟨ty, cs, ho⟩ := hb
  exact (L.bx i ty cs ho).1
 | df f cap =>
  intro y hy
  obtain ⟨ty, cs, ho⟩ := hb y hy
  exact (L.bx y.1 ty cs ho).1
theorem Mem.to {fr : Fr} (ds : List Deferred) (lat : List (World × Pl × Own)) {own : Own} {w : World} {pl : Pl} (m : Mem fr own w pl) : Mem { fr with ds := ds, lat := lat } own w pl :=
 ⟨⟨m.frOk.glob, m.frOk.inW, m.frOk.few⟩, m.hS, m.obj, m.inj, m.base, m.bor, m.os, m.tape, m.output, m.grow, m.keep, m.pin⟩
theorem Mem.of {fr : Fr} {ds : List Deferred} {lat : List (World × Pl × Own)} {own : Own} {w : World} {pl : Pl} (m : Mem { fr with ds := ds, lat := lat } own w pl) : Mem fr own w pl :=
 ⟨⟨m.frOk.glob, m.frOk.inW, m.frOk.few⟩, m.hS, m.obj, m.inj, m.base, m.bor, m.os, m.tape, m.output, m.grow, m.keep, m.pin⟩
theorem OkM.snap {fr : Fr} {n : Nat} {env : Env} {own : Own} {mk : List Mk} {a : Act} {w : World} {pl : Pl} (h : OkM fr n env own mk a w pl) : Ok { fr with ds := mkD pl mk, lat := (w, pl, own) :: fr.lat } n env own a w pl :=
 ⟨h.ok.mem.of.to _ _, h.ok.defers, h.ok.size, h.ok.yes, h.ok.no, fun q hq => by
  rcases List.mem_cons.1 hq with rfl | hq
  exact Later.refl _ _ _
  exact h.ok.late q hq⟩
theorem OkM.unsnap {fr : Fr} {n : Nat} {env env' : Env} {own own' : Own} {mk : List Mk} {a a' : Act} {w w' : World} {pl pl' : Pl} (h : OkM fr n env own mk a w pl) (h' : Ok { fr with ds := mkD pl mk, lat := (w, pl, own) :: fr.lat } n env' own' a' w' pl') : OkM fr n env' own' mk a' w' pl' ∧ Later w pl own w' pl' own' := by
 have L := h'.late (w, pl, own) (by simp)
 obtain ⟨h1, h2⟩ := g6 L h.bx
 refine ⟨⟨⟨h'.mem.of.to _ _, by rw [h1]; exact h'.defers, h'.size, h'.yes, h'.no, fun q hq => h'.late q (by simp; exact .inr hq)⟩, h2⟩, L⟩
def RIs (P : Program) (fl : Option Nat) (fr : Fr) (R : Wp P) : Prop := match fl with
 | none => R = eD P
 | some i => ∃ q ∈ fr.lat, (∃ ty cs, q.2.2 i = some (.box ty cs)) ∧ R = fR P (q.2.1.blk i)
structure Goes (P : Program) (G : List (Nat × List Value)) (fl : Option Nat) (n : Nat) (V : Wp P → (Exit → Act → World → Prop) → Act → World → Prop) (e : Ex) (st st' : XS) : Prop where
 dl : ∃ (dT : List Nat) (dU : List (Nat × Ob)) (dC : List Prop), st'.T = dT ++ st.T ∧ st'.U = dU ++ st.U ∧ st'.cs = dC ++ st.cs ∧ st'.own.get = dR dU st.own.get ∧ (∀ x ∈ keys dU, x ∈ dT) ∧
  ∀ (R : Wp P) (fr : Fr) (own0 : Own) (a : Act) (w : World) (pl : Pl) (Q : Exit → Act → World → Prop), RIs P fl fr R → fr.G = G → conj dC → (∀ i ∈ dT, own0 i = st.own.get i) → OkM fr n (bU [] st.env) own0 st.mks a w pl →
   (∀ a' w' pl', OkM fr n (bU [] st'.env) (dR dU own0) st'.mks a' w' pl' → Q e.to a' w') → V R Q a w
theorem regX_ok (hE : ExeOk E) (hm : P.follows .mixedOrders = true) {fl : Option Nat} {id : Nat} {draw : Bool} {st st' : XS} (hnd : d3 ops = true) (h : aHC E n ops draw st = some st') : Goes P G fl n (fun R Q => R.wp (.region id ops draw) Q) .normal st st' := by
 unfold aHC at h
 split at h
 ·rename_i rs loc own k cs hrs
  cases hchk : (okT rs && (!draw || (okB 0 rs (bef ops) && eU 0 ops.toList))) with
  | false => rw [hchk] at h; cases h
  | true =>
   rw [hchk] at h
   simp only [cond_true, Option.some.injEq] at h
   subst h
   simp only [Bool.and_eq_true, Bool.or_eq_true, Bool.not_eq_true'] at hchk
   obtain ⟨hT, hA⟩ := hchk
   have hops : ∀ i o, ops.toList[i]? = some o → ops[0 + i]? = some o := fun i o h => by rw [Nat.zero_add]; simpa using h
   refine ⟨rs.flatMap (·.touch), (rs.flatMap (·.upd)).reverse, cs, rfl, rfl, rfl, ?_, ?_, fun R fr own0 a w pl Q hR hG hc ht hok hQ => ?_⟩
   ·
    rw [cY]
    exact (gX hE hrs).1
   ·intro x hx
    obtain ⟨y, hy, rfl⟩ := List.mem_map.1 hx
    obtain ⟨r, hr, hy⟩ := List.mem_flatMap.1 (List.mem_reverse.1 hy)
    exact List.mem_flatMap.2 ⟨r, hr, (gX hE hrs).2 r hr _ (List.mem_map.2 ⟨y, hy, rfl⟩)⟩
   ·obtain ⟨b1, b2, b3, b4, b5, b6, b7, b8⟩ := qP (fr := { fr with ds := mkD pl st.mks, lat := (w, pl, own0) :: fr.lat }) hE hG hrs hops hc
    have hRR : RecsOk P { fr with ds := mkD pl st.mks, lat := (w, pl, own0) :: fr.lat } n ops rs (bU [] st.env) st.own.get (bU loc st.env) own.get :=
     ⟨by rw [b1]; simp, b2, b3, fun i r hi => by obtain ⟨x, y, c1, c2, c3⟩ := b4 i r hi; rw [Nat.zero_add] at c1; exact ⟨x, y, c1, c2, c3⟩, b5, b6⟩
    refine aKK hm hRR (fun i r hi x hx => ht x (List.mem_flatMap.2 ⟨r, List.mem_of_getElem? hi, hx⟩)) (fun u q sv h => ?_) hT (fun hd => by
     rcases hA with h | h
     ·rw [hd] at h; cases h
     ·exact h) hnd hok.snap (fun a' w' pl' hok' => ?_)
    ·simp only [bU, aE, Option.map_eq_some_iff, Prod.mk.injEq] at h
     obtain ⟨_, _, h, _⟩ := h
     exact h.symm
    ·refine hQ a' w' pl' ?_
     rw [cY, ← qU rs 0]
     exact (hok.unsnap (wS hok' fun u q sv h => (k6 (b7 rfl) h).2)).1
 ·cases h
theorem aKL (hE : ExeOk E) {fl : Option Nat} {draw : Bool} {st st' : XS} (h : aHC E n ops draw st = some st') : Goes P G fl n (fun R Q => dI P ops (Q .normal) (List.range ops.size)) .normal st st' := by
 unfold aHC at h
 split at h
 ·rename_i rs loc own k cs hrs
  cases hchk : (okT rs && (!draw || (okB 0 rs (bef ops) && eU 0 ops.toList))) with
  | false => rw [hchk] at h; cases h
  | true =>
   rw [hchk] at h
   simp only [cond_true, Option.some.injEq] at h
   subst h
   simp only [Bool.and_eq_true, Bool.or_eq_true, Bool.not_eq_true'] at hchk
   obtain ⟨hT, hA⟩ := hchk
   have hops : ∀ i o, ops.toList[i]? = some o → ops[0 + i]? = some o := fun i o h => by rw [Nat.zero_add]; simpa using h
   refine ⟨rs.flatMap (·.touch), (rs.flatMap (·.upd)).reverse, cs, rfl, rfl, rfl, ?_, ?_, fun R fr own0 a w pl Q hR hG hc ht hok hQ => ?_⟩
   ·
    rw [cY]
    exact (gX hE hrs).1
   ·intro x hx
    obtain ⟨y, hy, rfl⟩ := List.mem_map.1 hx
    obtain ⟨r, hr, hy⟩ := List.mem_flatMap.1 (List.mem_reverse.1 hy)
    exact List.mem_flatMap.2 ⟨r, hr, (gX hE hrs).2 r hr _ (List.mem_map.2 ⟨y, hy, rfl⟩)⟩
   ·obtain ⟨b1, b2, b3, b4, b5, b6, b7, b8⟩ := qP (fr := { fr with ds := mkD pl st.mks, lat := (w, pl, own0) :: fr.lat }) hE hG hrs hops hc
    have hRR : RecsOk P { fr with ds := mkD pl st.mks, lat := (w, pl, own0) :: fr.lat } n ops rs (bU [] st.env) st.own.get (bU loc st.env) own.get :=
     ⟨by rw [b1]; simp, b2, b3, fun i r hi => by obtain ⟨x, y, c1, c2, c3⟩ := b4 i r hi; rw [Nat.zero_add] at c1; exact ⟨x, y, c1, c2, c3⟩, b5, b6⟩
    refine z6 hRR (fun i r hi x hx => ht x (List.mem_flatMap.2 ⟨r, List.mem_of_getElem? hi, hx⟩)) (fun u q sv h => ?_) hT hok.snap (fun a' w' pl' hok' => ?_)
    ·simp only [bU, aE, Option.map_eq_some_iff, Prod.mk.injEq] at h
     obtain ⟨_, _, h, _⟩ := h
     exact h.symm
    ·refine hQ a' w' pl' ?_
     rw [cY, ← qU rs 0]
     exact (hok.unsnap (wS hok' fun u q sv h => (k6 (b7 rfl) h).2)).1
 ·cases h
end
end Go.V
namespace Go.V
open Go.RowKit
def cW : Nat → Tr SV → List (Nat × C)
 | 0, _ => []
 | n + 1, tr => match tr.get n with
  | some (.c c) => (n, c) :: cW n tr
  | _ => cW n tr
def LoopState.isBusy : LoopState → Bool
 | .busy => true
 | _ => false
def LoopState.isReady : LoopState → Bool
 | .ready => true
 | _ => false
def aCC {P : Program} {G : List (Nat × List Value)} (E : Exe P G) (n : Nat) (g : Tmp) (ps : Array Tmp) (asg bd : Code) (st : XS) : Option (Ex × XS) :=
 match st.env.get g with
 | some sv => match aGH P sv [.c (.yl (st.k + 1))], st.own.get st.k, st.own.get (st.k + 1) with
  | .fn gf svs, none, none => match nC st.own [(st.k, .box ⟨.raw (.deferred (some [])), none⟩ []), (st.k + 1, .box ⟨.lp n ((cW n st.env).map (·.1)) .ready none ps asg bd, none⟩ ((cW n st.env).map (·.2)))] with
   | some own2 => match E.call (st.k + 2) gf svs own2 with
    | some r => match r.own.get (st.k + 1) with
     | some (.box ⟨.lp n' sl ls pend ps' as' bd', q⟩ cells) => match lA pend, nC r.own [(st.k + 1, .box ⟨.lp n' sl .exhausted pend ps' as' bd', q⟩ cells)] with
      | some e, some own3 => bif LoopState.isBusy ls then none else
       some (e, ⟨st.env, own3, r.k, (st.k :: (st.k + 1) :: r.touch) ++ st.T, ((st.k + 1, .box ⟨.lp n' sl .exhausted pend ps' as' bd', q⟩ cells) :: r.upd.reverse ++ [(st.k + 1, .box ⟨.lp n ((cW n st.env).map (·.1)) .ready none ps asg bd, none⟩ ((cW n st.env).map (·.2))), (st.k, .box ⟨.raw (.deferred (some [])), none⟩ [])]) ++ st.U, r.cs ++ st.cs, .mark st.k :: st.mks⟩)
      | _, _ => none
     | _ => none
    | none => none
   | none => none
  | _, _, _ => none
 | none => none
def aCD {P : Program} {G : List (Nat × List Value)} (E : Exe P G) (n i : Nat) (g : Tmp) (ps : Array Tmp) (asg bd : Code) (st : XS) : Option (Ex × XS) :=
 match st.env.get g, st.own.get i with
 | some sv, some (.box ⟨.lp _n _s _l _p _q _a _b, _c⟩ _d) => match aGH P sv [.c (.yl st.k)], st.own.get st.k with
  | .fn gf svs, none => match nC st.own [(st.k, .box ⟨.lp n ((cW n st.env).map (·.1)) .ready none ps asg bd, none⟩ ((cW n st.env).map (·.2)))] with
   | some own2 => match E.call (st.k + 1) gf svs own2 with
    | some r => match r.own.get st.k with
     | some (.box ⟨.lp n' sl ls pend ps' as' bd', q⟩ cells) => match lA pend, nC r.own [(st.k, .box ⟨.lp n' sl .exhausted pend ps' as' bd', q⟩ cells)] with
      | some e, some own3 => bif LoopState.isBusy ls then none else
       some (e, ⟨st.env, own3, r.k, (i :: st.k :: r.touch) ++ st.T, ((st.k, .box ⟨.lp n' sl .exhausted pend ps' as' bd', q⟩ cells) :: r.upd.reverse ++ [(st.k, .box ⟨.lp n ((cW n st.env).map (·.1)) .ready none ps asg bd, none⟩ ((cW n st.env).map (·.2)))]) ++ st.U, r.cs ++ st.cs, st.mks⟩)
      | _, _ => none
     | _ => none
    | none => none
   | none => none
  | _, _ => none
 | _, _ => none
def isDf (o : Oper) : Option Tmp := match o.op, o.dst, o.guard with
 | .defer { callee := .value (.tmp t), args := ⟨[]⟩, argTypes := _ }, none, none => some t
 | _, _, _ => none
def regD {P : Program} {G : List (Nat × List Value)} (E : Exe P G) (n : Nat) (ops : Array Oper) (st : XS) : Option XS :=
 match ops.back? with
 | some o => match isDf o with
  | some t => bif d3 ops.pop then (match aHC E n ops.pop false st with
   | some st1 => match st1.env.get t with
    | some (.c (.fn f [] cap)) => match aIV E.df f with
     | some e => bif enters P f && Nat.beq cap.length e.ar then some ⟨st1.env, st1.own, st1.k, st1.T, st1.U, st1.cs, .df f cap :: st1.mks⟩ else none
     | none => none
    | _ => none
   | none => none) else none
  | none => none
 | none => none
def frzT (t : Nat) (st : XS) : Option XS := match st.env.get t with
 | some (.c (.ar i k)) => match st.own.get i with
  | some (.arr k' ⟨e, []⟩ sz es) => bif Nat.beq k' k && Nat.ble 100 i && few t then (match nC st.own [(i, .arr (k' + 1) ⟨e, []⟩ sz [])] with
   | some own' => some ⟨Tr.put (some (.c (.d (.sl sz es)))) 40 st.env t, own', st.k, i :: st.T, (i, .arr (k' + 1) ⟨e, []⟩ sz []) :: st.U, st.cs, st.mks⟩
   | none => none) else none
  | _ => none
 | _ => none
def frzS (l : Option Value) (st : XS) : XS := match l with
 | some (.agg ⟨[.int .i64 (.ofNat t)]⟩) => match frzT t st with
  | some st' => st'
  | none => st
 | _ => st
def evC {P : Program} {G : List (Nat × List Value)} (E : Exe P G) (fl : Option Nat) (n : Nat) : Nat → Code → XS → Option (Ex × XS)
 | 0, _, _ => none
 | f + 1, c, st => match c with
  | .skip => some (.normal, st)
  | .region id ops draw => bif d3 ops then (match aHC E n ops draw (frzS (E.lit st.k) st) with
   | some st' => some (.normal, st')
   | none => none) else bif fl.isNone && !draw then (match regD E n ops st with
   | some st' => some (.normal, st')
   | none => none) else none
  | .seq x y => match evC E fl n f x st with
   | some (.normal, st') => evC E fl n f y st'
   | some (e, st') => some (e, st')
   | none => none
  | .cond c x y => match jF (bU [] st.env) [] [] c with
   | some (.c (.d (.v (.bool b)))) => match E.orc st.k with
    | some true => evC E fl n f x ⟨st.env, st.own, st.k, st.T, st.U, (b = true) :: st.cs, st.mks⟩
    | some false => evC E fl n f y ⟨st.env, st.own, st.k, st.T, st.U, (b = false) :: st.cs, st.mks⟩
    | none => match b with
     | true => evC E fl n f x st
     | false => evC E fl n f y st
   | _ => none
  | .block id x => match evC E fl n f x st with
   | some (.exit k, st') => bif Nat.beq k id then some (.normal, st') else some (.exit k, st')
   | some (e, st') => some (e, st')
   | none => none
  | .loop x => match evC E fl n f x st with
   | some (.normal, st') => evC E fl n f (.loop x) st'
   | some (e, st') => some (e, st')
   | none => none
  | .rangeFunc (.tmp g) ps asg bd => match fl with
   | none => aCC E n g ps asg bd st
   | some i => aCD E n i g ps asg bd st
  | .exit id => some (.exit id, st)
  | .ret => some (.ret, st)
  | _ => none
section
variable {P : Program} {G : List (Nat × List Value)} {E : Exe P G} {n : Nat} {fl : Option Nat}
theorem Goes.nil {V : Wp P → (Exit → Act → World → Prop) → Act → World → Prop} {e : Ex} {st : XS} (h : ∀ (R : Wp P) (Q : Exit → Act → World → Prop) (a : Act) (w : World), Q e.to a w → V R Q a w) : Goes P G fl n V e st st :=
 ⟨[], [], [], rfl, rfl, rfl, rfl, fun x hx => by simp [keys] at hx, fun R fr own0 a w pl Q _ _ _ _ hok hQ => h R Q a w (hQ a w pl hok)⟩
theorem Goes.trans {V V1 V2 : Wp P → (Exit → Act → World → Prop) → Act → World → Prop} {e1 e2 : Ex} {st st1 st2 : XS} (h1 : Goes P G fl n V1 e1 st st1) (h2 : Goes P G fl n V2 e2 st1 st2)
  (h : ∀ (R : Wp P) (Q : Exit → Act → World → Prop) (a : Act) (w : World), V1 R (fun e a w => e = e1.to ∧ V2 R (fun e a w => e = e2.to ∧ Q e2.to a w) a w) a w → V R Q a w) : Goes P G fl n V e2 st st2 := by
 obtain ⟨T1, U1, C1, a1, a2, a3, a4, a5, a6⟩ := h1.dl
 obtain ⟨T2, U2, C2, b1, b2, b3, b4, b5, b6⟩ := h2.dl
 refine ⟨T2 ++ T1, U2 ++ U1, C2 ++ C1, by rw [b1, a1, List.append_assoc], by rw [b2, a2, List.append_assoc], by rw [b3, a3, List.append_assoc], by rw [b4, a4, bS], fun x hx => ?_, fun R fr own0 a w pl Q hR hG hc ht hok hQ => ?_⟩
 simp only [keys, List.map_append, List.mem_append] at hx ⊢
 exact hx.imp (b5 x) (a5 x)
 obtain ⟨hc2, hc1⟩ := dH hc
 refine h R Q a w (a6 R fr own0 a w pl _ hR hG hc1 (fun i hi => ht i (by simp [hi])) hok fun a' w' pl' hok' => ⟨rfl, ?_⟩)
 refine b6 R fr _ a' w' pl' _ hR hG hc2 (fun i hi => ?_) hok' fun a2 w2 pl2 hok2 => ⟨rfl, ?_⟩
 rw [a4]; exact e7 U1 (ht i (by simp [hi]))
 rw [← bS] at hok2
 exact hQ a2 w2 pl2 hok2
theorem Goes.one {V V1 : Wp P → (Exit → Act → World → Prop) → Act → World → Prop} {e1 e : Ex} {st st1 : XS} (h1 : Goes P G fl n V1 e1 st st1)
  (h : ∀ (R : Wp P) (Q : Exit → Act → World → Prop) (a : Act) (w : World), V1 R (fun e' a w => e' = e1.to ∧ Q e.to a w) a w → V R Q a w) : Goes P G fl n V e st st1 := by
 obtain ⟨T1, U1, C1, a1, a2, a3, a4, a5, a6⟩ := h1.dl
 refine ⟨T1, U1, C1, a1, a2, a3, a4, a5, fun R fr own0 a w pl Q hR hG hc ht hok hQ => ?_⟩
 exact h R Q a w (a6 R fr own0 a w pl _ hR hG hc ht hok fun a' w' pl' hok' => ⟨rfl, hQ a' w' pl' hok'⟩)
theorem jV {tr : Tr SV} : ∀ {n : Nat} {t : Nat} {c : C}, (t, c) ∈ cW n tr → tr.get t = some (.c c) ∧ t < n
 | 0, t, c, h => by cases h
 | n + 1, t, c, h => by
  simp only [cW] at h
  split at h
  rename_i c' hc
  rcases List.mem_cons.1 h with h | h
  injection h with h1 h2
  subst h1; subst h2
  exact ⟨hc, by omega⟩
  obtain ⟨h1, h2⟩ := jV h
  exact ⟨h1, by omega⟩
  obtain ⟨h1, h2⟩ := jV h
  exact ⟨h1, by omega⟩
theorem All2.of_map {α β γ : Type} {R : β → γ → Prop} {l : List α} {f : α → β} {g : α → γ} (h : ∀ x ∈ l, R (f x) (g x)) : All2 R (l.map f) (l.map g) := by
 refine ⟨by simp, fun j x y hx hy => ?_⟩
 simp only [List.getElem?_map, Option.map_eq_some_iff] at hx hy
 obtain ⟨z, hz, rfl⟩ := hx
 obtain ⟨z', hz', rfl⟩ := hy
 rw [hz] at hz'
 simp only [Option.some.injEq] at hz'
 subst hz'
 exact h z (List.mem_of_getElem? hz)
theorem aHF (hE : ExeOk E) {g : Tmp} {ps : Array Tmp} {asg bd : Code} {st st' : XS} {e : Ex} (h : aCC E n g ps asg bd st = some (e, st')) : Goes P G none n (fun R Q => R.wp (.rangeFunc (.tmp g) ps asg bd) Q) e st st' := by
 unfold aCC at h
 split at h
 ·rename_i sv hsv
  have hwho := u9 (P := P) sv [.c (.yl (st.k + 1))]
  split at h
  ·rename_i gf svs hwv hD0 hL0
   rw [hwv] at hwho
   generalize hob1 : (Ob.box ⟨.raw (.deferred (some [])), none⟩ []) = ob1 at h
   generalize hob2 : (Ob.box ⟨.lp n ((cW n st.env).map (·.1)) .ready none ps asg bd, none⟩ ((cW n st.env).map (·.2))) = ob2 at h
   split at h
   ·rename_i own2 hset2
    split at h
    ·rename_i r hr
     split at h
     ·rename_i n' sl ls pend ps' as' bd' q cells hdL
      split at h
      ·rename_i e1 own3 hex hset3
       cases hbusy : LoopState.isBusy ls with
       | true => rw [hbusy] at h; cases h
       | false =>
        rw [hbusy] at h
        simp only [cond_false, Option.some.injEq, Prod.mk.injEq] at h
        obtain ⟨rfl, rfl⟩ := h
        obtain ⟨c1, c2, c3⟩ := hE.call _ _ _ _ _ hr
        have g2 := eA hset2
        have g3 := eA hset3
        simp only [bE] at g2 g3
        refine ⟨st.k :: (st.k + 1) :: r.touch, (st.k + 1, .box ⟨.lp n' sl .exhausted pend ps' as' bd', q⟩ cells) :: r.upd.reverse ++ [(st.k + 1, ob2), (st.k, ob1)], r.cs, rfl, rfl, rfl, ?_, fun x hx => ?_, fun R fr own0 a w pl Q hR hG hc ht hok hQ => ?_⟩
        ·rw [g3, c1, g2]
         simp only [dR, List.cons_append]
         rw [bS, cY]
         rfl
        ·simp only [keys, List.map_cons, List.map_append, List.map_reverse, List.cons_append, List.mem_cons, List.mem_append, List.mem_reverse, List.map_nil, List.not_mem_nil, or_false] at hx
         simp only [List.mem_cons]
         rcases hx with hx | hx | hx | hx
         ·exact .inr (.inl hx)
         ·exact .inr (.inr (c2 x hx))
         ·exact .inr (.inl hx)
         ·exact .inl hx
        ·have hRe : R = eD P := hR
         subst hRe
         have ok := hok.ok
         have hD0' : own0 st.k = none := by rw [ht st.k (by simp)]; exact hD0
         have hL0' : own0 (st.k + 1) = none := by rw [ht (st.k + 1) (by simp)]; exact hL0
         show (Code.rangeFunc (.tmp g) ps asg bd).wp P Q a w
         refine wpIn_wide.1 (wpIn_rangeFunc (n := 0) fun fnid _ => ?_)
         obtain ⟨pl1, m1, L1, hb1, _⟩ := ok.mem.newBoxO (i := st.k) hD0' ⟨.raw (.deferred (some [])), none⟩ (fun b hb => by cases hb) (cells := []) (vs := []) All2.nil (x := .deferred (some [])) rfl
         have ok1 := ok.later m1 L1
         have hcells : All2 (COk (w.alloc (.deferred (some []))) pl1 (upd own0 st.k (.box ⟨.raw (.deferred (some [])), none⟩ []))) ((cW n st.env).map (·.2)) ((cW n st.env).map fun x => a.tmps.getD x.1 undef) := All2.of_map fun x hx => by
          obtain ⟨h1, _⟩ := jV (t := x.1) (c := x.2) hx
          exact ok1.yes x.1 [] (.c x.2) (by simp [bU, aE, h1]) holds_nil
         obtain ⟨pl2, m2, L2, hb2, _⟩ := m1.newBoxO (i := st.k + 1) (by rw [upd_ne _ _ (by omega)]; exact hL0') ⟨.lp n ((cW n st.env).map (·.1)) .ready none ps asg bd, none⟩ (fun b hb => by cases hb) hcells (x := .loop { state := .ready, pending := none, fn := fnid, tmps := a.tmps, params := ps, assign := asg, body := bd, defers := w.heap.size }) ⟨a.tmps, fnid, w.heap.size, rfl, ok.size, by simp⟩
         have hsz : (w.alloc (.deferred (some []))).heap.size = w.heap.size + 1 := by simp
         rw [hsz] at hb2
         have L02 := L1.trans L2
         have ok2 := ok1.later m2 L2
         have hbD : pl2.blk st.k = w.heap.size := ((L2.bx st.k _ _ (upd_same _ _ _)).2).trans hb1
         rw [hob1] at m2 L02 ok2 m1
         rw [hob2] at m2 L02 ok2
         generalize hown2 : upd (upd own0 st.k ob1) (st.k + 1) ob2 = ownA at m2 L02 ok2
         have hy : bC ((w.alloc (.deferred (some []))).alloc (.loop { state := .ready, pending := none, fn := fnid, tmps := a.tmps, params := ps, assign := asg, body := bd, defers := w.heap.size })) pl2 ownA (.c (.yl (st.k + 1))) (.func (.yield (w.heap.size + 1)) #[] #[]) := by
          refine ⟨⟨_, _, by rw [← hown2, upd_same, ← hob2]⟩, by rw [hb2]⟩
         obtain ⟨lv, mv, hent, hv, hvals⟩ := hwho ownA _ pl2 _ [.func (.yield (w.heap.size + 1)) #[] #[]] (ok2.yes g [] sv (by simp [bU, aE, hsv]) holds_nil) (All2.one hy)
         have hv : a.eval (.tmp g) = .func (.func gf) lv mv := hv
         have hcalls := c3 { fr with ds := mkD pl st.mks } ownA _ pl2 _ hG hc (fun i hi => by
          rw [← hown2, g2]
          have h0 := ht i (by simp [hi])
          by_cases hi1 : i = st.k + 1
          ·subst hi1; rw [upd_same, upd_same]
          ·rw [upd_ne _ _ hi1, upd_ne _ _ hi1]
           by_cases hi2 : i = st.k
           ·subst hi2; rw [upd_same, upd_same]
           ·rw [upd_ne _ _ hi2, upd_ne _ _ hi2]; exact h0) m2 hvals
         refine ⟨w.heap.size + 1, [{ target := .collected w.heap.size, args := #[] }], ((w.alloc (.deferred (some []))).alloc (.loop { state := .ready, pending := none, fn := fnid, tmps := a.tmps, params := ps, assign := asg, body := bd, defers := w.heap.size })), { target := .fn (.func gf) mv, args := lv ++ #[.func (.yield (w.heap.size + 1)) #[] #[]] }, ((w.alloc (.deferred (some []))).alloc (.loop { state := .ready, pending := none, fn := fnid, tmps := a.tmps, params := ps, assign := asg, body := bd, defers := w.heap.size })), gf, (lv.toList ++ [Value.func (.yield (w.heap.size + 1)) #[] #[]] ++ mv.toList).toArray, _, run_enterLoop_outer fnid a.tmps ps asg bd, ?_, fun _ _ => trivial, ?_, fun h => (by cases h), callsIn_wide.2 (Calls.mono hcalls ?_)⟩
         ·simp only [resolve, hv, Deferred.ofValue]
          simp [Act.eval]
         ·simp only [invoke]
          rw [fV hent]
          congr 2
          apply Array.ext'
          simp
         ·rintro en w3 ⟨v, pl3, rfl, m3, L3, _⟩
          have hdL' : bE ownA r.upd (st.k + 1) = some (.box ⟨.lp n' sl ls pend ps' as' bd', q⟩ cells) := by
           rw [← hdL, c1, g2]
           refine f0 _ ?_
           rw [← hown2, upd_same, upd_same]
          have hbL3 : pl3.blk (st.k + 1) = w.heap.size + 1 := by
           rw [(L3.bx (st.k + 1) _ _ (by rw [← hown2, upd_same, ← hob2])).2, hb2]
          obtain ⟨vs, hat, hcl⟩ := m3.obj (st.k + 1) _ hdL'
          obtain ⟨tm, fn3, D3, hh, hts, hvs⟩ := hat
          rw [hbL3] at hh
          have hnb : ls ≠ .busy := fun h => by rw [h] at hbusy; cases hbusy
          refine ⟨pend, _, run_endLoop hh hnb, ?_⟩
          obtain ⟨m4, L4⟩ := m3.turnObjO (ty' := ⟨.lp n' sl .exhausted pend ps' as' bd', q⟩) (cells' := cells) (vs' := vs) hdL' rfl hcl (x := .loop { state := .exhausted, pending := pend, fn := fn3, tmps := tm, params := ps', assign := as', body := bd', defers := D3 }) ⟨tm, fn3, D3, rfl, hts, hvs⟩
          rw [hbL3] at m4 L4
          have Lall := (L02.trans L3).trans L4
          have ok4 := ok.later m4 Lall
          have hownE : upd (bE ownA r.upd) (st.k + 1) (.box ⟨.lp n' sl .exhausted pend ps' as' bd', q⟩ cells) = dR ((st.k + 1, .box ⟨.lp n' sl .exhausted pend ps' as' bd', q⟩ cells) :: r.upd.reverse ++ [(st.k + 1, ob2), (st.k, ob1)]) own0 := by
           simp only [dR, List.cons_append]
           rw [bS, cY, ← hown2]
           rfl
          rw [hownE] at ok4 m4 L4 Lall
          obtain ⟨e1', e2'⟩ := g6 Lall hok.bx
          have hbD4 : pl3.blk st.k = w.heap.size := by
           rw [(L3.bx st.k ⟨.raw (.deferred (some [])), none⟩ [] (by rw [← hown2, upd_ne _ _ (by omega), upd_same, hob1])).2, hbD]
          have hfin : OkM fr n (bU [] st.env) (dR ((st.k + 1, .box ⟨.lp n' sl .exhausted pend ps' as' bd', q⟩ cells) :: r.upd.reverse ++ [(st.k + 1, ob2), (st.k, ob1)]) own0) (.mark st.k :: st.mks) { a with defers := [{ target := .collected w.heap.size, args := #[] }] ++ a.defers } (w3.putObj (w.heap.size + 1) (.loop { state := .exhausted, pending := pend, fn := fn3, tmps := tm, params := ps', assign := as', body := bd', defers := D3 })) pl3 := by
           refine ⟨⟨ok4.mem.of.to _ _, ?_, ok4.size, ok4.yes, ok4.no, fun q hq => ok4.late q hq⟩, fun i hi => ?_⟩
           ·show [_] ++ a.defers = mkD pl3 (.mark st.k :: st.mks)
            have hdd : a.defers = mkD pl st.mks := ok.defers
            rw [hdd, ← e1']
            simp [mkD, Mk.d, hbD4]
           ·rcases List.mem_cons.1 hi with rfl | hi
            ·have : ∃ ty cs, upd (bE ownA r.upd) (st.k + 1) (.box ⟨.lp n' sl .exhausted pend ps' as' bd', q⟩ cells) st.k = some (.box ty cs) := by
              rw [upd_ne _ _ (by omega)]
              exact (L3.bx st.k ⟨.raw (.deferred (some [])), none⟩ [] (by rw [← hown2, upd_ne _ _ (by omega), upd_same, hob1])).1
             rw [hownE] at this
             exact this
            ·exact e2' i hi
          have hq := hQ _ _ _ hfin
          generalize w3.putObj (w.heap.size + 1) (.loop { state := .exhausted, pending := pend, fn := fn3, tmps := tm, params := ps', assign := as', body := bd', defers := D3 }) = wv at hq ⊢
          cases pend with
          | none =>
           simp only [lA, Option.some.injEq] at hex
           subst hex
           exact hq
          | some c =>
           cases c with
           | ret => simp only [lA, Option.some.injEq] at hex; subst hex; exact wpIn_ret hq
           | exit id => simp only [lA, Option.some.injEq] at hex; subst hex; exact wpIn_exit hq
           | _ => simp [lA] at hex
      ·cases h
     ·cases h
    ·cases h
   ·cases h
  ·cases h
 ·cases h
theorem aHG (hE : ExeOk E) {i : Nat} {g : Tmp} {ps : Array Tmp} {asg bd : Code} {st st' : XS} {e : Ex} (h : aCD E n i g ps asg bd st = some (e, st')) : Goes P G (some i) n (fun R Q => R.wp (.rangeFunc (.tmp g) ps asg bd) Q) e st st' := by
 unfold aCD at h
 split at h
 ·rename_i sv _ _ _ _ _ _ _ _ _ hsv hIo
  have hwho := u9 (P := P) sv [.c (.yl st.k)]
  split at h
  ·rename_i gf svs hwv hL0
   rw [hwv] at hwho
   generalize hob2 : (Ob.box ⟨.lp n ((cW n st.env).map (·.1)) .ready none ps asg bd, none⟩ ((cW n st.env).map (·.2))) = ob2 at h
   split at h
   ·rename_i own2 hset2
    split at h
    ·rename_i r hr
     split at h
     ·rename_i n' sl ls pend ps' as' bd' q cells hdL
      split at h
      ·rename_i e1 own3 hex hset3
       cases hbusy : LoopState.isBusy ls with
       | true => rw [hbusy] at h; cases h
       | false =>
        rw [hbusy] at h
        simp only [cond_false, Option.some.injEq, Prod.mk.injEq] at h
        obtain ⟨rfl, rfl⟩ := h
        obtain ⟨c1, c2, c3⟩ := hE.call _ _ _ _ _ hr
        have g2 := eA hset2
        have g3 := eA hset3
        simp only [bE] at g2 g3
        refine ⟨i :: st.k :: r.touch, (st.k, .box ⟨.lp n' sl .exhausted pend ps' as' bd', q⟩ cells) :: r.upd.reverse ++ [(st.k, ob2)], r.cs, rfl, rfl, rfl, ?_, fun x hx => ?_, fun R fr own0 a w pl Q hR hG hc ht hok hQ => ?_⟩
        ·rw [g3, c1, g2]
         simp only [dR, List.cons_append]
         rw [bS, cY]
         rfl
        ·simp only [keys, List.map_cons, List.map_append, List.map_reverse, List.cons_append, List.mem_cons, List.mem_append, List.mem_reverse, List.map_nil, List.not_mem_nil, or_false] at hx
         simp only [List.mem_cons]
         rcases hx with hx | hx | hx
         ·exact .inr (.inl hx)
         ·exact .inr (.inr (c2 x hx))
         ·exact .inr (.inl hx)
        ·obtain ⟨q0, hq0, ⟨tyq, csq, hqi⟩, rfl⟩ := hR
         have ok := hok.ok
         have hbi : pl.blk i = q0.2.1.blk i := ((ok.late q0 hq0).bx i _ _ hqi).2
         have hI0 := (ht i (by simp)).trans hIo
         obtain ⟨vsI, ⟨tmI, fnI, DI, hhI, _, _⟩, _⟩ := ok.mem.obj i _ hI0
         rw [hbi] at hhI
         have hL0' : own0 st.k = none := by rw [ht st.k (by simp)]; exact hL0
         show (Code.rangeFunc (.tmp g) ps asg bd).wpIn (Fence.wide.inRound (q0.2.1.blk i)) 0 P Q a w
         refine wpIn_rangeFunc (n := 0) fun fnid _ => ?_
         have hcells : All2 (COk w pl own0) ((cW n st.env).map (·.2)) ((cW n st.env).map fun x => a.tmps.getD x.1 undef) := All2.of_map fun x hx => by
          obtain ⟨h1, _⟩ := jV (t := x.1) (c := x.2) hx
          exact ok.yes x.1 [] (.c x.2) (by simp [bU, aE, h1]) holds_nil
         obtain ⟨pl2, m2, L2, hb2, _⟩ := ok.mem.newBoxO (i := st.k) hL0' ⟨.lp n ((cW n st.env).map (·.1)) .ready none ps asg bd, none⟩ (fun b hb => by cases hb) hcells (x := .loop { state := .ready, pending := none, fn := fnid, tmps := a.tmps, params := ps, assign := asg, body := bd, defers := DI }) ⟨a.tmps, fnid, DI, rfl, ok.size, by simp⟩
         have ok2 := ok.later m2 L2
         rw [hob2] at m2 L2 ok2
         generalize hown2 : upd own0 st.k ob2 = ownA at m2 L2 ok2
         have hy : bC (w.alloc (.loop { state := .ready, pending := none, fn := fnid, tmps := a.tmps, params := ps, assign := asg, body := bd, defers := DI })) pl2 ownA (.c (.yl st.k)) (.func (.yield w.heap.size) #[] #[]) := by
          refine ⟨⟨_, _, by rw [← hown2, upd_same, ← hob2]⟩, by rw [hb2]⟩
         obtain ⟨lv, mv, hent, hv, hvals⟩ := hwho ownA _ pl2 _ [.func (.yield w.heap.size) #[] #[]] (ok2.yes g [] sv (by simp [bU, aE, hsv]) holds_nil) (All2.one hy)
         have hv : a.eval (.tmp g) = .func (.func gf) lv mv := hv
         have hcalls := c3 { fr with ds := mkD pl st.mks } ownA _ pl2 _ hG hc (fun j hj => by
          rw [← hown2, g2]
          have h0 := ht j (by simp [hj])
          by_cases hj1 : j = st.k
          ·subst hj1; rw [upd_same, upd_same]
          ·rw [upd_ne _ _ hj1, upd_ne _ _ hj1]; exact h0) m2 hvals
         refine ⟨w.heap.size, [], (w.alloc (.loop { state := .ready, pending := none, fn := fnid, tmps := a.tmps, params := ps, assign := asg, body := bd, defers := DI })), { target := .fn (.func gf) mv, args := lv ++ #[.func (.yield w.heap.size) #[] #[]] }, (w.alloc (.loop { state := .ready, pending := none, fn := fnid, tmps := a.tmps, params := ps, assign := asg, body := bd, defers := DI })), gf, (lv.toList ++ [Value.func (.yield w.heap.size) #[] #[]] ++ mv.toList).toArray, _, run_enterLoop_inner hhI fnid a.tmps ps asg bd, ?_, fun _ _ => trivial, ?_, fun h => (by cases h), (callsIn_wide.2 (Calls.mono hcalls ?_) : CallsIn Fence.wide _ _ _ _ _ _)⟩
         ·simp only [resolve, hv, Deferred.ofValue]
          simp [Act.eval]
         ·simp only [invoke]
          rw [fV hent]
          congr 2
          apply Array.ext'
          simp
         ·rintro en w3 ⟨v, pl3, rfl, m3, L3, _⟩
          have hdL' : bE ownA r.upd st.k = some (.box ⟨.lp n' sl ls pend ps' as' bd', q⟩ cells) := by
           rw [← hdL, c1, g2]
           refine f0 _ ?_
           rw [← hown2, upd_same, upd_same]
          have hbL3 : pl3.blk st.k = w.heap.size := by
           rw [(L3.bx st.k _ _ (by rw [← hown2, upd_same, ← hob2])).2, hb2]
          obtain ⟨vs, hat, hcl⟩ := m3.obj st.k _ hdL'
          obtain ⟨tm, fn3, D3, hh, hts, hvs⟩ := hat
          rw [hbL3] at hh
          have hnb : ls ≠ .busy := fun h => by rw [h] at hbusy; cases hbusy
          refine ⟨pend, _, run_endLoop hh hnb, ?_⟩
          obtain ⟨m4, L4⟩ := m3.turnObjO (ty' := ⟨.lp n' sl .exhausted pend ps' as' bd', q⟩) (cells' := cells) (vs' := vs) hdL' rfl hcl (x := .loop { state := .exhausted, pending := pend, fn := fn3, tmps := tm, params := ps', assign := as', body := bd', defers := D3 }) ⟨tm, fn3, D3, rfl, hts, hvs⟩
          rw [hbL3] at m4 L4
          have Lall := (L2.trans L3).trans L4
          have ok4 := ok.later m4 Lall
          have hownE : upd (bE ownA r.upd) st.k (.box ⟨.lp n' sl .exhausted pend ps' as' bd', q⟩ cells) = dR ((st.k, .box ⟨.lp n' sl .exhausted pend ps' as' bd', q⟩ cells) :: r.upd.reverse ++ [(st.k, ob2)]) own0 := by
           simp only [dR, List.cons_append]
           rw [bS, cY, ← hown2]
           rfl
          rw [hownE] at ok4 m4 L4 Lall
          obtain ⟨e1', e2'⟩ := g6 Lall hok.bx
          have hfin : OkM fr n (bU [] st.env) (dR ((st.k, .box ⟨.lp n' sl .exhausted pend ps' as' bd', q⟩ cells) :: r.upd.reverse ++ [(st.k, ob2)]) own0) st.mks { a with defers := [] ++ a.defers } (w3.putObj w.heap.size (.loop { state := .exhausted, pending := pend, fn := fn3, tmps := tm, params := ps', assign := as', body := bd', defers := D3 })) pl3 := by
           refine ⟨⟨ok4.mem.of.to _ _, ?_, ok4.size, ok4.yes, ok4.no, fun q hq => ok4.late q hq⟩, e2'⟩
           show [] ++ a.defers = mkD pl3 st.mks
           have hdd : a.defers = mkD pl st.mks := ok.defers
           rw [hdd, ← e1']
           rfl
          have hq := hQ _ _ _ hfin
          generalize w3.putObj w.heap.size (.loop { state := .exhausted, pending := pend, fn := fn3, tmps := tm, params := ps', assign := as', body := bd', defers := D3 }) = wv at hq ⊢
          cases pend with
          | none =>
           simp only [lA, Option.some.injEq] at hex
           subst hex
           exact hq
          | some c =>
           cases c with
           | ret => simp only [lA, Option.some.injEq] at hex; subst hex; exact wpIn_ret hq
           | exit id => simp only [lA, Option.some.injEq] at hex; subst hex; exact wpIn_exit hq
           | _ => simp [lA] at hex
      ·cases h
     ·cases h
    ·cases h
   ·cases h
  ·cases h
 ·cases h
theorem aE5 {ops ops' : Array Oper} {K : Act → World → Prop} {Q : Exit → Act → World → Prop} {rest : List Nat} (hnd : d3 ops' = true) (hK : ∀ a w, K a w → wpOpsIn (eG none) 0 P ops Q rest a w) : ∀ {l : List Nat} {a : Act} {w : World}, (∀ i ∈ l, ops[i]? = ops'[i]?) → (∀ i ∈ l, ∀ o, ops'[i]? = some o → ∀ tm : Array Value, Region.wanted o (yielded ops tm) = Region.wanted o (yielded ops' tm)) → dI P ops' K l a w → wpOpsIn (eG none) 0 P ops Q (l ++ rest) a w
 | [], a, w, _, _, h => hK a w h
 | i :: r, a, w, hs, hy, h => by
  have ih : ∀ a w, dI P ops' K r a w → wpOpsIn (eG none) 0 P ops Q (r ++ rest) a w := fun a w h => aE5 hnd hK (fun j hj => hs j (by simp [hj])) (fun j hj => hy j (by simp [hj])) h
  simp only [dI, d9] at h
  simp only [List.cons_append, wpOpsIn]
  rw [hs i (by simp)]
  cases ho : ops'[i]? with
  | none => simp only [ho] at h; exact ih a w h
  | some o =>
   simp only [ho] at h
   have hmem : o ∈ ops'.toList := by
    rw [List.mem_iff_getElem?]
    exact ⟨i, by simpa using ho⟩
   have hdo : pU o.op = false := by
    have := List.all_eq_true.1 hnd o hmem
    simpa using this
   have hyw := hy i (by simp) o ho a.tmps
   by_cases hw : Region.wanted o (yielded ops' a.tmps) = true
   rw [if_pos hw] at h
   simp only [hyw, if_pos hw]
   exact aK5 none hdo (h.mono fun a w h => ih a w h)
   rw [if_neg hw] at h
   simp only [hyw, if_neg hw]
   exact ⟨fun f _ => rO none f, ih _ w h⟩
theorem isDf_ok {o : Oper} {t : Tmp} (h : isDf o = some t) : (∃ ats, o.op = .defer { callee := .value (.tmp t), args := #[], argTypes := ats }) ∧ o.dst = none ∧ o.guard = none := by
 unfold isDf at h
 split at h
 rename_i t' ats h1 h2 h3
 simp only [Option.some.injEq] at h
 subst h
 exact ⟨⟨_, h1⟩, h2, h3⟩
 cases h
theorem regD_ok (hE : ExeOk E) {id : Nat} {ops : Array Oper} {st st' : XS} (h : regD E n ops st = some st') : Goes P G none n (fun R Q => R.wp (.region id ops false) Q) .normal st st' := by
 unfold regD at h
 split at h
 rename_i o hback
 split at h
 rename_i t hdf
 cases hnd : d3 ops.pop with
 | false => rw [hnd] at h; cases h
 | true =>
  rw [hnd] at h
  simp only [cond_true] at h
  split at h
  rename_i st1 hr
  split at h
  rename_i f cap ht
  split at h
  rename_i e he
  cases hen : (enters P f && Nat.beq cap.length e.ar) with
  | false => rw [hen] at h; cases h
  | true =>
   rw [hen] at h
   simp only [cond_true, Option.some.injEq] at h
   subst h
   obtain ⟨⟨ats, hop⟩, hdst, hgd⟩ := isDf_ok hdf
   obtain ⟨T1, U1, C1, a1, a2, a3, a4, a5, a6⟩ := (aKL (fl := none) hE hr).dl
   refine ⟨T1, U1, C1, a1, a2, a3, a4, a5, fun R fr own0 a w pl Q hR hG hc hag hok hQ => ?_⟩
   have hRe : R = eD P := hR
   subst hRe
   show (Code.region id ops false).wp P Q a w
   have hsz : ops.size = ops.pop.size + 1 := by
    have : ops.size ≠ 0 := by
     intro h0
     have : ops = #[] := Array.eq_empty_of_size_eq_zero h0
     rw [this] at hback
     simp at hback
    simp; omega
   have hlast : ops[ops.pop.size]? = some o := by
    rw [Array.back?_eq_getElem?] at hback
    rw [← hback]; congr 1; omega
   refine wpIn_wide.1 (wpIn_region (n := 0) ?_)
   show wpOpsIn (eG none) 0 P ops Q (List.range ops.size) a w
   rw [hsz, List.range_succ]
   have hsame : ∀ i ∈ List.range ops.pop.size, ops[i]? = ops.pop[i]? := fun i hi => by
    have := List.mem_range.1 hi
    rw [Array.getElem?_pop, if_pos (by simp at this; omega)]
   refine aE5 (K := fun a w => ∃ pl, OkM fr n (bU [] st1.env) (dR U1 own0) st1.mks a w pl) hnd (fun a1 w1 hk => ?_) hsame (fun i hi o' ho' tm => ?_) (a6 (eD P) fr own0 a w pl (fun _ a w => ∃ pl, OkM fr n (bU [] st1.env) (dR U1 own0) st1.mks a w pl) rfl hG hc hag hok (fun a' w' pl' hok' => ⟨pl', hok'⟩))
   obtain ⟨pl1, hok1⟩ := hk
   simp only [wpOpsIn, hlast]
   have hwant : Region.wanted o (yielded ops a1.tmps) = true := by unfold Region.wanted; rw [hgd]
   rw [if_pos hwant]
   refine ⟨fun f _ => trivial, ?_⟩
   obtain ⟨hbs, hv⟩ := hok1.ok.yes t [] _ (show bU [] st1.env t = some ([], .c (.fn f [] cap)) by simp [bU, aE, ht]) holds_nil
   have hv : a1.eval (.tmp t) = .func (.func f) (([] : List (Nat × Nat)).map (adV pl1)).toArray (cap.map (adV pl1)).toArray := hv
   have hrun : (Oper.semAt (eG none).round a1.eval o).run P w1 = .ok (.defer { target := .fn (.func f) (cap.map (adV pl1)).toArray, args := #[] }) w1 := by
    rw [o9, Oper.semAt_none]
    unfold execOp
    simp only [hop, resolve, hv, Deferred.ofValue]
    simp
   rw [hrun, Oper.uponIn_defer]
   have hput : ({ a1 with defers := { target := .fn (.func f) (cap.map (adV pl1)).toArray, args := #[] } :: a1.defers } : Act).put o.dst undef = { a1 with defers := { target := .fn (.func f) (cap.map (adV pl1)).toArray, args := #[] } :: a1.defers } := by rw [hdst]; rfl
   rw [hput]
   refine hQ _ w1 pl1 ⟨⟨hok1.ok.mem.of.to _ _, ?_, hok1.ok.size, hok1.ok.yes, hok1.ok.no, fun q hq => hok1.ok.late q hq⟩, fun x hx => ?_⟩
   show _ :: a1.defers = mkD pl1 (.df f cap :: st1.mks)
   have : a1.defers = mkD pl1 st1.mks := hok1.ok.defers
   rw [this]; rfl
   rcases List.mem_cons.1 hx with rfl | hx
   exact fun y hy => hbs y (by simp [hy])
   exact hok1.bx x hx
   have hlt := List.mem_range.1 hi
   unfold Region.wanted
   cases hg : o'.guard with
   | none => rfl
   | some jw =>
    obtain ⟨j, want⟩ := jw
    simp only
    have : yielded ops tm j = yielded ops.pop tm j := by
     unfold yielded
     by_cases hj : j < ops.pop.size
     rw [Array.getElem?_pop, if_pos (by simp at hj; omega)]
     have h1 : ops.pop[j]? = none := by simp; simp at hj; omega
     rw [h1]
     by_cases hj2 : j = ops.pop.size
     subst hj2; rw [hlast]; simp [hdst]
     have h2 : ops[j]? = none := by simp; omega
     rw [h2]
    rw [this]
  cases h
  cases h
  cases h
 cases h
 cases h
def gO (R : Wp P) (c : Code) (Q : Exit → Act → World → Prop) : Nat → Act → World → Prop
 | 0 => fun _ _ => False
 | k + 1 => R.wp c (Exit.then (gO R c Q k) Q)
theorem aB9 {R : Wp P} {c : Code} {Q : Exit → Act → World → Prop} {k : Nat} {a : Act} {w : World} (h : gO R c Q k a w) : R.wp (.loop c) Q a w := by
 refine R.loop (fun k a w => gO R c Q k a w) k h fun k a w h => ?_
 cases k with
 | zero => exact h.elim
 | succ k =>
  refine R.mono h fun e a w h => ?_
  cases e with
  | normal => exact ⟨k, by omega, h⟩
  | _ => exact h
def walkV (P : Program) (f : Nat) : Code → Wp P → (Exit → Act → World → Prop) → Act → World → Prop
 | .loop x => fun R Q => gO R x Q f
 | c => fun R Q => R.wp c Q
theorem cL {f : Nat} {c : Code} {R : Wp P} {Q : Exit → Act → World → Prop} {a : Act} {w : World} (h : walkV P f c R Q a w) : R.wp c Q a w := by
 cases c with
 | loop x => exact aB9 h
 | _ => exact h
theorem iM {st : XS} {fr : Fr} {own0 : Own} {a : Act} {w : World} {pl : Pl} {c : Operand} {b : Bool} (hok : Ok fr n (bU [] st.env) own0 a w pl) (h : jF (bU [] st.env) [] [] c = some (.c (.d (.v (.bool b))))) : a.eval c = .bool b :=
 Rd.exact (g8 hok [] [] c _ h holds_nil holds_nil)
theorem frzT_ok {t : Nat} {st st' : XS} (h : frzT t st = some st') : Goes P G fl n (fun _ Q => Q .normal) .normal st st' := by
 unfold frzT at h
 split at h
 rename_i i k hsl
 split at h
 rename_i k' e sz es hi
 cases hc : (Nat.beq k' k && Nat.ble 100 i && few t) with
 | false => rw [hc] at h; cases h
 | true =>
  rw [hc] at h
  simp only [cond_true] at h
  simp only [Bool.and_eq_true] at hc
  obtain ⟨⟨hk, h100⟩, hft⟩ := hc
  have hk := Nat.eq_of_beq_eq_true hk
  subst hk
  split at h
  rename_i own' hset
  simp only [Option.some.injEq] at h
  subst h
  refine ⟨[i], [(i, .arr (k' + 1) ⟨e, []⟩ sz [])], [], rfl, rfl, rfl, eA hset, fun x hx => by simpa [keys] using hx, fun R fr own0 a w pl Q hR hG hc ht hok hQ => ?_⟩
  have h0 : own0 i = some (.arr k' ⟨e, []⟩ sz es) := (ht i (by simp)).trans hi
  have ok := hok.ok
  obtain ⟨pl', m', L, hr⟩ := ok.mem.freeze h0 (Nat.le_of_ble_eq_true h100)
  have ok' := ok.later m' L
  obtain ⟨e1, e2⟩ := g6 L hok.bx
  have hv : COk w pl own0 (.ar i k') (a.tmps.getD t undef) := ok.yes t [] (.c (.ar i k')) (by simp [bU, aE, hsl]) holds_nil
  refine hQ a w pl' ⟨⟨ok'.mem.of.to _ _, ?_, ok'.size, fun u p sv hu hp => ?_, fun u p sv hu hp => ?_, fun q hq => ok'.late q hq⟩, e2⟩
  show a.defers = mkD pl' st.mks
  have hdd : a.defers = mkD pl st.mks := ok.defers
  rw [hdd, e1]
  simp only [bU, aE, Option.map_eq_some_iff, Prod.mk.injEq] at hu
  obtain ⟨s', hs', _, rfl⟩ := hu
  rw [Tr.get_put40 hft] at hs'
  by_cases hut : u = t
  subst hut
  rw [if_pos rfl] at hs'
  simp only [Option.some.injEq] at hs'
  subst hs'
  rw [dG (w := w) hv h0]
  exact hr
  rw [if_neg hut] at hs'
  exact ok'.yes u [] s' (by simp [bU, aE, hs']) holds_nil
  simp only [bU, aE, Option.map_eq_some_iff, Prod.mk.injEq] at hu
  obtain ⟨_, _, rfl, _⟩ := hu
  exact absurd holds_nil hp
  cases h
 cases h
 cases h
theorem frzS_ok (l : Option Value) (st : XS) : Goes P G fl n (fun _ Q => Q .normal) .normal st (frzS l st) := by
 unfold frzS
 split
 split
 rename_i h; exact frzT_ok h
 exact Goes.nil fun R Q a w hq => hq
 exact Goes.nil fun R Q a w hq => hq
theorem xP (hE : ExeOk E) (hm : P.follows .mixedOrders = true) : ∀ (f : Nat) (c : Code) (e : Ex) (st st' : XS), evC E fl n f c st = some (e, st') → Goes P G fl n (walkV P f c) e st st'
 | 0, c, e, st, st', h => by simp [evC] at h
 | f + 1, c, e, st, st', h => by
  have ih := xP hE hm f
  cases c with
  | skip =>
   simp only [evC, Option.some.injEq, Prod.mk.injEq] at h
   obtain ⟨rfl, rfl⟩ := h
   exact Goes.nil fun R Q a w hq => R.skip hq
  | region id ops draw =>
   simp only [evC] at h
   cases hnd : d3 ops with
   | false =>
    rw [hnd] at h
    simp only [cond_false] at h
    cases hfd : (fl.isNone && !draw) with
    | false => rw [hfd] at h; cases h
    | true =>
     rw [hfd] at h
     simp only [cond_true] at h
     simp only [Bool.and_eq_true, Bool.not_eq_true', Option.isNone_iff_eq_none] at hfd
     obtain ⟨rfl, rfl⟩ := hfd
     split at h
     rename_i st1 hr
     simp only [Option.some.injEq, Prod.mk.injEq] at h
     obtain ⟨rfl, rfl⟩ := h
     exact regD_ok hE hr
     cases h
   | true =>
    rw [hnd] at h
    simp only [cond_true] at h
    split at h
    rename_i st1 hr
    simp only [Option.some.injEq, Prod.mk.injEq] at h
    obtain ⟨rfl, rfl⟩ := h
    refine Goes.trans (frzS_ok (E.lit st.k) st) (regX_ok (id := id) hE hm hnd hr) fun R Q a w hq => ?_
    exact R.mono hq.2 fun e' a w h => by obtain ⟨rfl, h⟩ := h; exact h
    cases h
  | seq x y =>
   simp only [evC] at h
   split at h
   rename_i st1 hx
   refine Goes.trans (ih x _ _ _ hx) (ih y _ _ _ h) fun R Q a w hq => ?_
   refine R.seq (R.mono (cL hq) fun e' a w h => ?_)
   obtain ⟨rfl, h⟩ := h
   exact R.mono (cL h) fun e' a w h => by obtain ⟨rfl, h⟩ := h; exact h
   rename_i e1 st1 hne hx
   simp only [Option.some.injEq, Prod.mk.injEq] at h
   obtain ⟨rfl, rfl⟩ := h
   refine Goes.one (ih x _ _ _ hx) fun R Q a w hq => ?_
   refine R.seq (R.mono (cL hq) fun e' a w h => ?_)
   obtain ⟨rfl, h⟩ := h
   cases e1 with
   | normal => exact (hne rfl).elim
   | exit k => exact h
   | ret => exact h
   cases h
  | cond c x y =>
   simp only [evC] at h
   split at h
   rename_i b hb
   split at h
   obtain ⟨T1, U1, C1, a1, a2, a3, a4, a5, a6⟩ := (ih x _ _ _ h).dl
   refine ⟨T1, U1, C1 ++ [b = true], a1, a2, by rw [a3]; simp, a4, a5, fun R fr own0 a w pl Q hR hG hc ht hok hQ => ?_⟩
   obtain ⟨hc1, hc2⟩ := dH hc
   have hc2 : b = true := hc2
   exact R.cond (iM hok.ok hb) (fun _ => cL (a6 R fr own0 a w pl Q hR hG hc1 ht hok hQ)) (fun h => by rw [hc2] at h; cases h)
   obtain ⟨T1, U1, C1, a1, a2, a3, a4, a5, a6⟩ := (ih y _ _ _ h).dl
   refine ⟨T1, U1, C1 ++ [b = false], a1, a2, by rw [a3]; simp, a4, a5, fun R fr own0 a w pl Q hR hG hc ht hok hQ => ?_⟩
   obtain ⟨hc1, hc2⟩ := dH hc
   have hc2 : b = false := hc2
   exact R.cond (iM hok.ok hb) (fun h => by rw [hc2] at h; cases h) (fun _ => cL (a6 R fr own0 a w pl Q hR hG hc1 ht hok hQ))
   cases b with
   | true =>
    obtain ⟨T1, U1, C1, a1, a2, a3, a4, a5, a6⟩ := (ih x _ _ _ h).dl
    refine ⟨T1, U1, C1, a1, a2, a3, a4, a5, fun R fr own0 a w pl Q hR hG hc ht hok hQ => ?_⟩
    exact R.cond (iM hok.ok hb) (fun _ => cL (a6 R fr own0 a w pl Q hR hG hc ht hok hQ)) (fun h => by cases h)
   | false =>
    obtain ⟨T1, U1, C1, a1, a2, a3, a4, a5, a6⟩ := (ih y _ _ _ h).dl
    refine ⟨T1, U1, C1, a1, a2, a3, a4, a5, fun R fr own0 a w pl Q hR hG hc ht hok hQ => ?_⟩
    exact R.cond (iM hok.ok hb) (fun h => by cases h) (fun _ => cL (a6 R fr own0 a w pl Q hR hG hc ht hok hQ))
   cases h
  | block id x =>
   simp only [evC] at h
   split at h
   rename_i k st1 hx
   cases hk : Nat.beq k id with
   | true =>
    rw [hk] at h
    simp only [cond_true, Option.some.injEq, Prod.mk.injEq] at h
    obtain ⟨rfl, rfl⟩ := h
    refine Goes.one (ih x _ _ _ hx) fun R Q a w hq => ?_
    refine R.block (R.mono (cL hq) fun e' a w h => ?_)
    obtain ⟨rfl, h⟩ := h
    have := Nat.eq_of_beq_eq_true hk
    subst this
    simp only [Ex.to, Exit.inBlock, if_true]
    exact h
   | false =>
    rw [hk] at h
    simp only [cond_false, Option.some.injEq, Prod.mk.injEq] at h
    obtain ⟨rfl, rfl⟩ := h
    refine Goes.one (ih x _ _ _ hx) fun R Q a w hq => ?_
    refine R.block (R.mono (cL hq) fun e' a w h => ?_)
    obtain ⟨rfl, h⟩ := h
    have hne : k ≠ id := fun e => by subst e; rw [Nat.beq_refl] at hk; cases hk
    simp only [Ex.to, Exit.inBlock, if_neg hne]
    exact h
   rename_i e1 st1 hne hx
   simp only [Option.some.injEq, Prod.mk.injEq] at h
   obtain ⟨rfl, rfl⟩ := h
   refine Goes.one (ih x _ _ _ hx) fun R Q a w hq => ?_
   refine R.block (R.mono (cL hq) fun e' a w h => ?_)
   obtain ⟨rfl, h⟩ := h
   cases e1 with
   | normal => exact h
   | exit k => exact (hne k rfl).elim
   | ret => exact h
   cases h
  | loop x =>
   simp only [evC] at h
   split at h
   rename_i st1 hx
   refine Goes.trans (ih x _ _ _ hx) (ih (.loop x) _ _ _ h) fun R Q a w hq => ?_
   show R.wp x (Exit.then (gO R x Q f) Q) a w
   refine R.mono (cL hq) fun e' a w h => ?_
   obtain ⟨rfl, h⟩ := h
   have mono : ∀ (k : Nat) (Q Q' : Exit → Act → World → Prop), (∀ e a w, Q e a w → Q' e a w) → ∀ a w, gO R x Q k a w → gO R x Q' k a w := by
    intro k Q Q' hQQ
    induction k with
    | zero => exact fun _ _ h => h
    | succ k ihk =>
     intro a w h
     refine R.mono h fun e a w h => ?_
     cases e with
     | normal => exact ihk a w h
     | _ => exact hQQ _ _ _ h
   exact mono f _ _ (fun e' a w h => by obtain ⟨rfl, h⟩ := h; exact h) a w h
   rename_i e1 st1 hne hx
   simp only [Option.some.injEq, Prod.mk.injEq] at h
   obtain ⟨rfl, rfl⟩ := h
   refine Goes.one (ih x _ _ _ hx) fun R Q a w hq => ?_
   show R.wp x (Exit.then (gO R x Q f) Q) a w
   refine R.mono (cL hq) fun e' a w h => ?_
   obtain ⟨rfl, h⟩ := h
   cases e1 with
   | normal => exact (hne rfl).elim
   | exit k => exact h
   | ret => exact h
   cases h
  | rangeFunc g ps asg bd =>
   cases g with
   | tmp g =>
    simp only [evC] at h
    cases fl with
    | none => exact aHF hE h
    | some i => exact aHG hE h
   | _ => simp [evC] at h
  | exit id =>
   simp only [evC, Option.some.injEq, Prod.mk.injEq] at h
   obtain ⟨rfl, rfl⟩ := h
   exact Goes.nil fun R Q a w hq => R.exit hq
  | ret =>
   simp only [evC, Option.some.injEq, Prod.mk.injEq] at h
   obtain ⟨rfl, rfl⟩ := h
   exact Goes.nil fun R Q a w hq => R.ret hq
  | _ => simp [evC] at h
end
end Go.V
namespace Go.V
open Go.RowKit
section
variable {P : Program} {fr : Fr} {n : Nat} {a : Act} {w : World} {pl : Pl}
def oU (P : Program) (env : Env) (own : Own) : ResultVar → Option SV
 | .tmp t => match env t with
  | some ([], s) => some s
  | _ => none
 | .cell x t => match env x with
  | some ([], .c (.bx i off)) => match own i with
   | some (.box ⟨.c _, _⟩ cells) => kH P t cells off
   | _ => none
  | _ => none
def dX (P : Program) (env : Env) (own : Own) : List ResultVar → Option (List (Bool × List C))
 | [] => some []
 | r :: l => match oU P env own r with
  | some s => match partOf s, dX P env own l with
   | some p, some q => some (p :: q)
   | _, _ => none
  | none => none
def qG (P : Program) (env : Env) (own : Own) (fn : Func) : Option SV :=
 match fn.results.toList with
 | [r] => oU P env own r
 | l => match dX P env own l with
  | some q => some (.tup q)
  | none => none
theorem zZ {env : Env} {own : Own} (h : Ok fr n env own a w pl) {r : ResultVar} {s : SV} (hr : oU P env own r = some s) : ∃ v, (Eng.resRun a.tmps r).run P w = .ok v w ∧ bC w pl own s v := by
 cases r with
 | tmp t =>
  simp only [oU] at hr
  split at hr
  rename_i s' hf
  simp only [Option.some.injEq] at hr
  subst hr
  exact ⟨_, by simp [Eng.resRun], h.yes t [] _ hf holds_nil⟩
  cases hr
 | cell x t =>
  simp only [oU] at hr
  split at hr
  rename_i i off hf
  split at hr
  rename_i ty cells ho
  obtain ⟨_, hv⟩ := h.yes x [] _ hf holds_nil
  obtain ⟨vs, hb, h2⟩ := h.mem.obj i _ ho
  obtain ⟨v, hv2, hok⟩ := fH hr (jZ h2)
  rw [Nat.zero_add] at hv2
  have hl := Eng.run_loadB hv2 hb
  simp only [Instr.loadAt, Instr.sureAddr, Sem.run_bind, Sem.run_pure, Result.andThen_ok] at hl
  exact ⟨v, by simp [Eng.resRun, hv, asAddr, hl], hok⟩
  cases hr
  cases hr
theorem o3 {env : Env} {own : Own} (h : Ok fr n env own a w pl) : ∀ {l : List ResultVar} {q : List (Bool × List C)}, dX P env own l = some q → ∃ vs : List Value, (l.mapM (Eng.resRun a.tmps)).run P w = .ok vs w ∧ All2 (bR w pl own) q vs
 | [], q, hq => by simp only [dX, Option.some.injEq] at hq; subst hq; exact ⟨[], by simp, All2.nil⟩
 | r :: l, q, hq => by
  simp only [dX] at hq
  split at hq
  rename_i s hs
  split at hq
  rename_i p q' hp hq'
  simp only [Option.some.injEq] at hq
  subst hq
  obtain ⟨v, h1, h2⟩ := zZ h hs
  obtain ⟨vs, h3, h4⟩ := o3 h hq'
  exact ⟨v :: vs, by simp [h1, h3], All2.cons (tQ hp h2) h4⟩
  cases hq
  cases hq
theorem aKG {env : Env} {own : Own} {fn : Func} (h : Ok fr n env own a w pl) {s : SV} (hs : qG P env own fn = some s) : ∃ v, (results fn a.tmps).run P w = .ok v w ∧ bC w pl own s v := by
 rw [Eng.results_eq]
 have hmm : (fn.results.mapM (Eng.resRun a.tmps)) = (do let vs ← fn.results.toList.mapM (Eng.resRun a.tmps); pure vs.toArray) := by
  rw [Array.mapM_eq_mapM_toList]
  rfl
 rw [hmm]
 unfold qG at hs
 split at hs
 rename_i r hr
 obtain ⟨v, h1, h2⟩ := zZ h hs
 refine ⟨v, ?_, h2⟩
 rw [hr]
 simp [h1]
 rename_i l hne
 split at hs
 rename_i q hq
 simp only [Option.some.injEq] at hs
 subst hs
 obtain ⟨vs, h1, h2⟩ := o3 h hq
 refine ⟨.tuple vs.toArray, ?_, vs, rfl, h2⟩
 have hl : vs.length ≠ 1 := by
  intro h1'
  have hlen : ∀ (l : List ResultVar) (q : List (Bool × List C)), dX P env own l = some q → q.length = l.length := by
   intro l
   induction l with
   | nil => intro q h; simp only [dX, Option.some.injEq] at h; subst h; rfl
   | cons x r ih =>
    intro q h
    simp only [dX] at h
    split at h
    split at h
    rename_i p q' hp hq'
    simp only [Option.some.injEq] at h
    subst h
    simp [ih q' hq']
    cases h
    cases h
  have e1 := hlen _ _ hq
  have e2 := h2.1
  have e3 : fn.results.toList.length = 1 := by omega
  obtain ⟨r, hr⟩ := List.length_eq_one_iff.1 e3
  exact hne r hr
 simp [h1, hl]
 cases hs
end
def dV (env : Env) : List ResultVar → List Nat
 | [] => []
 | .cell x _ :: r => match env x with
  | some ([], .c (.bx i _)) => i :: dV env r
  | _ => dV env r
 | _ :: r => dV env r
theorem oT {P : Program} {env : Env} {own own' : Own} {r : ResultVar} (h : ∀ i ∈ dV env [r], own i = own' i) : oU P env own r = oU P env own' r := by
 cases r with
 | tmp t => rfl
 | cell x t =>
  simp only [oU]
  split
  rename_i i off hx
  rw [h i (by simp [dV, hx])]
  rfl
theorem i7 {P : Program} {env : Env} {own own' : Own} : ∀ {l : List ResultVar}, (∀ i ∈ dV env l, own i = own' i) → dX P env own l = dX P env own' l
 | [], _ => rfl
 | r :: l, h => by
  have h1 : ∀ i ∈ dV env [r], i ∈ dV env (r :: l) := by
   intro i hi
   cases r with
   | tmp t => simp [dV] at hi
   | cell x t =>
    simp only [dV] at hi ⊢
    split
    rename_i k off hx
    rw [hx] at hi
    simp only [List.mem_singleton] at hi
    simp [hi]
    rename_i hne
    split at hi
    rename_i k off hx; exact absurd hx (hne k off)
    cases hi
  have h2 : ∀ i ∈ dV env l, i ∈ dV env (r :: l) := by
   intro i hi
   cases r with
   | tmp t => exact hi
   | cell x t =>
    simp only [dV]
    split
    exact List.mem_cons_of_mem _ hi
    exact hi
  simp only [dX]
  rw [oT (own := own) (own' := own') fun i hi => h i (h1 i hi), i7 fun i hi => h i (h2 i hi)]
theorem zU {P : Program} {env : Env} {own own' : Own} {fn : Func} (h : ∀ i ∈ dV env fn.results.toList, own i = own' i) : qG P env own fn = qG P env own' fn := by
 unfold qG
 split
 rename_i r hr
 rw [hr] at h
 exact oT h
 rw [i7 h]
def lE {P : Program} (df : List (EntD P)) : List Mk → Tr Ob → Option (Tr Ob × List (Nat × Ob))
 | [], own => some (own, [])
 | .mark i :: r, own => match own.get i with
  | some (.box ⟨.raw (.deferred (some [])), q⟩ []) => match nC own [(i, .box ⟨.raw (.deferred none), q⟩ [])] with
   | some own1 => match lE df r own1 with
    | some (own2, us) => some (own2, us ++ [(i, .box ⟨.raw (.deferred none), q⟩ [])])
    | none => none
   | none => none
  | _ => none
 | .df f cap :: r, own => match aIV df f with
  | some e => bif enters P f && Nat.beq cap.length e.ar then lE df r own else none
  | none => none
def kF : List Mk → List Nat
 | [] => []
 | .mark i :: r => i :: kF r
 | .df _ _ :: r => kF r
section
variable {P : Program} {G : List (Nat × List Value)} {fr : Fr}
theorem j9 {df : List (EntD P)} {fn : Func} {tmps : Array Value} {R : Ending → World → Prop} {pl : Pl} : ∀ {mk : List Mk} {own own2 : Tr Ob} {us : List (Nat × Ob)}, lE df mk own = some (own2, us) →
  own2.get = dR us own.get ∧ (∀ x ∈ keys us, x ∈ kF mk) ∧ ∀ (own0 : Own) (w : World), (∀ i ∈ kF mk, own0 i = own.get i) → Mem fr own0 w pl →
   (∀ w', Mem fr (dR us own0) w' pl → Later w pl own0 w' pl (dR us own0) → LeavesInM Fence.wide 0 P fn tmps R [] .returning w') → LeavesInM Fence.wide 0 P fn tmps R (mkD pl mk) .returning w
 | [], own, own2, us, h => by
  simp only [lE, Option.some.injEq, Prod.mk.injEq] at h
  obtain ⟨rfl, rfl⟩ := h
  exact ⟨rfl, fun x hx => by simp [keys] at hx, fun own0 w _ m hk => hk w m (Later.refl _ _ _)⟩
 | .df f cap :: r, own, own2, us, h => by
  simp only [lE] at h
  split at h
  rename_i e he
  cases hen : (enters P f && Nat.beq cap.length e.ar) with
  | false => rw [hen] at h; cases h
  | true =>
   rw [hen] at h
   simp only [cond_true] at h
   simp only [Bool.and_eq_true, jO] at hen
   obtain ⟨a1, a2, a3⟩ := j9 (fn := fn) (tmps := tmps) (R := R) (pl := pl) h
   refine ⟨a1, a2, fun own0 w hag m hk => ?_⟩
   have hef := aMV he
   subst hef
   refine ⟨by simp, .inr ⟨fun h => (by cases h), .func e.f, (cap.map (adV pl)).toArray, e.f, (#[] ++ (cap.map (adV pl)).toArray), rfl, by simp only [Mk.d, invoke]; exact fV hen.1 _, fun _ _ => trivial, ?_⟩⟩
   obtain ⟨hF, hd⟩ := e.ok (#[] ++ (cap.map (adV pl)).toArray) w (by simpa using hen.2)
   refine ⟨hF, fun c cs hu hroom => ?_⟩
   obtain ⟨en, u', w', frX, hR, hsteps⟩ := hd c cs hu hroom
   obtain ⟨v, rfl, rfl, hg⟩ := hR
   refine ⟨.returned v, .returning, w', frX, ?_, hsteps⟩
   show LeavesInM Fence.wide 0 P fn tmps R (mkD pl r) (settle .returning) w'
   obtain ⟨m', L⟩ := m.ext hg
   exact a3 own0 w' hag m' fun w2 m2 L2 => hk w2 m2 (L.trans L2)
  cases h
 | .mark i :: r, own, own2, us, h => by
  simp only [lE] at h
  split at h
  rename_i q hi
  split at h
  rename_i own1 hs
  split at h
  rename_i own3 us3 hc
  simp only [Option.some.injEq, Prod.mk.injEq] at h
  obtain ⟨rfl, rfl⟩ := h
  have hg := eA hs
  simp only [bE] at hg
  obtain ⟨a1, a2, a3⟩ := j9 (fn := fn) (tmps := tmps) (R := R) (pl := pl) hc
  refine ⟨by rw [a1, hg, bS]; rfl, fun x hx => ?_, fun own0 w hag m hk => ?_⟩
  simp only [keys, List.map_append, List.mem_append, List.map_cons, List.map_nil, List.mem_singleton] at hx
  simp only [kF]
  rcases hx with hx | hx
  exact List.mem_cons_of_mem _ (a2 x hx)
  simp [hx]
  have ho : own0 i = some (.box ⟨.raw (.deferred (some [])), q⟩ []) := by rw [hag i (by simp [kF])]; exact hi
  obtain ⟨vs, hh, _⟩ := m.obj i _ ho
  have hh : w.heap[pl.blk i]? = some (.deferred (some [])) := hh
  obtain ⟨m5, L5⟩ := m.turnObjO (ty' := ⟨.raw (.deferred none), q⟩) (cells' := []) (vs' := []) ho rfl All2.nil (x := .deferred none) rfl
  refine ⟨by simp, .inl ⟨pl.blk i, _, rfl, run_takeDeferred hh, ?_⟩⟩
  refine a3 _ _ (fun j hj => ?_) m5 (fun w' m' L' => ?_)
  rw [hg]
  by_cases hji : j = i
  subst hji; rw [upd_same, upd_same]
  rw [upd_ne _ _ hji, upd_ne _ _ hji]; exact hag j (by simp [kF, hj])
  have e : dR us3 (upd own0 i (.box ⟨.raw (.deferred none), q⟩ [])) = dR (us3 ++ [(i, .box ⟨.raw (.deferred none), q⟩ [])]) own0 := by rw [bS]; rfl
  rw [e] at m' L'
  exact hk w' m' (L5.trans L')
  cases h
  cases h
  cases h
def aK9 : Nat → List SV → Tr SV
 | _, [] => .e
 | k, s :: r => Tr.put (some s) 40 (aK9 (k + 1) r) k
theorem aAK : ∀ {l : List SV} {k t : Nat} {sv : SV}, few (k + l.length) = true → (aK9 k l).get t = some sv → ∃ i, t = k + i ∧ l[i]? = some sv
 | [], k, t, sv, _, h => by simp [aK9, Tr.get] at h
 | s :: r, k, t, sv, hf, h => by
  simp only [aK9] at h
  have hk : few k = true := by
   simp only [few, Nat.ble_eq] at hf ⊢
   simp only [List.length_cons] at hf
   omega
  rw [Tr.get_put40 hk] at h
  split at h
  rename_i ht
  simp only [Option.some.injEq] at h
  exact ⟨0, by omega, by simp [h]⟩
  obtain ⟨i, h1, h2⟩ := aAK (by rw [show k + 1 + r.length = k + (s :: r).length by simp; omega]; exact hf) h
  exact ⟨i + 1, by omega, by simpa using h2⟩
def Ex.isEx : Ex → Bool
 | .exit _ => true
 | _ => false
def runX {P : Program} {G : List (Nat × List Value)} (E : Exe P G) (F : Nat) : Step := fun k f svs own =>
 match P.funcs[f]? with
 | some fn => match fn.body with
  | some c => bif Nat.ble svs.length fn.ntmps && few fn.ntmps then (match evC E none fn.ntmps F c ⟨aK9 0 svs, own, k, [], [], [], []⟩ with
   | some (e, st) => bif Ex.isEx e then none else (match lE E.df st.mks st.own with
    | some (own2, us) => match qG P (bU [] st.env) own2.get fn with
     | some s => some ⟨s, (us ++ st.U).reverse, dV (bU [] st.env) fn.results.toList ++ (kF st.mks ++ st.T), own2, st.k, st.cs⟩
     | none => none
    | none => none)
   | none => none) else none
  | none => none
 | none => none
theorem runX_ok {E : Exe P G} (hE : ExeOk E) (hm : P.follows .mixedOrders = true) (F : Nat) : aN8 P G (runX E F) := by
 intro k f svs own r h
 unfold runX at h
 split at h
 rename_i fn hfn
 split at h
 rename_i c hb
 cases hchk : (Nat.ble svs.length fn.ntmps && few fn.ntmps) with
 | false => rw [hchk] at h; cases h
 | true =>
  rw [hchk] at h
  simp only [cond_true] at h
  simp only [Bool.and_eq_true, Nat.ble_eq] at hchk
  obtain ⟨hle, hfew⟩ := hchk
  split at h
  rename_i e st hev
  cases hex : Ex.isEx e with
  | true => rw [hex] at h; cases h
  | false =>
   rw [hex] at h
   simp only [cond_false] at h
   split at h
   rename_i own2 us hcl
   split at h
   rename_i s hret
   simp only [Option.some.injEq] at h
   subst h
   obtain ⟨dT, dU, dC, a1, a2, a3, a4, a5, a6⟩ := (xP hE hm F c e _ st hev).dl
   simp only [List.append_nil] at a1 a2 a3
   subst a1
   have hU := a2
   subst a2
   subst a3
   obtain ⟨b1, b2, _⟩ := j9 (fr := { w0 := default, X := [], G := [], F := fun _ => False }) (P := P) (fn := fn) (tmps := #[]) (R := fun _ _ => True) (pl := ⟨fun _ => False, fun _ => 0, fun _ => (none, 0)⟩) hcl
   refine ⟨by rw [b1, a4, ← bS, ← cY, List.reverse_reverse], fun x hx => ?_, fun fr own0 w pl vals hG hc ht m hv => ?_⟩
   simp only [keys, List.map_reverse, List.map_append, List.mem_reverse, List.mem_append] at hx ⊢
   rcases hx with hx | hx
   exact .inr (.inl (b2 x hx))
   exact .inr (.inr (a5 x hx))
   have ht : ∀ i, i ∈ dV (bU [] st.env) fn.results.toList ∨ i ∈ kF st.mks ∨ i ∈ st.T → own0 i = own.get i := fun i hi => ht i (by simpa using hi)
   have hfn' : (fn.ntmps = fn.ntmps) := rfl
   refine callsIn_wide.1 (callsIn_of_wp_marks (n := 0) hfn hb trivial (wpIn_wide.2 ?_))
   show (eD P).wp c _ _ w
   have hlen : vals.length = svs.length := hv.1.symm
   refine cL (a6 (eD P) { fr with lat := [(w, pl, own0)] } own0 _ w pl (bodyPostM Fence.wide 0 P fn _) rfl hG hc (fun i hi => ht i (.inr (.inr hi))) ⟨⟨m.to _ _, rfl, ?_, ?_, ?_, ?_⟩, fun i hi => by cases hi⟩ ?_)
   simp; omega
   intro t p sv hfd _
   simp only [bU, aE, Option.map_eq_some_iff, Prod.mk.injEq] at hfd
   obtain ⟨s', hs', _, rfl⟩ := hfd
   obtain ⟨i, rfl, hi⟩ := aAK (by
    simp only [few, Nat.ble_eq] at hfew ⊢
    omega) hs'
   obtain ⟨v, hvi, hok⟩ := hv.get hi
   have hlt := (List.getElem?_eq_some_iff.1 hvi).1
   simp only [Nat.zero_add, Array.getD_eq_getD_getElem?]
   rw [Array.getElem?_append_left (by simpa using hlt)]
   simp [hvi]
   exact hok
   intro t p sv hfd hh
   simp only [bU, aE, Option.map_eq_some_iff, Prod.mk.injEq] at hfd
   obtain ⟨_, _, rfl, _⟩ := hfd
   exact absurd holds_nil hh
   intro q hq
   simp only [List.mem_singleton] at hq
   subst hq
   exact Later.refl _ _ _
   intro a' w' pl' hok
   obtain ⟨_, _, c3⟩ := j9 (fr := fr) (P := P) (fn := fn) (tmps := a'.tmps) (R := fun e w' => ∃ v pl', e = .returned v ∧ Mem fr (bE own0 (us ++ st.U).reverse) w' pl' ∧ Later w pl own0 w' pl' (bE own0 (us ++ st.U).reverse) ∧ bC w' pl' (bE own0 (us ++ st.U).reverse) s v) (pl := pl') hcl
   have hownU : ∀ i, i ∈ dV (bU [] st.env) fn.results.toList ∨ i ∈ kF st.mks ∨ i ∈ st.T → dR st.U own0 i = st.own.get i := fun i hi => by rw [a4]; exact e7 _ (ht i hi)
   have fin := c3 (dR st.U own0) w' (fun i hi => hownU i (.inr (.inl hi))) (Mem.of (fr := fr) (ds := fr.ds) hok.ok.mem.of) (fun w2 m2 L2 => by
    have ok2 := hok.ok.later (m2.to _ _) L2
    have e0 : dR us (dR st.U own0) = bE own0 (us ++ st.U).reverse := by rw [← bS, ← cY, List.reverse_reverse]
    rw [e0] at ok2 m2 L2
    have hr2 : qG P (bU [] st.env) (bE own0 (us ++ st.U).reverse) fn = some s := by
     rw [← hret]
     refine zU fun i hi => ?_
     rw [← e0, b1]
     exact e7 _ (hownU i (.inl hi))
    obtain ⟨v, h1, h2⟩ := aKG ok2 hr2
    exact ⟨v, h1, v, pl', rfl, m2, ok2.late (w, pl, own0) (by simp), h2⟩)
   have hdd : a'.defers = mkD pl' st.mks := hok.ok.defers
   cases e with
   | normal => show LeavesInM Fence.wide 0 P fn a'.tmps _ a'.defers .returning w'; rw [hdd]; exact fin
   | exit id => cases hex
   | ret => show LeavesInM Fence.wide 0 P fn a'.tmps _ a'.defers .returning w'; rw [hdd]; exact fin
   cases h
   cases h
  cases h
 cases h
 cases h
end
end Go.V
namespace Go.V
open Go.RowKit
def qS {α : Type} : List (Nat × α) → Tr α → Tr α
 | [], t => t
 | (i, x) :: r, t => qS r (Tr.put (some x) 40 t i)
def setB (i : Nat) (o : Ob) (st : XS) : Option XS := match nC st.own [(i, o)] with
 | some own => some ⟨st.env, own, st.k, i :: st.T, (i, o) :: st.U, st.cs, st.mks⟩
 | none => none
def yldX {P : Program} {G : List (Nat × List Value)} (E : Exe P G) (F : Nat) : aNX := fun k i svs own =>
 match own.get i with
 | some (.box ⟨.lp n sl ls pend ps asg bd, q⟩ cells) =>
  bif few n && (sl.all few && (ps.toList.all (fun p => few p && Nat.blt p n) && Nat.beq ps.size svs.length)) then
   (match evC E (some i) n F asg ⟨qS (ps.toList.zip svs) (qS (sl.zip (cells.map .c)) .e), own, k, [], [], [], []⟩ with
   | some (.normal, st1) => match st1.own.get i with
    | some (.box ⟨.lp n1 sl1 ls1 pend1 ps1 as1 bd1, q1⟩ cells1) => bif LoopState.isReady ls1 then
      (match setB i (.box ⟨.lp n1 sl1 .busy pend1 ps1 as1 bd1, q1⟩ cells1) st1 with
      | some st2 => match evC E (some i) n F bd st2 with
       | some (e, st3) => match st3.own.get i with
        | some (.box ⟨.lp n2 sl2 ls2 pend2 ps2 as2 bd2, q2⟩ cells2) =>
         match setB i (.box ⟨.lp n2 sl2 (if (bP e).isNone then .ready else .done) (bP e) ps2 as2 bd2, q2⟩ cells2) st3 with
         | some st4 => some ⟨.c (.d (.v (.bool (bP e).isNone))), st4.U.reverse, i :: st4.T, st4.own, st4.k, st4.cs⟩
         | none => none
        | _ => none
       | none => none
      | none => none) else none
    | _ => none
   | _ => none) else none
 | _ => none
section
variable {P : Program} {G : List (Nat × List Value)}
theorem aAC {w : World} {pl : Pl} {own : Own} : ∀ {l : List (Nat × SV)} {vals : List Value} {tr : Tr SV} {tm : Array Value}, All2 (bC w pl own) (l.map (·.2)) vals → (∀ x ∈ l, few x.1 = true ∧ x.1 < tm.size) → (∀ t s, tr.get t = some s → bC w pl own s (tm.getD t undef)) →
  ∀ t s, (qS l tr).get t = some s → bC w pl own s ((((l.map (·.1)).zip vals).foldl (fun tm (x : Nat × Value) => tm.setIfInBounds x.1 x.2) tm).getD t undef)
 | [], vals, tr, tm, _, _, h, t, s, hs => by simpa using h t s hs
 | (i, x) :: r, vals, tr, tm, hv, hf, h, t, s, hs => by
  obtain ⟨y, ys, rfl, h1, h2⟩ := hv.uncons
  obtain ⟨hfi, hlt⟩ := hf (i, x) (by simp)
  refine aAC (l := r) (vals := ys) (tr := Tr.put (some x) 40 tr i) (tm := tm.setIfInBounds i y) h2 (fun z hz => by
   obtain ⟨a, b⟩ := hf z (by simp [hz])
   exact ⟨a, by simpa using b⟩) (fun u su hu => ?_) t s hs
  rw [Tr.get_put40 hfi] at hu
  by_cases hui : u = i
  ·subst hui
   simp only [if_true, Option.some.injEq] at hu
   subst hu
   simp only [Array.getD_eq_getD_getElem?, Array.getElem?_setIfInBounds, if_true]
   have hlt : u < tm.size := hlt
   rw [if_pos hlt]
   exact h1
  ·rw [if_neg hui] at hu
   simp only [Array.getD_eq_getD_getElem?, Array.getElem?_setIfInBounds, if_neg (Ne.symm hui)]
   rw [← Array.getD_eq_getD_getElem?]
   exact h u su hu
theorem oY {w : World} {pl : Pl} {own : Own} {tm : Array Value} : ∀ {sl : List Nat} {cells : List C} {tr : Tr SV}, All2 (COk w pl own) cells (sl.map fun t => tm.getD t undef) → sl.all few = true → (∀ t s, tr.get t = some s → bC w pl own s (tm.getD t undef)) →
  ∀ t s, (qS (sl.zip (cells.map .c)) tr).get t = some s → bC w pl own s (tm.getD t undef)
 | [], cells, tr, _, _, h, t, s, hs => by simpa [qS] using h t s (by simpa [qS] using hs)
 | i :: sl, [], tr, hc, _, h, t, s, hs => by have := hc.1; simp at this
 | i :: sl, c :: cells, tr, hc, hf, h, t, s, hs => by
  simp only [List.all_cons, Bool.and_eq_true] at hf
  obtain ⟨y, ys, he, h1, h2⟩ := hc.uncons
  simp only [List.map_cons, List.cons.injEq] at he
  obtain ⟨rfl, rfl⟩ := he
  refine oY (tr := Tr.put (some (.c c)) 40 tr i) h2 hf.2 (fun u su hu => ?_) t s hs
  rw [Tr.get_put40 hf.1] at hu
  by_cases hui : u = i
  subst hui
  simp only [if_true, Option.some.injEq] at hu
  subst hu
  exact h1
  rw [if_neg hui] at hu
  exact h u su hu
theorem aEP {i : Nat} {o : Ob} {st st' : XS} (h : setB i o st = some st') : st' = ⟨st.env, st'.own, st.k, i :: st.T, (i, o) :: st.U, st.cs, st.mks⟩ ∧ st'.own.get = upd st.own.get i o := by
 unfold setB at h
 split at h
 rename_i own hs
 simp only [Option.some.injEq] at h
 subst h
 exact ⟨rfl, eA hs⟩
 cases h
theorem yldX_ok {E : Exe P G} (hE : ExeOk E) (hm : P.follows .mixedOrders = true) (F : Nat) : YldOk P G (yldX E F) := by
 intro k i svs own r h
 unfold yldX at h
 split at h
 ·rename_i n sl ls pend ps asg bd q cells hi
  cases hchk : (few n && (sl.all few && (ps.toList.all (fun p => few p && Nat.blt p n) && Nat.beq ps.size svs.length))) with
  | false => rw [hchk] at h; cases h
  | true =>
   rw [hchk] at h
   simp only [cond_true] at h
   simp only [Bool.and_eq_true, jO] at hchk
   obtain ⟨hfew, hsl, hps, hlen⟩ := hchk
   split at h
   ·rename_i st1 hev1
    split at h
    ·rename_i n1 sl1 ls1 pend1 ps1 as1 bd1 q1 cells1 hi1
     cases hrd : LoopState.isReady ls1 with
     | false => rw [hrd] at h; cases h
     | true =>
      rw [hrd] at h
      simp only [cond_true] at h
      split at h
      ·rename_i st2 hs2
       split at h
       ·rename_i e st3 hev3
        split at h
        ·rename_i n2 sl2 ls2 pend2 ps2 as2 bd2 q2 cells2 hi2
         split at h
         ·rename_i st4 hs4
          simp only [Option.some.injEq] at h
          subst h
          obtain ⟨e2, g2⟩ := aEP hs2
          obtain ⟨e4, g4⟩ := aEP hs4
          obtain ⟨T1, U1, C1, a1, a2, a3, a4, a5, a6⟩ := (xP hE hm F asg _ _ st1 hev1).dl
          obtain ⟨T3, U3, C3, b1, b2, b3, b4, b5, b6⟩ := (xP hE hm F bd _ _ st3 hev3).dl
          simp only [List.append_nil] at a1 a2 a3
          have t2 : st2.T = i :: T1 := by rw [e2, a1]
          have u2 : st2.U = (i, .box ⟨.lp n1 sl1 .busy pend1 ps1 as1 bd1, q1⟩ cells1) :: U1 := by rw [e2, a2]
          have c2 : st2.cs = C1 := by rw [e2, a3]
          have env2 : st2.env = st1.env := by rw [e2]
          have mk2 : st2.mks = st1.mks := by rw [e2]
          have t4 : st4.T = i :: (T3 ++ (i :: T1)) := by rw [e4, b1, t2]
          have u4 : st4.U = (i, .box ⟨.lp n2 sl2 (if (bP e).isNone then .ready else .done) (bP e) ps2 as2 bd2, q2⟩ cells2) :: (U3 ++ ((i, .box ⟨.lp n1 sl1 .busy pend1 ps1 as1 bd1, q1⟩ cells1) :: U1)) := by rw [e4, b2, u2]
          have c4 : st4.cs = C3 ++ C1 := by rw [e4, b3, c2]
          simp only
          rw [t4, u4, c4]
          have hupd : ∀ own0 : Own, bE own0 ((i, Ob.box ⟨.lp n2 sl2 (if (bP e).isNone then .ready else .done) (bP e) ps2 as2 bd2, q2⟩ cells2) :: (U3 ++ ((i, .box ⟨.lp n1 sl1 .busy pend1 ps1 as1 bd1, q1⟩ cells1) :: U1))).reverse = upd (dR U3 (upd (dR U1 own0) i (.box ⟨.lp n1 sl1 .busy pend1 ps1 as1 bd1, q1⟩ cells1))) i (.box ⟨.lp n2 sl2 (if (bP e).isNone then .ready else .done) (bP e) ps2 as2 bd2, q2⟩ cells2) := by
           intro own0
           rw [← cY, List.reverse_reverse]
           simp only [dR]
           rw [bS]
           rfl
          refine ⟨by rw [hupd, g4, b4, g2, a4], fun x hx => ?_, fun fr own0 w pl vals hG hc ht m hv => ?_⟩
          ·simp only [keys, List.map_reverse, List.mem_reverse, List.map_cons, List.map_append, List.mem_cons, List.mem_append] at hx ⊢
           rcases hx with hx | hx | hx | hx
           ·exact .inl hx
           ·exact .inr (.inr (.inl (b5 x hx)))
           ·exact .inl hx
           ·exact .inr (.inr (.inr (.inr (a5 x hx))))
          ·have ht1 : ∀ j ∈ T1, own0 j = own.get j := fun j hj => ht j (by simp [hj])
           have ht3 : ∀ j ∈ T3, own0 j = own.get j := fun j hj => ht j (by simp [hj])
           have hti : own0 i = own.get i := ht i (by simp)
           obtain ⟨hc3, hc1⟩ := dH hc
           have hoi : own0 i = some (.box ⟨.lp n sl ls pend ps asg bd, q⟩ cells) := by rw [hti]; exact hi
           obtain ⟨vs, ⟨tm, fn0, D0, hh, hts, hvs⟩, hcl⟩ := m.obj i _ hoi
           subst hvs
           have hvl : vals.length = svs.length := hv.1.symm
           refine ⟨fn0, _, asg, bd, run_yield hh (by simp only [List.size_toArray]; omega), roundIn_of_wpIn trivial ?_⟩
           have hfold : ((ps.zip vals.toArray).foldl (fun tmps (x : Tmp × Value) => tmps.setIfInBounds x.1 x.2) tm) = (((ps.toList.zip svs).map (·.1)).zip vals).foldl (fun tm (x : Nat × Value) => tm.setIfInBounds x.1 x.2) tm := by
            rw [← Array.foldl_toList, Array.toList_zip, List.map_fst_zip (by simp; omega)]
           have hsz : ∀ (l : List (Nat × Value)) (tm : Array Value), (l.foldl (fun tm (x : Nat × Value) => tm.setIfInBounds x.1 x.2) tm).size = tm.size := by
            intro l
            induction l with
            | nil => intro tm; rfl
            | cons x r ih => intro tm; simp only [List.foldl_cons]; rw [ih]; simp
           show ((fR P (pl.blk i)).wp asg _ _ w)
           refine cL (a6 (fR P (pl.blk i)) { fr with lat := [(w, pl, own0)] } own0 _ w pl _ ⟨(w, pl, own0), by simp, ⟨_, _, hoi⟩, rfl⟩ hG hc1 ht1 ⟨⟨m.to _ _, rfl, ?_, fun t p sv hfd _ => ?_, fun t p sv hfd hh => ?_, fun q hq => ?_⟩, fun i hi => by cases hi⟩ ?_)
           ·show ((ps.zip vals.toArray).foldl (fun tmps (x : Tmp × Value) => tmps.setIfInBounds x.1 x.2) tm).size = n
            rw [hfold, hsz, hts]
           ·simp only [bU, aE, Option.map_eq_some_iff, Prod.mk.injEq] at hfd
            obtain ⟨s', hs', _, rfl⟩ := hfd
            show bC w pl own0 s' (((ps.zip vals.toArray).foldl (fun tmps (x : Tmp × Value) => tmps.setIfInBounds x.1 x.2) tm).getD t undef)
            rw [hfold]
            refine aAC ?_ (fun x hx => ?_) (oY hcl hsl fun t s h => by simp [Tr.get] at h) t s' hs'
            ·rw [List.map_snd_zip (by simp; omega)]; exact hv
            ·have := List.all_eq_true.1 hps x.1 (List.of_mem_zip (a := x.1) (b := x.2) hx).1
             simp only [Bool.and_eq_true, Nat.blt_eq] at this
             exact ⟨this.1, by rw [hts]; exact this.2⟩
           ·simp only [bU, aE, Option.map_eq_some_iff, Prod.mk.injEq] at hfd
            obtain ⟨_, _, rfl, _⟩ := hfd
            exact absurd holds_nil hh
           ·simp only [List.mem_singleton] at hq
            subst hq
            exact Later.refl _ _ _
           ·intro a' w' pl' hok1
            have ok1 := hok1.ok
            have L1 : Later w pl own0 w' pl' (dR U1 own0) := ok1.late (w, pl, own0) (by simp)
            have ho1 : dR U1 own0 i = some (.box ⟨.lp n1 sl1 ls1 pend1 ps1 as1 bd1, q1⟩ cells1) := by
             rw [← hi1, a4]; exact e7 _ hti
            obtain ⟨vs1, ⟨tm1, fn1, D1, hh1, hts1, hvs1⟩, hcl1⟩ := ok1.mem.obj i _ ho1
            have hb1 : pl'.blk i = pl.blk i := (L1.bx i _ _ hoi).2
            rw [hb1] at hh1
            have hls1 : ls1 = .ready := by cases ls1 <;> first | rfl | cases hrd
            subst hls1
            refine ⟨_, run_beginRound hh1 rfl, ?_⟩
            obtain ⟨m5, L5⟩ := ok1.mem.turnObjO (ty' := ⟨.lp n1 sl1 .busy pend1 ps1 as1 bd1, q1⟩) (cells' := cells1) (vs' := vs1) ho1 rfl hcl1 (x := .loop { state := .busy, pending := pend1, fn := fn1, tmps := tm1, params := ps1, assign := as1, body := bd1, defers := D1 }) ⟨tm1, fn1, D1, rfl, hts1, hvs1⟩
            rw [hb1] at m5 L5
            have ok2 := ok1.later m5 L5
            obtain ⟨e1', e2'⟩ := g6 L5 hok1.bx
            rw [← mk2, ← env2] at ok2
            rw [← mk2] at e1' e2'
            refine cL (c := bd) (f := F) (R := fR P (pl.blk i)) (b6 (fR P (pl.blk i)) { fr with lat := [(w, pl, own0)] } (upd (dR U1 own0) i (.box ⟨.lp n1 sl1 .busy pend1 ps1 as1 bd1, q1⟩ cells1)) a' _ pl' _ ⟨(w, pl, own0), by simp, ⟨_, _, hoi⟩, rfl⟩ hG hc3 (fun j hj => ?_) ⟨ok2, e2'⟩ ?_)
            ·rw [g2]
             by_cases hji : j = i
             ·subst hji; rw [upd_same, upd_same]
             ·rw [upd_ne _ _ hji, upd_ne _ _ hji, a4]; exact e7 _ (ht3 j hj)
            ·intro a3 w3 pl3 hok3
             have ok3 := hok3.ok
             have L3 := ok3.late (w, pl, own0) (by simp)
             have ho3 : dR U3 (upd (dR U1 own0) i (.box ⟨.lp n1 sl1 .busy pend1 ps1 as1 bd1, q1⟩ cells1)) i = some (.box ⟨.lp n2 sl2 ls2 pend2 ps2 as2 bd2, q2⟩ cells2) := by
              rw [← hi2, b4]
              refine e7 _ ?_
              rw [g2, upd_same, upd_same]
             obtain ⟨vs3, ⟨tm3, fn3, D3, hh3, hts3, hvs3⟩, hcl3⟩ := ok3.mem.obj i _ ho3
             have hb3 : pl3.blk i = pl.blk i := (L3.bx i _ _ hoi).2
             rw [hb3] at hh3
             obtain ⟨m6, L6⟩ := ok3.mem.turnObjO (ty' := ⟨.lp n2 sl2 (if (bP e).isNone then .ready else .done) (bP e) ps2 as2 bd2, q2⟩) (cells' := cells2) (vs' := vs3) ho3 rfl hcl3 (x := .loop { state := if (bP e).isNone then .ready else .done, pending := bP e, fn := fn3, tmps := tm3, params := ps2, assign := as2, body := bd2, defers := D3 }) ⟨tm3, fn3, D3, rfl, hts3, hvs3⟩
             rw [hb3] at m6 L6
             rw [← hupd] at m6 L6
             have fin : ∀ (v : Value), v = .bool (bP e).isNone → ∃ v' pl', Ending.returned v = .returned v' ∧ Mem fr (bE own0 ((i, Ob.box ⟨.lp n2 sl2 (if (bP e).isNone then .ready else .done) (bP e) ps2 as2 bd2, q2⟩ cells2) :: (U3 ++ ((i, .box ⟨.lp n1 sl1 .busy pend1 ps1 as1 bd1, q1⟩ cells1) :: U1))).reverse) (w3.putObj (pl.blk i) (.loop { state := if (bP e).isNone then .ready else .done, pending := bP e, fn := fn3, tmps := tm3, params := ps2, assign := as2, body := bd2, defers := D3 })) pl' ∧ Later w pl own0 (w3.putObj (pl.blk i) (.loop { state := if (bP e).isNone then .ready else .done, pending := bP e, fn := fn3, tmps := tm3, params := ps2, assign := as2, body := bd2, defers := D3 })) pl' (bE own0 ((i, Ob.box ⟨.lp n2 sl2 (if (bP e).isNone then .ready else .done) (bP e) ps2 as2 bd2, q2⟩ cells2) :: (U3 ++ ((i, .box ⟨.lp n1 sl1 .busy pend1 ps1 as1 bd1, q1⟩ cells1) :: U1))).reverse) ∧ bC (w3.putObj (pl.blk i) (.loop { state := if (bP e).isNone then .ready else .done, pending := bP e, fn := fn3, tmps := tm3, params := ps2, assign := as2, body := bd2, defers := D3 })) pl' (bE own0 ((i, Ob.box ⟨.lp n2 sl2 (if (bP e).isNone then .ready else .done) (bP e) ps2 as2 bd2, q2⟩ cells2) :: (U3 ++ ((i, .box ⟨.lp n1 sl1 .busy pend1 ps1 as1 bd1, q1⟩ cells1) :: U1))).reverse) (.c (.d (.v (.bool (bP e).isNone)))) v' := fun v hv => ⟨v, pl3, rfl, Mem.of (fr := fr) (ds := fr.ds) m6.of, L3.trans L6, by subst hv; exact Rd.v _ rfl⟩
             cases e with
             | normal => exact ⟨_, _, run_endRound none hh3, fin _ rfl⟩
             | ret => exact ⟨_, _, run_endRound (some .ret) hh3, fin _ rfl⟩
             | exit id => exact ⟨_, _, run_endRound (some (.exit id)) hh3, fin _ rfl⟩
         ·cases h
        ·cases h
       ·cases h
      ·cases h
    ·cases h
   ·cases h
 ·cases h
def aIN (T : List (Ent P G)) (ne : List (NE P)) (df : List (EntD P)) (orc : Nat → Option Bool) (lit : Nat → Option Value) (F : Nat) (hnt : Nat → Option (List D)) : Nat → Exe P G
 | 0 => ⟨T, ne, df, orc, lit, fun _ _ _ _ => none, fun _ _ _ _ => none, hnt⟩
 | d + 1 => ⟨T, ne, df, orc, lit, runX (aIN T ne df orc lit F hnt d) F, yldX (aIN T ne df orc lit F hnt d) F, hnt⟩
theorem mH {T : List (Ent P G)} {ne : List (NE P)} {df : List (EntD P)} {orc : Nat → Option Bool} {lit : Nat → Option Value} {F : Nat} {hnt : Nat → Option (List D)} (hm : P.follows .mixedOrders = true) : ∀ d, ExeOk (aIN T ne df orc lit F hnt d)
 | 0 => ⟨(by intro k f svs own r h; cases h), (by intro k f svs own r h; cases h)⟩
 | d + 1 => ⟨runX_ok (mH hm d) hm F, yldX_ok (mH hm d) hm F⟩
def vX (T : List (Ent P G)) (ne : List (NE P)) (df : List (EntD P)) (orc : Nat → Option Bool) (lit : Nat → Option Value) (F d : Nat) (f : FuncId) (ins : List SV) (hnt : Nat → Option (List D) := fun _ => none) : Option (SV × List Prop) :=
 match (aIN T ne df orc lit F hnt (d + 1)).call 100 f ins .e with
 | some r => some (aD4 r.own.get (fun _ => false) r.sv, r.cs)
 | none => none
theorem nB {T : List (Ent P G)} {ne : List (NE P)} {df : List (EntD P)} (orc : Nat → Option Bool) (lit : Nat → Option Value) (hnt : Nat → Option (List D)) {F d : Nat} {f : FuncId} {ins : List SV} {out : SV} {cs : List Prop} (hm : P.follows .mixedOrders = true) (h : vX T ne df orc lit F d f ins hnt = some (out, cs)) (hc : conj cs) : Spec P G f ins [] out [] := by
 unfold vX at h
 split at h
 rename_i r hr
 simp only [Option.some.injEq, Prod.mk.injEq] at h
 obtain ⟨rfl, rfl⟩ := h
 obtain ⟨c1, c2, c3⟩ := (mH (T := T) (ne := ne) (df := df) (orc := orc) (lit := lit) (F := F) (hnt := hnt) hm (d + 1)).call _ _ _ _ _ hr
 intro fr w pl args hw hG m ha
 have hE : lookO [] = (Tr.e : Tr Ob).get := by funext i; rfl
 have hX : ∀ i b, (i, b) ∉ fr.X := by
  intro i b hib
  rcases m.bor i b hib with ⟨_, _, h, _⟩ | ⟨_, _, _, _, h⟩ <;> cases h
 refine (c3 fr (lookO []) w pl args hG.G hc (fun i _ => by rw [hE]) m ha).mono ?_
 rintro e w' ⟨v, pl', rfl, m', L, hs⟩
 rw [hE, ← c1] at m' hs
 have hk : cG r.own.get (fun _ => false) = lookO [] := by funext i; simp [cG, lookO]
 refine ⟨v, pl', rfl, ?_, ?_⟩
 rw [← hk]; exact j4 m' fun i b h => absurd h (hX i b)
 rw [← hk]; exact r7 m' (fun i b h => absurd h (hX i b)) hs
 cases h
theorem bF {T : List (Ent P G)} {ne : List (NE P)} {df : List (EntD P)} (orc : Nat → Option Bool) (lit : Nat → Option Value) {F d : Nat} {f : FuncId} {ins : List SV} {out : SV} {cs : List Prop} (hm : P.follows .mixedOrders = true) (h : vX T ne df orc lit F d f ins = some (out, cs)) (hc : conj cs) : Spec P G f ins [] out [] := nB orc lit (fun _ => none) hm h hc
end
end Go.V
namespace Go.Proofs.YtclaplngjmgnoaaGreatDoor
open Go.RowKit Go.V
section
variable {g : Gv}
theorem aF7 (s : ByteArray) : (⟨s.data.toList.toArray⟩ : ByteArray) = s := by cases s; simp
def eqL : List UInt8 → List UInt8 → Bool
 | [], [] => true
 | x :: a, y :: b => bif Nat.beq x.toNat y.toNat then eqL a b else false
 | _, _ => false
theorem aMP : ∀ {a b : List UInt8}, eqL a b = true → a = b
 | [], [], _ => rfl
 | [], _ :: _, h => by cases h
 | _ :: _, [], h => by cases h
 | x :: a, y :: b, h => by
  unfold eqL at h
  cases hb : Nat.beq x.toNat y.toNat with
  | false => rw [hb] at h; cases h
  | true =>
   rw [hb] at h
   rw [UInt8.toNat_inj.1 (Nat.eq_of_beq_eq_true hb), aMP h]
def allEq {α : Type} (r : α → α → Bool) : List α → List α → Bool
 | [], [] => true
 | x :: a, y :: b => bif r x y then allEq r a b else false
 | _, _ => false
theorem iF {α : Type} {r : α → α → Bool} (hr : ∀ x y, r x y = true → x = y) : ∀ {a b : List α}, allEq r a b = true → a = b
 | [], [], _ => rfl
 | [], _ :: _, h => by cases h
 | _ :: _, [], h => by cases h
 | x :: a, y :: b, h => by
  unfold allEq at h
  cases hb : r x y with
  | false => rw [hb] at h; cases h
  | true => rw [hb] at h; rw [hr _ _ hb, iF hr h]
def vEq : Value → Value → Bool
 | .int .i64 a, .int .i64 b => decide (a = b)
 | .int .u8 a, .int .u8 b => decide (a = b)
 | .bool a, .bool b => decide (a = b)
 | .string a, .string b => eqL a.data.toList b.data.toList
 | .slice none 0 0, .slice none 0 0 => true
 | _, _ => false
theorem vEq_eq {a b : Value} (h : vEq a b = true) : a = b := by
 unfold vEq at h
 split at h
 rw [of_decide_eq_true h]
 rw [of_decide_eq_true h]
 rw [of_decide_eq_true h]
 rename_i s p
 have := aMP h
 rw [← aF7 s, ← aF7 p, this]
 rfl
 cases h
def dEq : Nat → D → D → Bool
 | f + 1, .v a, .v b => vEq a b
 | f + 1, .sl n a, .sl m b => Nat.beq n m && allEq (allEq (dEq f)) a b
 | _, _, _ => false
theorem aMW : ∀ {f : Nat} {a b : D}, dEq f a b = true → a = b
 | 0, a, b, h => by cases a <;> cases b <;> cases h
 | f + 1, .v a, .v b, h => by rw [vEq_eq (a := a) (b := b) h]
 | f + 1, .sl n a, .sl m b, h => by
  have h : (Nat.beq n m && allEq (allEq (dEq f)) a b) = true := h
  simp only [Bool.and_eq_true] at h
  rw [Nat.eq_of_beq_eq_true h.1, iF (fun x y hxy => iF (fun _ _ => aMW) hxy) h.2]
 | f + 1, .v _, .sl _ _, h => by cases h
 | f + 1, .sl _ _, .v _, h => by cases h
def cEq : C → C → Bool
 | .d a, .d b => dEq 20 a b
 | _, _ => false
theorem aNI {a b : C} (h : cEq a b = true) : a = b := by
 unfold cEq at h
 split at h
 rw [aMW h]
 cases h
def aGQ : SV → SV → Bool
 | .c a, .c b => cEq a b
 | .agg a, .agg b => allEq cEq a b
 | _, _ => false
theorem aEJ {a b : SV} (h : aGQ a b = true) : a = b := by
 unfold aGQ at h
 split at h
 rw [aNI h]
 rw [iF (fun _ _ => aNI) h]
 cases h
structure Lit (g : Gv) (f : FuncId) where
 ins : List SV
 out : SV
 ok : V.Spec Tryz.prog (Gl g) f ins [] out []
def aFE {f : FuncId} : List (Lit g f) → List SV → Option (Lit g f)
 | [], _ => none
 | e :: r, ins => bif allEq aGQ e.ins ins then some e else aFE r ins
theorem aAU {f : FuncId} : ∀ {T : List (Lit g f)} {ins : List SV} {e : Lit g f}, aFE T ins = some e → e.ins = ins
 | [], ins, e, h => by cases h
 | x :: r, ins, e, h => by
  unfold aFE at h
  cases hb : allEq aGQ x.ins ins with
  | false => rw [hb] at h; exact aAU h
  | true =>
   rw [hb] at h
   simp only [cond_true, Option.some.injEq] at h
   subst h
   exact iF (fun _ _ => aEJ) hb
def aU (f : FuncId) (T : List (Lit g f)) : Ent Tryz.prog (Gl g) where
 f := f
 ask := fun _ ins refs => match refs with
  | [] => match aFE T ins with
   | some e => some (e.out, [], [])
   | none => none
  | _ => none
 ok := by
  intro k ins refs post out cs h _
  split at h
  split at h
  rename_i e he
  simp only [Option.some.injEq, Prod.mk.injEq] at h
  obtain ⟨rfl, rfl, _⟩ := h
  rw [← aAU he]
  exact e.ok
  cases h
  cases h
def bD (f : FuncId) (out : SV) : Ent Tryz.prog (Gl g) where
 f := f
 ask := fun _ ins refs => match refs with
  | [] => some (out, [], [V.Spec Tryz.prog (Gl g) f ins [] out []])
  | _ => none
 ok := by
  intro k ins refs post out' cs h hc
  split at h
  cases h; exact hc
  cases h
def hZ (f : FuncId) (tell : Nat → Option SV) : Ent Tryz.prog (Gl g) where
 f := f
 ask := fun k ins refs => match refs with
  | [] => match tell k with
   | some out => some (out, [], [V.Spec Tryz.prog (Gl g) f ins [] out []])
   | none => none
  | _ => none
 ok := by
  intro k ins refs post out' cs h hc
  split at h
  split at h
  cases h; exact hc
  cases h
  cases h
end
def mkL (l : List Nat) (sl : List (Nat × Nat)) (k : Nat) : Option Value := bif l.any (Nat.beq k) then some .nilIface else match sl with
 | [] => none
 | x :: r => bif Nat.beq k x.1 then some (.agg #[.int .i64 (Int.ofNat x.2)]) else mkL [] r k
theorem hmx : Tryz.prog.follows .mixedOrders = true := by kernel_rfl
def ruD (h : Int) (op p : List UInt8) (a : List Int) : List D := [.i h, .s (S op), .s (S p), .sl 1 (intsD a)]
def rules0 : List (List D) := [ruD 0 [99, 111, 108] [97] [], ruD 0 [99, 111, 108] [98] [], ruD 0 [99, 111, 110, 99, 97, 116] [] [1, 0], ruD 0 [117, 112, 112, 101, 114] [] [1], ruD 1 [99, 111, 108] [97] [], ruD 1 [116, 101, 120, 116] [45] [], ruD 1 [101, 120, 116, 114, 97, 99, 116] [92, 100, 43, 35, 49] [1]]
def g0C : List C := [cS (S [116, 101, 120, 116, 115]), cI 1, cM 2 [[.s (S [97]), .i 1], [.s (S [98]), .i 1]], cM 3 [[.s (S [84]), .i 1, .i 4], [.s (S [85]), .i 1, .i 2]], cM 4 rules0, cI 0]
def nlD : D := .v (.slice none 0 0)
def txD (s : List UInt8) : List D := [.i 1, .s (S s), .i 0, .i 0, .i 0, nlD, nlD]
def nuD (n k : Int) : List D := [.i 2, .s (S []), .i n, .i k, .i 0, nlD, nlD]
def fO : List (List D) := [[.s (S [112, 114, 105, 99, 101, 115]), .sl 1 [[.s (S [99, 111, 100, 101])], [.s (S [112, 114, 105, 99, 101])], [.s (S [110, 97, 109, 101])]], .sl 1 [[.sl 7 [txD [65], nuD 25 1, txD [97, 112, 112, 108, 101]]], [.sl 7 [txD [66], nuD 3 0, txD [98, 114, 101, 97, 100]]]]]]
def nbS (n : Nat) : ByteArray := bif Nat.beq n 0 then S [] else S [UInt8.ofNat n]
variable {g : Gv}
theorem jR : V.Spec Tryz.prog (Gl g) 133 [.c (cS (nbS 0)), .c (cS (nbS 0))] [] (.c (cS (nbS 0))) [] :=
 bF (fun _ => none) (fun _ => none) (T := []) (ne := []) (df := []) (F := 100000) (d := 60) (cs := []) hmx (by kernel_rfl) trivial
theorem ad_0_1 : V.Spec Tryz.prog (Gl g) 133 [.c (cS (nbS 0)), .c (cS (nbS 1))] [] (.c (cS (nbS 1))) [] :=
 bF (fun _ => none) (fun _ => none) (T := []) (ne := []) (df := []) (F := 100000) (d := 60) (cs := []) hmx (by kernel_rfl) trivial
theorem ad_0_12 : V.Spec Tryz.prog (Gl g) 133 [.c (cS (nbS 0)), .c (cS (nbS 12))] [] (.c (cS (nbS 12))) [] :=
 bF (fun _ => none) (fun _ => none) (T := []) (ne := []) (df := []) (F := 100000) (d := 60) (cs := []) hmx (by kernel_rfl) trivial
theorem aEA : V.Spec Tryz.prog (Gl g) 133 [.c (cS (nbS 0)), .c (cS (nbS 2))] [] (.c (cS (nbS 2))) [] :=
 bF (fun _ => none) (fun _ => none) (T := []) (ne := []) (df := []) (F := 100000) (d := 60) (cs := []) hmx (by kernel_rfl) trivial
theorem x8 : V.Spec Tryz.prog (Gl g) 133 [.c (cS (nbS 0)), .c (cS (nbS 4))] [] (.c (cS (nbS 4))) [] :=
 bF (fun _ => none) (fun _ => none) (T := []) (ne := []) (df := []) (F := 100000) (d := 60) (cs := []) hmx (by kernel_rfl) trivial
theorem ad_0_8 : V.Spec Tryz.prog (Gl g) 133 [.c (cS (nbS 0)), .c (cS (nbS 8))] [] (.c (cS (nbS 8))) [] :=
 bF (fun _ => none) (fun _ => none) (T := []) (ne := []) (df := []) (F := 100000) (d := 60) (cs := []) hmx (by kernel_rfl) trivial
theorem ad_1_1 : V.Spec Tryz.prog (Gl g) 133 [.c (cS (nbS 1)), .c (cS (nbS 1))] [] (.c (cS (nbS 2))) [] :=
 bF (fun _ => none) (fun _ => none) (T := []) (ne := []) (df := []) (F := 100000) (d := 60) (cs := []) hmx (by kernel_rfl) trivial
theorem ad_10_8 : V.Spec Tryz.prog (Gl g) 133 [.c (cS (nbS 10)), .c (cS (nbS 8))] [] (.c (cS (nbS 18))) [] :=
 bF (fun _ => none) (fun _ => none) (T := []) (ne := []) (df := []) (F := 100000) (d := 60) (cs := []) hmx (by kernel_rfl) trivial
theorem ad_12_0 : V.Spec Tryz.prog (Gl g) 133 [.c (cS (nbS 12)), .c (cS (nbS 0))] [] (.c (cS (nbS 12))) [] :=
 bF (fun _ => none) (fun _ => none) (T := []) (ne := []) (df := []) (F := 100000) (d := 60) (cs := []) hmx (by kernel_rfl) trivial
theorem ad_12_4 : V.Spec Tryz.prog (Gl g) 133 [.c (cS (nbS 12)), .c (cS (nbS 4))] [] (.c (cS (nbS 16))) [] :=
 bF (fun _ => none) (fun _ => none) (T := []) (ne := []) (df := []) (F := 100000) (d := 60) (cs := []) hmx (by kernel_rfl) trivial
theorem ad_16_0 : V.Spec Tryz.prog (Gl g) 133 [.c (cS (nbS 16)), .c (cS (nbS 0))] [] (.c (cS (nbS 16))) [] :=
 bF (fun _ => none) (fun _ => none) (T := []) (ne := []) (df := []) (F := 100000) (d := 60) (cs := []) hmx (by kernel_rfl) trivial
theorem aNT : V.Spec Tryz.prog (Gl g) 133 [.c (cS (nbS 2)), .c (cS (nbS 0))] [] (.c (cS (nbS 2))) [] :=
 bF (fun _ => none) (fun _ => none) (T := []) (ne := []) (df := []) (F := 100000) (d := 60) (cs := []) hmx (by kernel_rfl) trivial
theorem ad_2_2 : V.Spec Tryz.prog (Gl g) 133 [.c (cS (nbS 2)), .c (cS (nbS 2))] [] (.c (cS (nbS 4))) [] :=
 bF (fun _ => none) (fun _ => none) (T := []) (ne := []) (df := []) (F := 100000) (d := 60) (cs := []) hmx (by kernel_rfl) trivial
theorem ad_4_0 : V.Spec Tryz.prog (Gl g) 133 [.c (cS (nbS 4)), .c (cS (nbS 0))] [] (.c (cS (nbS 4))) [] :=
 bF (fun _ => none) (fun _ => none) (T := []) (ne := []) (df := []) (F := 100000) (d := 60) (cs := []) hmx (by kernel_rfl) trivial
theorem ad_4_2 : V.Spec Tryz.prog (Gl g) 133 [.c (cS (nbS 4)), .c (cS (nbS 2))] [] (.c (cS (nbS 6))) [] :=
 bF (fun _ => none) (fun _ => none) (T := []) (ne := []) (df := []) (F := 100000) (d := 60) (cs := []) hmx (by kernel_rfl) trivial
theorem aNS : V.Spec Tryz.prog (Gl g) 133 [.c (cS (nbS 4)), .c (cS (nbS 4))] [] (.c (cS (nbS 8))) [] :=
 bF (fun _ => none) (fun _ => none) (T := []) (ne := []) (df := []) (F := 100000) (d := 60) (cs := []) hmx (by kernel_rfl) trivial
theorem ad_4_6 : V.Spec Tryz.prog (Gl g) 133 [.c (cS (nbS 4)), .c (cS (nbS 6))] [] (.c (cS (nbS 10))) [] :=
 bF (fun _ => none) (fun _ => none) (T := []) (ne := []) (df := []) (F := 100000) (d := 60) (cs := []) hmx (by kernel_rfl) trivial
theorem ad_8_0 : V.Spec Tryz.prog (Gl g) 133 [.c (cS (nbS 8)), .c (cS (nbS 0))] [] (.c (cS (nbS 8))) [] :=
 bF (fun _ => none) (fun _ => none) (T := []) (ne := []) (df := []) (F := 100000) (d := 60) (cs := []) hmx (by kernel_rfl) trivial
theorem nN : V.Spec Tryz.prog (Gl g) 267 [.c (cS (nbS 0)), .c (cS (nbS 0))] [] (.c (cS (nbS 0))) [] :=
 bF (fun _ => none) (fun _ => none) (T := []) (ne := []) (df := []) (F := 100000) (d := 60) (cs := []) hmx (by kernel_rfl) trivial
theorem nM : V.Spec Tryz.prog (Gl g) 267 [.c (cS (nbS 0)), .c (cS (nbS 2))] [] (.c (cS (nbS 0))) [] :=
 bF (fun _ => none) (fun _ => none) (T := []) (ne := []) (df := []) (F := 100000) (d := 60) (cs := []) hmx (by kernel_rfl) trivial
theorem mu_0_6 : V.Spec Tryz.prog (Gl g) 267 [.c (cS (nbS 0)), .c (cS (nbS 6))] [] (.c (cS (nbS 0))) [] :=
 bF (fun _ => none) (fun _ => none) (T := []) (ne := []) (df := []) (F := 100000) (d := 60) (cs := []) hmx (by kernel_rfl) trivial
theorem aLH : V.Spec Tryz.prog (Gl g) 267 [.c (cS (nbS 1)), .c (cS (nbS 0))] [] (.c (cS (nbS 0))) [] :=
 bF (fun _ => none) (fun _ => none) (T := []) (ne := []) (df := []) (F := 100000) (d := 60) (cs := []) hmx (by kernel_rfl) trivial
theorem aLG : V.Spec Tryz.prog (Gl g) 267 [.c (cS (nbS 1)), .c (cS (nbS 2))] [] (.c (cS (nbS 2))) [] :=
 bF (fun _ => none) (fun _ => none) (T := []) (ne := []) (df := []) (F := 100000) (d := 60) (cs := []) hmx (by kernel_rfl) trivial
theorem aDI : V.Spec Tryz.prog (Gl g) 267 [.c (cS (nbS 2)), .c (cS (nbS 0))] [] (.c (cS (nbS 0))) [] :=
 bF (fun _ => none) (fun _ => none) (T := []) (ne := []) (df := []) (F := 100000) (d := 60) (cs := []) hmx (by kernel_rfl) trivial
theorem aDH : V.Spec Tryz.prog (Gl g) 267 [.c (cS (nbS 2)), .c (cS (nbS 2))] [] (.c (cS (nbS 4))) [] :=
 bF (fun _ => none) (fun _ => none) (T := []) (ne := []) (df := []) (F := 100000) (d := 60) (cs := []) hmx (by kernel_rfl) trivial
theorem mu_2_6 : V.Spec Tryz.prog (Gl g) 267 [.c (cS (nbS 2)), .c (cS (nbS 6))] [] (.c (cS (nbS 12))) [] :=
 bF (fun _ => none) (fun _ => none) (T := []) (ne := []) (df := []) (F := 100000) (d := 60) (cs := []) hmx (by kernel_rfl) trivial
theorem wK : V.Spec Tryz.prog (Gl g) 130 [.agg g0C] [] (.c (cB true)) [] :=
 bF (fun _ => none) (fun _ => none) (T := []) (ne := []) (df := []) (F := 100000) (d := 60) (cs := []) hmx (by kernel_rfl) trivial
theorem gfit0 : V.Spec Tryz.prog (Gl g) 131 [.agg g0C, .agg ((ruD 0 [99, 111, 108] [97] []).map C.d), .c (cM 3 fO)] [] (.c (cI 0)) [] :=
 bF (fun _ => none) (fun _ => none) (T := []) (ne := []) (df := []) (F := 100000) (d := 60) (cs := []) hmx (by kernel_rfl) trivial
theorem gfit1 : V.Spec Tryz.prog (Gl g) 131 [.agg g0C, .agg ((ruD 0 [99, 111, 108] [98] []).map C.d), .c (cM 3 fO)] [] (.c (cI 0)) [] :=
 bF (fun _ => none) (fun _ => none) (T := []) (ne := []) (df := []) (F := 100000) (d := 60) (cs := []) hmx (by kernel_rfl) trivial
theorem gfit2 : V.Spec Tryz.prog (Gl g) 131 [.agg g0C, .agg ((ruD 0 [99, 111, 110, 99, 97, 116] [] [1, 0]).map C.d), .c (cM 3 fO)] [] (.c (cI 0)) [] :=
 bF (fun _ => none) (fun _ => none) (T := []) (ne := []) (df := []) (F := 100000) (d := 60) (cs := []) hmx (by kernel_rfl) trivial
theorem gfit3 : V.Spec Tryz.prog (Gl g) 131 [.agg g0C, .agg ((ruD 0 [117, 112, 112, 101, 114] [] [1]).map C.d), .c (cM 3 fO)] [] (.c (cI 0)) [] :=
 bF (fun _ => none) (fun _ => none) (T := []) (ne := []) (df := []) (F := 100000) (d := 60) (cs := []) hmx (by kernel_rfl) trivial
theorem gfit4 : V.Spec Tryz.prog (Gl g) 131 [.agg g0C, .agg ((ruD 1 [99, 111, 108] [97] []).map C.d), .c (cM 3 fO)] [] (.c (cI 0)) [] :=
 bF (fun _ => none) (fun _ => none) (T := []) (ne := []) (df := []) (F := 100000) (d := 60) (cs := []) hmx (by kernel_rfl) trivial
theorem gfit5 : V.Spec Tryz.prog (Gl g) 131 [.agg g0C, .agg ((ruD 1 [116, 101, 120, 116] [45] []).map C.d), .c (cM 3 fO)] [] (.c (cI 0)) [] :=
 bF (fun _ => none) (fun _ => none) (T := []) (ne := []) (df := []) (F := 100000) (d := 60) (cs := []) hmx (by kernel_rfl) trivial
theorem gfit6 : V.Spec Tryz.prog (Gl g) 131 [.agg g0C, .agg ((ruD 1 [101, 120, 116, 114, 97, 99, 116] [92, 100, 43, 35, 49] [1]).map C.d), .c (cM 3 fO)] [] (.c (cI 0)) [] :=
 bF (fun _ => none) (fun _ => none) (T := []) (ne := []) (df := []) (F := 100000) (d := 60) (cs := []) hmx (by kernel_rfl) trivial
end Go.Proofs.YtclaplngjmgnoaaGreatDoor
namespace Go.Proofs.YtclaplngjmgnoaaGreatDoor
open Go.RowKit Go.V
section
variable {g : Gv}
def uT (tell : Nat → Option (Int × Int)) : Ent Tryz.prog (Gl g) where
 f := 82
 ask := fun k ins refs => match refs with
  | [(0, .box ty [c0, _])] => match tell k with
   | some (v, q) => some (.c (cI v), [(0, .box ty [c0, cI q])], [V.Spec Tryz.prog (Gl g) 82 ins refs (.c (cI v)) [(0, .box ty [c0, cI q])]])
   | none => none
  | _ => none
 ok := by
  intro k ins refs post out cs h hc
  split at h
  split at h
  cases h; exact hc
  cases h
  cases h
def Nx (g : Gv) (l : List Int) (k n v q : Int) : Prop := V.Spec Tryz.prog (Gl g) 82 [.c (.bx 0 0), .c (cI n)] [(0, y14 (intsD l) k)] (.c (cI v)) [(0, y14 (intsD l) q)]
end
def tl2 : List (Nat × Int × Int) → Nat → Option (Int × Int)
 | [], _ => none
 | (i, x) :: r, k => bif Nat.beq i k then some x else tl2 r k
def tlH : List (Nat × List D) → Nat → Option (List D)
 | [], _ => none
 | (i, x) :: r, k => bif Nat.beq i k then some x else tlH r k
def tlO : List (Nat × Bool) → Nat → Option Bool
 | [], _ => none
 | (i, x) :: r, k => bif Nat.beq i k then some x else tlO r k
def tlS : List (Nat × SV) → Nat → Option SV
 | [], _ => none
 | (i, x) :: r, k => bif Nat.beq i k then some x else tlS r k
def SX (g : Gv) (f : FuncId) (ins : List SV) (out : SV) : Prop := V.Spec Tryz.prog (Gl g) f ins [] out []
theorem sX {g : Gv} (orc : Nat → Option Bool) (lit : Nat → Option Value) (hnt : Nat → Option (List D)) {T : List (Ent Tryz.prog (Gl g))} {f : FuncId} {ins : List SV} {out : SV} {cs : List Prop} (h : vX T [] [] orc lit 100000 60 f ins hnt = some (out, cs)) (hc : conj cs) : SX g f ins out := nB orc lit hnt hmx h hc
def mR : SV := .c (cM 3 fO)
def kK : SV := .c (cM 2 [[.s (S [97]), .i 1], [.s (S [98]), .i 1]])
def apI (op pa : List UInt8) (args row : SV) : List SV := [.c (cS (S op)), .c (cS (S pa)), args, mR, kK, row]
def evI (p row : D) : List SV := [.agg g0C, mR, .c (.d p), .c (.d row)]
def tL (s : ByteArray) : List D := [.i 1, .s s, .i 0, .i 0, .i 0, .sl 1 [], .sl 1 []]
def fL (e : Int) : List D := [.i 0, .s (S []), .i 0, .i 0, .i e, .sl 1 [], .sl 1 []]
def oN (s : ByteArray) : SV := .tup [(true, [cI 1, cS s, cI 0, cI 0, cI 0, .d nlD, .d nlD]), (false, [cI 0])]
def oL (s : ByteArray) : SV := .tup [(true, [cI 1, cS s, cI 0, cI 0, cI 0, cM 1 [], cM 1 []]), (false, [cI 0])]
def oC (s : ByteArray) : SV := .tup [(true, [cI 1, cS s, cI 0, cI 0, cI 0, cM 1 [], .d nlD]), (false, [cI 0])]
def oE (e : Int) : SV := .tup [(true, [cI 0, cS (S []), cI 0, cI 0, cI 0, .d nlD, .d nlD]), (false, [cI e])]
def oF (e : Int) : SV := .agg [cI 0, cS (S []), cI 0, cI 0, cI e, cM 1 [], cM 1 []]
def aT (s : ByteArray) : SV := .agg [cI 1, cS s, cI 0, cI 0, cI 0, cM 1 [], cM 1 []]
def RgT (g : Gv) (s : ByteArray) : Prop := SX g 145 [aT s] (.c (cB true))
end Go.Proofs.YtclaplngjmgnoaaGreatDoor
namespace Go.Proofs.YtclaplngjmgnoaaGreatDoor
open Go.RowKit Go.V
inductive DLe : D → D → Prop where
 | refl (d : D) : DLe d d
 | nil (sz : Nat) : DLe nlD (.sl sz [])
 | sl (sz : Nat) {es es' : List (List D)} (hl : es.length = es'.length) (hd : ∀ (i : Nat) (ds ds' : List D), es[i]? = some ds → es'[i]? = some ds' → ds.length = ds'.length)
   (hr : ∀ (i j : Nat) (ds ds' : List D) (d d' : D), es[i]? = some ds → es'[i]? = some ds' → ds[j]? = some d → ds'[j]? = some d' → DLe d d') : DLe (.sl sz es) (.sl sz es')
theorem rd_le {w : World} {F : Nat → Prop} {d d' : D} (h : DLe d d') : ∀ {v : Value}, Rd w F d v → Rd w F d' v := by
 induction h with
 | refl d => exact fun h => h
 | nil sz =>
  intro v h
  cases h with
  | v x hx => exact .nil sz
 | @sl sz es es' hl hd hr ih =>
  intro v h
  have same : ∀ (i : Nat) (ds' : List D), es'[i]? = some ds' → ∃ ds, es[i]? = some ds := by
   intro i ds' hi
   have hlt := (List.getElem?_eq_some_iff.1 hi).1
   exact ⟨es[i]'(by omega), List.getElem?_eq_getElem (by omega)⟩
  have same2 : ∀ (i j : Nat) (ds ds' : List D) (d' : D), es[i]? = some ds → es'[i]? = some ds' → ds'[j]? = some d' → ∃ d, ds[j]? = some d := by
   intro i j ds ds' d' hi hi' hj
   have hlt := (List.getElem?_eq_some_iff.1 hj).1
   have := hd i ds ds' hi hi'
   exact ⟨ds[j]'(by omega), List.getElem?_eq_getElem (by omega)⟩
  cases h with
  | nil sz =>
   have : es' = [] := List.eq_nil_of_length_eq_zero (by simpa using hl.symm)
   subst this; exact .nil sz
  | far sz a =>
   have : es' = [] := List.eq_nil_of_length_eq_zero (by simpa using hl.symm)
   subst this; exact .far sz a
  | sl us hF hb hc hm hs hu hr' =>
   rw [hl]
   refine .sl us hF hb (by omega) hm (fun ds' hds => ?_) (fun i j ds' d' hi hj => ?_) (fun i j ds' d' hi hj => ?_)
   obtain ⟨i, hi⟩ := List.getElem?_of_mem hds
   obtain ⟨ds, hi0⟩ := same i ds' hi
   rw [← hd i ds ds' hi0 hi]
   exact hs ds (List.mem_of_getElem? hi0)
   obtain ⟨ds, hi0⟩ := same i ds' hi
   obtain ⟨d, hj0⟩ := same2 i j ds ds' d' hi0 hi hj
   exact hu i j ds d hi0 hj0
   obtain ⟨ds, hi0⟩ := same i ds' hi
   obtain ⟨d, hj0⟩ := same2 i j ds ds' d' hi0 hi hj
   exact ih i j ds ds' d d' hi0 hi hj0 hj (hr' i j ds d hi0 hj0)
inductive LLe : List D → List D → Prop where
 | nil : LLe [] []
 | cons {d d' : D} {l l' : List D} (h : DLe d d') (t : LLe l l') : LLe (d :: l) (d' :: l')
theorem LLe.len {l l' : List D} (h : LLe l l') : l.length = l'.length := by
 induction h with
 | nil => rfl
 | cons _ _ ih => simp [ih]
theorem LLe.get {l l' : List D} (h : LLe l l') : ∀ (j : Nat) (d d' : D), l[j]? = some d → l'[j]? = some d' → DLe d d' := by
 induction h with
 | nil => intro j d d' h; simp at h
 | cons h t ih =>
  intro j d d' h1 h2
  cases j with
  | zero =>
   simp only [List.getElem?_cons_zero, Option.some.injEq] at h1 h2
   subst h1; subst h2; exact h
  | succ j => exact ih j d d' (by simpa using h1) (by simpa using h2)
theorem DLe.two {sz : Nat} {a b a' b' : List D} (h1 : LLe a a') (h2 : LLe b b') : DLe (.sl sz [a, b]) (.sl sz [a', b']) :=
 .sl sz rfl (fun i ds ds' h h' => by
  match i, h, h' with
  | 0, h, h' => cases h; cases h'; exact h1.len
  | 1, h, h' => cases h; cases h'; exact h2.len
  | i + 2, h, h' => simp at h) (fun i j ds ds' d d' h h' hd hd' => by
  match i, h, h' with
  | 0, h, h' => cases h; cases h'; exact h1.get j d d' hd hd'
  | 1, h, h' => cases h; cases h'; exact h2.get j d d' hd hd'
  | i + 2, h, h' => simp at h)
theorem aGD {w : World} {pl : Pl} {own : V.Own} {l l' : List D} (h : LLe l l') : ∀ {vs : List Value}, All2 (COk w pl own) (l.map .d) vs → All2 (COk w pl own) (l'.map .d) vs := by
 intro vs hv
 have hl := h.len
 refine ⟨by simpa [hl] using hv.1, fun j x y hx hy => ?_⟩
 rw [List.getElem?_map] at hx
 cases hj : l'[j]? with
 | none => rw [hj] at hx; cases hx
 | some d' =>
  rw [hj] at hx
  simp only [Option.map_some, Option.some.injEq] at hx
  subst hx
  have hlt := (List.getElem?_eq_some_iff.1 hj).1
  have hj0 : l[j]? = some (l[j]'(by omega)) := List.getElem?_eq_getElem (by omega)
  have := hv.2 j (.d (l[j]'(by omega))) y (by rw [List.getElem?_map, hj0]; rfl) hy
  exact rd_le (h.get j _ d' hj0 hj) this
variable {g : Gv} {f : FuncId} {ins : List SV} {refs post : bI}
theorem aDJ {out out' : SV} (h : V.Spec Tryz.prog (Gl g) f ins refs out post) (hw : ∀ (w : World) (pl : Pl) (own : V.Own) (v : Value), bC w pl own out v → bC w pl own out' v) : V.Spec Tryz.prog (Gl g) f ins refs out' post := by
 intro fr w pl args h0 hG m ha
 refine (h fr w pl args h0 hG m ha).mono ?_
 rintro e w' ⟨v, pl', rfl, m', hs⟩
 exact ⟨v, pl', rfl, m', hw _ _ _ _ hs⟩
theorem le_c {d d' : D} (h : V.Spec Tryz.prog (Gl g) f ins refs (.c (.d d)) post) (hd : DLe d d') : V.Spec Tryz.prog (Gl g) f ins refs (.c (.d d')) post :=
 aDJ h fun w pl own v hv => rd_le hd hv
theorem d7 {l l' : List D} (h : V.Spec Tryz.prog (Gl g) f ins refs (.agg (l.map .d)) post) (hd : LLe l l') : V.Spec Tryz.prog (Gl g) f ins refs (.agg (l'.map .d)) post :=
 aDJ h fun w pl own v hv => by
  obtain ⟨vs, rfl, h2⟩ := hv
  exact ⟨vs, rfl, aGD hd h2⟩
theorem aLU {l l' : List D} {b : Bool} {e : Bool × List C} (h : V.Spec Tryz.prog (Gl g) f ins refs (.tup [(b, l.map .d), e]) post) (hd : LLe l l') (hb : b = true) : V.Spec Tryz.prog (Gl g) f ins refs (.tup [(b, l'.map .d), e]) post :=
 aDJ h fun w pl own v hv => by
  subst hb
  obtain ⟨vs, rfl, h2⟩ := hv
  obtain ⟨y, ys, rfl, h3, h4⟩ := h2.uncons
  obtain ⟨us, rfl, h5⟩ := h3
  exact ⟨_, rfl, All2.cons ⟨us, rfl, aGD hd h5⟩ h4⟩
theorem t8 (s : ByteArray) : LLe [.i 1, .s s, .i 0, .i 0, .i 0, nlD, nlD] [.i 1, .s s, .i 0, .i 0, .i 0, .sl 1 [], .sl 1 []] := .cons (.refl _) (.cons (.refl _) (.cons (.refl _) (.cons (.refl _) (.cons (.refl _) (.cons (.nil 1) (.cons (.nil 1) .nil))))))
theorem le_tx' (s : ByteArray) : LLe [.i 1, .s s, .i 0, .i 0, .i 0, .sl 1 [], nlD] [.i 1, .s s, .i 0, .i 0, .i 0, .sl 1 [], .sl 1 []] := .cons (.refl _) (.cons (.refl _) (.cons (.refl _) (.cons (.refl _) (.cons (.refl _) (.cons (.refl _) (.cons (.nil 1) .nil))))))
theorem uA (e : Int) : LLe [.i 0, .s (S []), .i 0, .i 0, .i e, nlD, nlD] [.i 0, .s (S []), .i 0, .i 0, .i e, .sl 1 [], .sl 1 []] := .cons (.refl _) (.cons (.refl _) (.cons (.refl _) (.cons (.refl _) (.cons (.refl _) (.cons (.nil 1) (.cons (.nil 1) .nil))))))
end Go.Proofs.YtclaplngjmgnoaaGreatDoor
namespace Go.Proofs.YtclaplngjmgnoaaGreatDoor
open Go.RowKit Go.V
variable {g : Gv}
theorem eqX (s : ByteArray) (h : conj [Value.bool (s.toList == s.toList) = .bool true]) : SX g 63 [aT s, .agg [cI 1, cS s, cI 0, cI 0, cI 0, .d nlD, .d nlD]] (.c (cB true)) :=
 sX (fun _ => none) (fun k => bif Nat.beq k 113 then some (.bool true) else none) (fun _ => none) (T := []) (by kernel_rfl) h
theorem rightX2 (s : ByteArray) (h : conj [SX g 63 [aT s, .agg [cI 1, cS s, cI 0, cI 0, cI 0, .d nlD, .d nlD]] (.c (cB true)), SX g 214 [.c (cS s)] (.c (cB true))]) : SX g 145 [aT s] (.c (cB true)) :=
 sX (fun _ => none) (fun _ => none) (fun _ => none) (T := [bD 214 (.c (cB true)), bD 63 (.c (cB true))]) (by kernel_rfl) h
theorem textX (s q : ByteArray) (h : conj [SX g 147 [.c (cS s)] (.c (cS q)), SX g 145 [aT s] (.c (cB true))]) : SX g 92 [aT s] (.c (cS q)) :=
 sX (fun _ => none) (fun _ => none) (fun _ => none) (T := [bD 145 (.c (cB true)), bD 147 (.c (cS q))]) (by kernel_rfl) h
end Go.Proofs.YtclaplngjmgnoaaGreatDoor
namespace Go.Proofs.YtclaplngjmgnoaaGreatDoor
open Go.RowKit Go.V
variable {g : Gv}
def rowTx : List (List UInt8) := [[65], [66], [97], [97, 49], [49, 50, 45, 120], [], [72, 73, 71, 72], [88, 49]]
def zeD : List D := [.i 0, .s (S []), .i 0, .i 0, .i 0, nlD, nlD]
theorem rowX00 (l : List Int) (v1 q1 w1 q2 v2 q3 w2 q4 : Int) (t1 t2 : List UInt8) (h : conj [decide (w2 = 11) = false, Nx g l q3 12 w2 q4, Nx g l q2 8 v2 q3, 0 ≤ v2 ∧ (rowTx.map fun t => [D.s (S t)])[v2.toNat]? = some [.s (S t2)], decide (w1 = 11) = false, Nx g l q1 12 w1 q2, Nx g l 0 8 v1 q1, 0 ≤ v1 ∧ (rowTx.map fun t => [D.s (S t)])[v1.toNat]? = some [.s (S t1)]]) : SX g 88 [.agg g0C, .c (cM 1 (intsD l))] (.c (cM 7 [txD t1, txD t2])) :=
 sX (tlO [(133, true), (140, false), (173, true), (180, false)]) (fun _ => none) (tlH [(133, [.s (S t1)]), (173, [.s (S t2)])]) (T := [uT (tl2 [(131, v1, q1), (137, w1, q2), (171, v2, q3), (177, w2, q4)])]) (by kernel_rfl) h
theorem rowX01 (l : List Int) (v1 q1 w1 q2 v2 q3 w2 q4 : Int) (t1 t2 : List UInt8) (h : conj [decide (w2 = 11) = true, Nx g l q3 12 w2 q4, Nx g l q2 8 v2 q3, 0 ≤ v2 ∧ (rowTx.map fun t => [D.s (S t)])[v2.toNat]? = some [.s (S t2)], decide (w1 = 11) = false, Nx g l q1 12 w1 q2, Nx g l 0 8 v1 q1, 0 ≤ v1 ∧ (rowTx.map fun t => [D.s (S t)])[v1.toNat]? = some [.s (S t1)]]) : SX g 88 [.agg g0C, .c (cM 1 (intsD l))] (.c (cM 7 [txD t1, zeD])) :=
 sX (tlO [(133, true), (140, false), (173, true), (180, true)]) (fun _ => none) (tlH [(133, [.s (S t1)]), (173, [.s (S t2)])]) (T := [uT (tl2 [(131, v1, q1), (137, w1, q2), (171, v2, q3), (177, w2, q4)])]) (by kernel_rfl) h
theorem rowX10 (l : List Int) (v1 q1 w1 q2 v2 q3 w2 q4 : Int) (t1 t2 : List UInt8) (h : conj [decide (w2 = 11) = false, Nx g l q3 12 w2 q4, Nx g l q2 8 v2 q3, 0 ≤ v2 ∧ (rowTx.map fun t => [D.s (S t)])[v2.toNat]? = some [.s (S t2)], decide (w1 = 11) = true, Nx g l q1 12 w1 q2, Nx g l 0 8 v1 q1, 0 ≤ v1 ∧ (rowTx.map fun t => [D.s (S t)])[v1.toNat]? = some [.s (S t1)]]) : SX g 88 [.agg g0C, .c (cM 1 (intsD l))] (.c (cM 7 [zeD, txD t2])) :=
 sX (tlO [(133, true), (140, true), (175, true), (182, false)]) (fun _ => none) (tlH [(133, [.s (S t1)]), (175, [.s (S t2)])]) (T := [uT (tl2 [(131, v1, q1), (137, w1, q2), (173, v2, q3), (179, w2, q4)])]) (by kernel_rfl) h
theorem rowX11 (l : List Int) (v1 q1 w1 q2 v2 q3 w2 q4 : Int) (t1 t2 : List UInt8) (h : conj [decide (w2 = 11) = true, Nx g l q3 12 w2 q4, Nx g l q2 8 v2 q3, 0 ≤ v2 ∧ (rowTx.map fun t => [D.s (S t)])[v2.toNat]? = some [.s (S t2)], decide (w1 = 11) = true, Nx g l q1 12 w1 q2, Nx g l 0 8 v1 q1, 0 ≤ v1 ∧ (rowTx.map fun t => [D.s (S t)])[v1.toNat]? = some [.s (S t1)]]) : SX g 88 [.agg g0C, .c (cM 1 (intsD l))] (.c (cM 7 [zeD, zeD])) :=
 sX (tlO [(133, true), (140, true), (175, true), (182, true)]) (fun _ => none) (tlH [(133, [.s (S t1)]), (175, [.s (S t2)])]) (T := [uT (tl2 [(131, v1, q1), (137, w1, q2), (173, v2, q3), (179, w2, q4)])]) (by kernel_rfl) h
end Go.Proofs.YtclaplngjmgnoaaGreatDoor
namespace Go.Proofs.YtclaplngjmgnoaaGreatDoor
open Go.RowKit Go.V
variable {g : Gv}
def OpS (g : Gv) (p q : List Int) (m k : Int) : Prop := ∀ n : Int, SX g 44 [.c (cI n), .c (cI m)] (.c (cI k)) → SX g 87 [.agg g0C, .c (cM 1 (intsD p)), .c (cI n)] (.c (cM 1 (intsD q)))
theorem opX {p q : List Int} {m k : Int} (h : ∀ n : Int, vX (P := Tryz.prog) (G := Gl g) [bD 44 (.c (cI k))] [] [] (fun _ => none) (fun _ => none) 100000 60 87 [.agg g0C, .c (cM 1 (intsD p)), .c (cI n)] (fun _ => none) = some (.c (cM 1 (intsD q)), [SX g 44 [.c (cI n), .c (cI m)] (.c (cI k))])) : OpS g p q m k := fun n hn => sX _ _ _ (h n) hn
set_option maxRecDepth 100000
theorem aH8 : OpS g [0] [-1] 1 0 := opX fun n => by kernel_rfl
theorem aH7 : OpS g [1] [-1] 1 0 := opX fun n => by kernel_rfl
theorem aH6 : OpS g [3, 4] [-1] 2 0 := opX fun n => by kernel_rfl
theorem aH5 : OpS g [3, 4] [3, -1] 2 1 := opX fun n => by kernel_rfl
theorem aH4 : OpS g [3, 5] [-1] 2 0 := opX fun n => by kernel_rfl
theorem aH3 : OpS g [3, 5] [3, -1] 2 1 := opX fun n => by kernel_rfl
theorem aH2 : OpS g [2, 4, 0] [-1] 3 0 := opX fun n => by kernel_rfl
theorem aH1 : OpS g [2, 4, 0] [2, -1, 0] 3 1 := opX fun n => by kernel_rfl
theorem aH0 : OpS g [2, 4, 0] [2, 4, -1] 3 2 := opX fun n => by kernel_rfl
theorem aHZ : OpS g [2, 4, 1] [-1] 3 0 := opX fun n => by kernel_rfl
theorem aHY : OpS g [2, 4, 1] [2, -1, 1] 3 1 := opX fun n => by kernel_rfl
theorem aHX : OpS g [2, 4, 1] [2, 4, -1] 3 2 := opX fun n => by kernel_rfl
theorem aHW : OpS g [2, 5, 0] [-1] 3 0 := opX fun n => by kernel_rfl
theorem aHV : OpS g [2, 5, 0] [2, -1, 0] 3 1 := opX fun n => by kernel_rfl
theorem aHU : OpS g [2, 5, 0] [2, 5, -1] 3 2 := opX fun n => by kernel_rfl
theorem aHT : OpS g [2, 5, 1] [-1] 3 0 := opX fun n => by kernel_rfl
theorem aHS : OpS g [2, 5, 1] [2, -1, 1] 3 1 := opX fun n => by kernel_rfl
theorem aHR : OpS g [2, 5, 1] [2, 5, -1] 3 2 := opX fun n => by kernel_rfl
theorem aHQ : OpS g [3, 6, 4] [-1] 3 0 := opX fun n => by kernel_rfl
theorem aHP : OpS g [3, 6, 4] [3, -1] 3 1 := opX fun n => by kernel_rfl
theorem aHO : OpS g [3, 6, 4] [3, 6, -1] 3 2 := opX fun n => by kernel_rfl
theorem aHN : OpS g [3, 6, 5] [-1] 3 0 := opX fun n => by kernel_rfl
theorem aHM : OpS g [3, 6, 5] [3, -1] 3 1 := opX fun n => by kernel_rfl
theorem aHL : OpS g [3, 6, 5] [3, 6, -1] 3 2 := opX fun n => by kernel_rfl
theorem aDB : OpS g [2, 4, 3, 4] [-1] 4 0 := opX fun n => by kernel_rfl
theorem aDA : OpS g [2, 4, 3, 4] [2, -1, 3, 4] 4 1 := opX fun n => by kernel_rfl
theorem aC9 : OpS g [2, 4, 3, 4] [2, 4, -1] 4 2 := opX fun n => by kernel_rfl
theorem aC8 : OpS g [2, 4, 3, 4] [2, 4, 3, -1] 4 3 := opX fun n => by kernel_rfl
theorem aC7 : OpS g [2, 4, 3, 5] [-1] 4 0 := opX fun n => by kernel_rfl
theorem aC6 : OpS g [2, 4, 3, 5] [2, -1, 3, 5] 4 1 := opX fun n => by kernel_rfl
theorem aC5 : OpS g [2, 4, 3, 5] [2, 4, -1] 4 2 := opX fun n => by kernel_rfl
theorem aC4 : OpS g [2, 4, 3, 5] [2, 4, 3, -1] 4 3 := opX fun n => by kernel_rfl
theorem aC3 : OpS g [2, 5, 3, 4] [-1] 4 0 := opX fun n => by kernel_rfl
theorem aC2 : OpS g [2, 5, 3, 4] [2, -1, 3, 4] 4 1 := opX fun n => by kernel_rfl
theorem aC1 : OpS g [2, 5, 3, 4] [2, 5, -1] 4 2 := opX fun n => by kernel_rfl
theorem aC0 : OpS g [2, 5, 3, 4] [2, 5, 3, -1] 4 3 := opX fun n => by kernel_rfl
theorem aCZ : OpS g [2, 5, 3, 5] [-1] 4 0 := opX fun n => by kernel_rfl
theorem aCY : OpS g [2, 5, 3, 5] [2, -1, 3, 5] 4 1 := opX fun n => by kernel_rfl
theorem aCX : OpS g [2, 5, 3, 5] [2, 5, -1] 4 2 := opX fun n => by kernel_rfl
theorem aCW : OpS g [2, 5, 3, 5] [2, 5, 3, -1] 4 3 := opX fun n => by kernel_rfl
theorem aCV : OpS g [2, 6, 4, 0] [-1] 4 0 := opX fun n => by kernel_rfl
theorem aCU : OpS g [2, 6, 4, 0] [2, -1, 0] 4 1 := opX fun n => by kernel_rfl
theorem aCT : OpS g [2, 6, 4, 0] [2, 6, -1, 0] 4 2 := opX fun n => by kernel_rfl
theorem aCS : OpS g [2, 6, 4, 0] [2, 6, 4, -1] 4 3 := opX fun n => by kernel_rfl
theorem aCR : OpS g [2, 6, 4, 1] [-1] 4 0 := opX fun n => by kernel_rfl
theorem aCQ : OpS g [2, 6, 4, 1] [2, -1, 1] 4 1 := opX fun n => by kernel_rfl
theorem aCP : OpS g [2, 6, 4, 1] [2, 6, -1, 1] 4 2 := opX fun n => by kernel_rfl
theorem aCO : OpS g [2, 6, 4, 1] [2, 6, 4, -1] 4 3 := opX fun n => by kernel_rfl
theorem aCN : OpS g [2, 6, 5, 0] [-1] 4 0 := opX fun n => by kernel_rfl
theorem aCM : OpS g [2, 6, 5, 0] [2, -1, 0] 4 1 := opX fun n => by kernel_rfl
theorem aCL : OpS g [2, 6, 5, 0] [2, 6, -1, 0] 4 2 := opX fun n => by kernel_rfl
theorem aCK : OpS g [2, 6, 5, 0] [2, 6, 5, -1] 4 3 := opX fun n => by kernel_rfl
theorem aCJ : OpS g [2, 6, 5, 1] [-1] 4 0 := opX fun n => by kernel_rfl
theorem aCI : OpS g [2, 6, 5, 1] [2, -1, 1] 4 1 := opX fun n => by kernel_rfl
theorem aCH : OpS g [2, 6, 5, 1] [2, 6, -1, 1] 4 2 := opX fun n => by kernel_rfl
theorem aCG : OpS g [2, 6, 5, 1] [2, 6, 5, -1] 4 3 := opX fun n => by kernel_rfl
end Go.Proofs.YtclaplngjmgnoaaGreatDoor
namespace Go.Proofs.YtclaplngjmgnoaaGreatDoor
open Go.RowKit Go.V
variable {g : Gv}
abbrev y15 : SV := .tup [(true, [.d (nlD), cI 0, cI 0, cI 0, cI 0, .d (nlD)]), (false, [cB true])]
theorem p7 : SX g 279 [.c (cS (S [116, 101, 120, 116])), .c (cS (S [45]))] (y15) :=
 sX (fun _ => none) (fun _ => none) (fun _ => none) (T := []) (cs := []) (by kernel_rfl) trivial
abbrev y16 : SV := .tup [(false, [.d (nlD)]), (false, [cI 1]), (false, [cI 0])]
theorem yX : SX g 200 [.c (cS (S [116, 101, 120, 116])), .c (cS (S [45])), .c (cM 3 fO), .c (cM 2 [[.s (S [97]), .i 1], [.s (S [98]), .i 1]])] (y16) :=
 sX (fun _ => none) (fun _ => none) (fun _ => none) (T := [aU 279 [⟨_, _, p7⟩]]) (cs := []) (by kernel_rfl) trivial
theorem aNQ (row : SV) : SX g 287 (apI [116, 101, 120, 116] [45] (.c (.d (nlD))) row) (oN (S [45])) :=
 sX (fun _ => none) ((fun _ => none)) (fun _ => none) (T := [aU 200 [⟨_, _, yX⟩], aU 279 [⟨_, _, p7⟩]]) (cs := []) (by kernel_rfl) trivial
theorem cF : SX g 279 [.c (cS (S [117, 112, 112, 101, 114])), .c (cS (S []))] (y15) :=
 sX (fun _ => none) (fun _ => none) (fun _ => none) (T := []) (cs := []) (by kernel_rfl) trivial
abbrev y17 (a0 : List (List D)) : SV := .tup [(false, [cM 1 a0]), (false, [cI 1]), (false, [cI 0])]
theorem bT : SX g 200 [.c (cS (S [117, 112, 112, 101, 114])), .c (cS (S [])), .c (cM 3 fO), .c (cM 2 [[.s (S [97]), .i 1], [.s (S [98]), .i 1]])] (y17 [[.i 1]]) :=
 sX (fun _ => none) (fun _ => none) (fun _ => none) (T := [aU 279 [⟨_, _, cF⟩]]) (cs := []) (by kernel_rfl) trivial
theorem apUp0 (row : SV) : SX g 287 (apI [117, 112, 112, 101, 114] [] (.c (cM 7 [[.i 1, .s (S [65]), .i 0, .i 0, .i 0, .sl 1 [], .sl 1 []]])) row) (oN (S [65])) :=
 sX (fun _ => none) ((fun _ => none)) (fun _ => none) (T := [aU 200 [⟨_, _, bT⟩], aU 279 [⟨_, _, cF⟩]]) (cs := []) (by kernel_rfl) trivial
theorem apUp1 (row : SV) : SX g 287 (apI [117, 112, 112, 101, 114] [] (.c (cM 7 [[.i 1, .s (S [66]), .i 0, .i 0, .i 0, .sl 1 [], .sl 1 []]])) row) (oN (S [66])) :=
 sX (fun _ => none) ((fun _ => none)) (fun _ => none) (T := [aU 200 [⟨_, _, bT⟩], aU 279 [⟨_, _, cF⟩]]) (cs := []) (by kernel_rfl) trivial
theorem apUp2 (row : SV) : SX g 287 (apI [117, 112, 112, 101, 114] [] (.c (cM 7 [[.i 1, .s (S [97]), .i 0, .i 0, .i 0, .sl 1 [], .sl 1 []]])) row) (oN (S [65])) :=
 sX (fun _ => none) ((fun _ => none)) (fun _ => none) (T := [aU 200 [⟨_, _, bT⟩], aU 279 [⟨_, _, cF⟩]]) (cs := []) (by kernel_rfl) trivial
theorem apUp3 (row : SV) : SX g 287 (apI [117, 112, 112, 101, 114] [] (.c (cM 7 [[.i 1, .s (S [97, 49]), .i 0, .i 0, .i 0, .sl 1 [], .sl 1 []]])) row) (oN (S [65, 49])) :=
 sX (fun _ => none) ((fun _ => none)) (fun _ => none) (T := [aU 200 [⟨_, _, bT⟩], aU 279 [⟨_, _, cF⟩]]) (cs := []) (by kernel_rfl) trivial
theorem apUp4 (row : SV) : SX g 287 (apI [117, 112, 112, 101, 114] [] (.c (cM 7 [[.i 1, .s (S [49, 50, 45, 120]), .i 0, .i 0, .i 0, .sl 1 [], .sl 1 []]])) row) (oN (S [49, 50, 45, 88])) :=
 sX (fun _ => none) ((fun _ => none)) (fun _ => none) (T := [aU 200 [⟨_, _, bT⟩], aU 279 [⟨_, _, cF⟩]]) (cs := []) (by kernel_rfl) trivial
theorem apUp5 (row : SV) : SX g 287 (apI [117, 112, 112, 101, 114] [] (.c (cM 7 [[.i 1, .s (S []), .i 0, .i 0, .i 0, .sl 1 [], .sl 1 []]])) row) (oN (S [])) :=
 sX (fun _ => none) ((fun _ => none)) (fun _ => none) (T := [aU 200 [⟨_, _, bT⟩], aU 279 [⟨_, _, cF⟩]]) (cs := []) (by kernel_rfl) trivial
theorem apUp6 (row : SV) : SX g 287 (apI [117, 112, 112, 101, 114] [] (.c (cM 7 [[.i 1, .s (S [72, 73, 71, 72]), .i 0, .i 0, .i 0, .sl 1 [], .sl 1 []]])) row) (oN (S [72, 73, 71, 72])) :=
 sX (fun _ => none) ((fun _ => none)) (fun _ => none) (T := [aU 200 [⟨_, _, bT⟩], aU 279 [⟨_, _, cF⟩]]) (cs := []) (by kernel_rfl) trivial
theorem apUp7 (row : SV) : SX g 287 (apI [117, 112, 112, 101, 114] [] (.c (cM 7 [[.i 1, .s (S [88, 49]), .i 0, .i 0, .i 0, .sl 1 [], .sl 1 []]])) row) (oN (S [88, 49])) :=
 sX (fun _ => none) ((fun _ => none)) (fun _ => none) (T := [aU 200 [⟨_, _, bT⟩], aU 279 [⟨_, _, cF⟩]]) (cs := []) (by kernel_rfl) trivial
theorem apUp8 (row : SV) : SX g 287 (apI [117, 112, 112, 101, 114] [] (.c (cM 7 [[.i 1, .s (S [45]), .i 0, .i 0, .i 0, .sl 1 [], .sl 1 []]])) row) (oN (S [45])) :=
 sX (fun _ => none) ((fun _ => none)) (fun _ => none) (T := [aU 200 [⟨_, _, bT⟩], aU 279 [⟨_, _, cF⟩]]) (cs := []) (by kernel_rfl) trivial
theorem apUp9 (row : SV) : SX g 287 (apI [117, 112, 112, 101, 114] [] (.c (cM 7 [[.i 1, .s (S [49]), .i 0, .i 0, .i 0, .sl 1 [], .sl 1 []]])) row) (oN (S [49])) :=
 sX (fun _ => none) ((fun _ => none)) (fun _ => none) (T := [aU 200 [⟨_, _, bT⟩], aU 279 [⟨_, _, cF⟩]]) (cs := []) (by kernel_rfl) trivial
theorem apUp10 (row : SV) : SX g 287 (apI [117, 112, 112, 101, 114] [] (.c (cM 7 [[.i 1, .s (S [49, 50]), .i 0, .i 0, .i 0, .sl 1 [], .sl 1 []]])) row) (oN (S [49, 50])) :=
 sX (fun _ => none) ((fun _ => none)) (fun _ => none) (T := [aU 200 [⟨_, _, bT⟩], aU 279 [⟨_, _, cF⟩]]) (cs := []) (by kernel_rfl) trivial
theorem apUpE16 (row : SV) : SX g 287 (apI [117, 112, 112, 101, 114] [] (.c (cM 7 [[.i 0, .s (S []), .i 0, .i 0, .i 16, .sl 1 [], .sl 1 []]])) row) (oE 16) :=
 sX (fun _ => none) ((fun _ => none)) (fun _ => none) (T := [aU 200 [⟨_, _, bT⟩]]) (cs := []) (by kernel_rfl) trivial
theorem apUpE18 (row : SV) : SX g 287 (apI [117, 112, 112, 101, 114] [] (.c (cM 7 [[.i 0, .s (S []), .i 0, .i 0, .i 18, .sl 1 [], .sl 1 []]])) row) (oE 18) :=
 sX (fun _ => none) ((fun _ => none)) (fun _ => none) (T := [aU 200 [⟨_, _, bT⟩]]) (cs := []) (by kernel_rfl) trivial
theorem c8 : SX g 279 [.c (cS (S [101, 120, 116, 114, 97, 99, 116])), .c (cS (S [92, 100, 43, 35, 49]))] (.tup [(true, [.d (nlD), cI 0, cI 1, cI 0, cI 0, cM 4 [[.i 1, .i 1, .i 200, .s (S [])]]]), (false, [cB true])]) :=
 sX (fun _ => none) (fun _ => none) (fun _ => none) (T := []) (cs := []) (by kernel_rfl) trivial
theorem cJ : SX g 200 [.c (cS (S [101, 120, 116, 114, 97, 99, 116])), .c (cS (S [92, 100, 43, 35, 49])), .c (cM 3 fO), .c (cM 2 [[.s (S [97]), .i 1], [.s (S [98]), .i 1]])] (y17 [[.i 1]]) :=
 sX (fun _ => none) (fun _ => none) (fun _ => none) (T := [aU 279 [⟨_, _, c8⟩]]) (cs := []) (by kernel_rfl) trivial
theorem apEx0 (row : SV) : SX g 287 (apI [101, 120, 116, 114, 97, 99, 116] [92, 100, 43, 35, 49] (.c (cM 7 [[.i 1, .s (S [65]), .i 0, .i 0, .i 0, .sl 1 [], .sl 1 []]])) row) (oE 18) :=
 sX (fun _ => none) ((fun _ => none)) (fun _ => none) (T := [aU 200 [⟨_, _, cJ⟩], aU 279 [⟨_, _, c8⟩]]) (cs := []) (by kernel_rfl) trivial
theorem apEx1 (row : SV) : SX g 287 (apI [101, 120, 116, 114, 97, 99, 116] [92, 100, 43, 35, 49] (.c (cM 7 [[.i 1, .s (S [66]), .i 0, .i 0, .i 0, .sl 1 [], .sl 1 []]])) row) (oE 18) :=
 sX (fun _ => none) ((fun _ => none)) (fun _ => none) (T := [aU 200 [⟨_, _, cJ⟩], aU 279 [⟨_, _, c8⟩]]) (cs := []) (by kernel_rfl) trivial
theorem apEx2 (row : SV) : SX g 287 (apI [101, 120, 116, 114, 97, 99, 116] [92, 100, 43, 35, 49] (.c (cM 7 [[.i 1, .s (S [97]), .i 0, .i 0, .i 0, .sl 1 [], .sl 1 []]])) row) (oE 18) :=
 sX (fun _ => none) ((fun _ => none)) (fun _ => none) (T := [aU 200 [⟨_, _, cJ⟩], aU 279 [⟨_, _, c8⟩]]) (cs := []) (by kernel_rfl) trivial
theorem apEx3 (row : SV) : SX g 287 (apI [101, 120, 116, 114, 97, 99, 116] [92, 100, 43, 35, 49] (.c (cM 7 [[.i 1, .s (S [97, 49]), .i 0, .i 0, .i 0, .sl 1 [], .sl 1 []]])) row) (oN (S [49])) :=
 sX (fun _ => none) ((fun _ => none)) (fun _ => none) (T := [aU 200 [⟨_, _, cJ⟩], aU 279 [⟨_, _, c8⟩]]) (cs := []) (by kernel_rfl) trivial
theorem apEx4 (row : SV) : SX g 287 (apI [101, 120, 116, 114, 97, 99, 116] [92, 100, 43, 35, 49] (.c (cM 7 [[.i 1, .s (S [49, 50, 45, 120]), .i 0, .i 0, .i 0, .sl 1 [], .sl 1 []]])) row) (oN (S [49, 50])) :=
 sX (fun _ => none) ((fun _ => none)) (fun _ => none) (T := [aU 200 [⟨_, _, cJ⟩], aU 279 [⟨_, _, c8⟩]]) (cs := []) (by kernel_rfl) trivial
theorem apEx5 (row : SV) : SX g 287 (apI [101, 120, 116, 114, 97, 99, 116] [92, 100, 43, 35, 49] (.c (cM 7 [[.i 1, .s (S []), .i 0, .i 0, .i 0, .sl 1 [], .sl 1 []]])) row) (oE 18) :=
 sX (fun _ => none) ((fun _ => none)) (fun _ => none) (T := [aU 200 [⟨_, _, cJ⟩], aU 279 [⟨_, _, c8⟩]]) (cs := []) (by kernel_rfl) trivial
theorem apEx6 (row : SV) : SX g 287 (apI [101, 120, 116, 114, 97, 99, 116] [92, 100, 43, 35, 49] (.c (cM 7 [[.i 1, .s (S [72, 73, 71, 72]), .i 0, .i 0, .i 0, .sl 1 [], .sl 1 []]])) row) (oE 18) :=
 sX (fun _ => none) ((fun _ => none)) (fun _ => none) (T := [aU 200 [⟨_, _, cJ⟩], aU 279 [⟨_, _, c8⟩]]) (cs := []) (by kernel_rfl) trivial
theorem apEx7 (row : SV) : SX g 287 (apI [101, 120, 116, 114, 97, 99, 116] [92, 100, 43, 35, 49] (.c (cM 7 [[.i 1, .s (S [88, 49]), .i 0, .i 0, .i 0, .sl 1 [], .sl 1 []]])) row) (oN (S [49])) :=
 sX (fun _ => none) ((fun _ => none)) (fun _ => none) (T := [aU 200 [⟨_, _, cJ⟩], aU 279 [⟨_, _, c8⟩]]) (cs := []) (by kernel_rfl) trivial
theorem apEx8 (row : SV) : SX g 287 (apI [101, 120, 116, 114, 97, 99, 116] [92, 100, 43, 35, 49] (.c (cM 7 [[.i 1, .s (S [45]), .i 0, .i 0, .i 0, .sl 1 [], .sl 1 []]])) row) (oE 18) :=
 sX (fun _ => none) ((fun _ => none)) (fun _ => none) (T := [aU 200 [⟨_, _, cJ⟩], aU 279 [⟨_, _, c8⟩]]) (cs := []) (by kernel_rfl) trivial
theorem apExE16 (row : SV) : SX g 287 (apI [101, 120, 116, 114, 97, 99, 116] [92, 100, 43, 35, 49] (.c (cM 7 [[.i 0, .s (S []), .i 0, .i 0, .i 16, .sl 1 [], .sl 1 []]])) row) (oE 16) :=
 sX (fun _ => none) ((fun _ => none)) (fun _ => none) (T := [aU 200 [⟨_, _, cJ⟩]]) (cs := []) (by kernel_rfl) trivial
end Go.Proofs.YtclaplngjmgnoaaGreatDoor
namespace Go.Proofs.YtclaplngjmgnoaaGreatDoor
open Go.RowKit Go.V
variable {g : Gv}
theorem tyCo : SX g 200 [.c (cS (S [99, 111, 110, 99, 97, 116])), .c (cS (S [])), .c (cM 3 fO), .c (cM 2 [[.s (S [97]), .i 1], [.s (S [98]), .i 1]])] (y17 [[.i 1], [.i 1]]) :=
 sX (fun _ => none) (fun _ => none) (fun _ => none) (T := []) (cs := []) (by kernel_rfl) trivial
theorem rdCo : SX g 279 [.c (cS (S [99, 111, 110, 99, 97, 116])), .c (cS (S []))] (y15) :=
 sX (fun _ => none) (fun _ => none) (fun _ => none) (T := []) (cs := []) (by kernel_rfl) trivial
theorem tyCA : SX g 200 [.c (cS (S [99, 111, 108])), .c (cS (S [97])), .c (cM 3 fO), .c (cM 2 [[.s (S [97]), .i 1], [.s (S [98]), .i 1]])] (y16) :=
 sX (fun _ => none) (fun _ => none) (fun _ => none) (T := []) (cs := []) (by kernel_rfl) trivial
theorem rdCA : SX g 279 [.c (cS (S [99, 111, 108])), .c (cS (S [97]))] (.tup [(true, [cM 1 [[.s (S [97])]], cI 0, cI 0, cI 0, cI 0, .d (nlD)]), (false, [cB true])]) :=
 sX (fun _ => none) (fun _ => none) (fun _ => none) (T := []) (cs := []) (by kernel_rfl) trivial
theorem tyCB : SX g 200 [.c (cS (S [99, 111, 108])), .c (cS (S [98])), .c (cM 3 fO), .c (cM 2 [[.s (S [97]), .i 1], [.s (S [98]), .i 1]])] (y16) :=
 sX (fun _ => none) (fun _ => none) (fun _ => none) (T := []) (cs := []) (by kernel_rfl) trivial
theorem rdCB : SX g 279 [.c (cS (S [99, 111, 108])), .c (cS (S [98]))] (.tup [(true, [cM 1 [[.s (S [98])]], cI 0, cI 0, cI 0, cI 0, .d (nlD)]), (false, [cB true])]) :=
 sX (fun _ => none) (fun _ => none) (fun _ => none) (T := []) (cs := []) (by kernel_rfl) trivial
end Go.Proofs.YtclaplngjmgnoaaGreatDoor
namespace Go.Proofs.YtclaplngjmgnoaaGreatDoor
open Go.RowKit Go.V
variable {g : Gv}
theorem coX (row : SV) (s t : ByteArray) (h : conj [s.size + t.size ≤ Go.maxLen, decide ((s.size : Int) + t.size > 200) = false, Go.Eng.inR ((s.size : Int) + t.size), RgT g t, RgT g s]) : SX g 287 (apI [99, 111, 110, 99, 97, 116] [] (.c (cM 7 [tL s, tL t])) (row)) (oN (s ++ t)) :=
 sX (tlO [(261, true), (263, false), (268, true)]) (fun _ => none) (fun _ => none) (T := [aU 200 [⟨_, _, tyCo⟩], aU 279 [⟨_, _, rdCo⟩], bD 145 (.c (cB true)), bD 342 (.c (cB true))]) (by kernel_rfl) h
theorem coE16 (row : SV) (c : List D) : SX g 287 (apI [99, 111, 110, 99, 97, 116] [] (.c (cM 7 [[.i 0, .s (S []), .i 0, .i 0, .i 16, .sl 1 [], .sl 1 []], c])) (row)) (oE 16) :=
 sX (fun _ => none) (fun _ => none) (fun _ => none) (T := [aU 200 [⟨_, _, tyCo⟩], aU 279 [⟨_, _, rdCo⟩], bD 145 (.c (cB true)), bD 342 (.c (cB true))]) (cs := []) (by kernel_rfl) trivial
theorem coF16 (row : SV) (s : ByteArray) (h : conj [RgT g s]) : SX g 287 (apI [99, 111, 110, 99, 97, 116] [] (.c (cM 7 [tL s, [.i 0, .s (S []), .i 0, .i 0, .i 16, .sl 1 [], .sl 1 []]])) (row)) (oE 16) :=
 sX (fun _ => none) (fun _ => none) (fun _ => none) (T := [aU 200 [⟨_, _, tyCo⟩], aU 279 [⟨_, _, rdCo⟩], bD 145 (.c (cB true)), bD 342 (.c (cB true))]) (by kernel_rfl) h
theorem coE18 (row : SV) (c : List D) : SX g 287 (apI [99, 111, 110, 99, 97, 116] [] (.c (cM 7 [[.i 0, .s (S []), .i 0, .i 0, .i 18, .sl 1 [], .sl 1 []], c])) (row)) (oE 18) :=
 sX (fun _ => none) (fun _ => none) (fun _ => none) (T := [aU 200 [⟨_, _, tyCo⟩], aU 279 [⟨_, _, rdCo⟩], bD 145 (.c (cB true)), bD 342 (.c (cB true))]) (cs := []) (by kernel_rfl) trivial
theorem aM0 (s : ByteArray) (c : List D) (h : conj [SX g 342 [kK, .c (cM 7 [[.i 1, .s s, .i 0, .i 0, .i 0, .sl 1 [], .sl 1 []], c])] (.c (cB true))]) : SX g 287 (apI [99, 111, 108] [97] (.c (.d nlD)) (.c (cM 7 [[.i 1, .s s, .i 0, .i 0, .i 0, .sl 1 [], .sl 1 []], c]))) (oC s) :=
 sX (fun _ => none) (fun _ => none) (fun _ => none) (T := [aU 200 [⟨_, _, tyCA⟩], aU 279 [⟨_, _, rdCA⟩], bD 145 (.c (cB true)), bD 342 (.c (cB true))]) (by kernel_rfl) h
theorem aM1 (c : List D) (h : conj [SX g 342 [kK, .c (cM 7 [[.i 0, .s (S []), .i 0, .i 0, .i 0, .sl 1 [], .sl 1 []], c])] (.c (cB true))]) : SX g 287 (apI [99, 111, 108] [97] (.c (.d nlD)) (.c (cM 7 [[.i 0, .s (S []), .i 0, .i 0, .i 0, .sl 1 [], .sl 1 []], c]))) (oE 16) :=
 sX (fun _ => none) (fun _ => none) (fun _ => none) (T := [aU 200 [⟨_, _, tyCA⟩], aU 279 [⟨_, _, rdCA⟩], bD 145 (.c (cB true)), bD 342 (.c (cB true))]) (by kernel_rfl) h
theorem colBX (s : ByteArray) (c : List D) (h : conj [SX g 342 [kK, .c (cM 7 [c, [.i 1, .s s, .i 0, .i 0, .i 0, .sl 1 [], .sl 1 []]])] (.c (cB true))]) : SX g 287 (apI [99, 111, 108] [98] (.c (.d nlD)) (.c (cM 7 [c, [.i 1, .s s, .i 0, .i 0, .i 0, .sl 1 [], .sl 1 []]]))) (oC s) :=
 sX (fun _ => none) (fun _ => none) (fun _ => none) (T := [aU 200 [⟨_, _, tyCB⟩], aU 279 [⟨_, _, rdCB⟩], bD 145 (.c (cB true)), bD 342 (.c (cB true))]) (by kernel_rfl) h
theorem colBE (c : List D) (h : conj [SX g 342 [kK, .c (cM 7 [c, [.i 0, .s (S []), .i 0, .i 0, .i 0, .sl 1 [], .sl 1 []]])] (.c (cB true))]) : SX g 287 (apI [99, 111, 108] [98] (.c (.d nlD)) (.c (cM 7 [c, [.i 0, .s (S []), .i 0, .i 0, .i 0, .sl 1 [], .sl 1 []]]))) (oE 16) :=
 sX (fun _ => none) (fun _ => none) (fun _ => none) (T := [aU 200 [⟨_, _, tyCB⟩], aU 279 [⟨_, _, rdCB⟩], bD 145 (.c (cB true)), bD 342 (.c (cB true))]) (by kernel_rfl) h
end Go.Proofs.YtclaplngjmgnoaaGreatDoor
namespace Go.Proofs.YtclaplngjmgnoaaGreatDoor
open Go.RowKit Go.V
variable {g : Gv}
abbrev y18 : SV := .tup [(false, [.d (nlD)]), (false, [cB true])]
theorem ev0T (rest : List (List D)) (row  : D) (u : ByteArray) (h : conj [SX g 287 (apI [99, 111, 108] [97] (.c (.d nlD)) (.c (.d row))) (oL u), SX g 286 [.agg g0C, .c (cM 1 ([.i 0] :: rest))] (y18)]) : SX g 211 (evI (.sl 1 ([.i 0] :: rest)) row) (oL u) :=
 sX (fun _ => none) (fun _ => none) (fun _ => none) (T := [bD 286 (y18), bD 287 (oL u)]) (by kernel_rfl) h
theorem ev0E (rest : List (List D)) (row  : D) (e : Int) (h : conj [SX g 287 (apI [99, 111, 108] [97] (.c (.d nlD)) (.c (.d row))) (oE e), SX g 286 [.agg g0C, .c (cM 1 ([.i 0] :: rest))] (y18)]) : SX g 211 (evI (.sl 1 ([.i 0] :: rest)) row) (oE e) :=
 sX (fun _ => none) (fun _ => none) (fun _ => none) (T := [bD 286 (y18), bD 287 (oE e)]) (by kernel_rfl) h
theorem ev1T (rest : List (List D)) (row  : D) (u : ByteArray) (h : conj [SX g 287 (apI [99, 111, 108] [98] (.c (.d nlD)) (.c (.d row))) (oL u), SX g 286 [.agg g0C, .c (cM 1 ([.i 1] :: rest))] (y18)]) : SX g 211 (evI (.sl 1 ([.i 1] :: rest)) row) (oL u) :=
 sX (fun _ => none) (fun _ => none) (fun _ => none) (T := [bD 286 (y18), bD 287 (oL u)]) (by kernel_rfl) h
theorem ev1E (rest : List (List D)) (row  : D) (e : Int) (h : conj [SX g 287 (apI [99, 111, 108] [98] (.c (.d nlD)) (.c (.d row))) (oE e), SX g 286 [.agg g0C, .c (cM 1 ([.i 1] :: rest))] (y18)]) : SX g 211 (evI (.sl 1 ([.i 1] :: rest)) row) (oE e) :=
 sX (fun _ => none) (fun _ => none) (fun _ => none) (T := [bD 286 (y18), bD 287 (oE e)]) (by kernel_rfl) h
abbrev y19 (a0 : List (List D)) : SV := .tup [(false, [cM 1 a0]), (false, [cB true])]
theorem aML (rest : List (List D)) (row x y : D) (s : ByteArray) (t : ByteArray) (u : ByteArray) (h : conj [SX g 287 (apI [99, 111, 110, 99, 97, 116] [] (.c (cM 7 [tL s, tL t])) (.c (.d row))) (oN u), SX g 211 (evI y row) (oL t), SX g 211 (evI x row) (oL s), SX g 286 [.agg g0C, .c (cM 1 ([.i 2] :: rest))] (y19 [[x], [y]])]) : SX g 211 (evI (.sl 1 ([.i 2] :: rest)) row) (oN u) :=
 sX (fun _ => none) (fun _ => none) (fun _ => none) (T := [bD 286 (y19 [[x], [y]]), bD 287 (oN u), hZ 211 (tlS [(133, oL s), (161, oL t)])]) (by kernel_rfl) h
theorem aIO (rest : List (List D)) (row x y : D) (s : ByteArray) (e : Int) (h : conj [SX g 287 (apI [99, 111, 110, 99, 97, 116] [] (.c (cM 7 [tL s, fL 16])) (.c (.d row))) (oE e), SX g 141 [.c (cI 16)] (oF 16), SX g 211 (evI y row) (oE 16), SX g 211 (evI x row) (oL s), SX g 286 [.agg g0C, .c (cM 1 ([.i 2] :: rest))] (y19 [[x], [y]])]) : SX g 211 (evI (.sl 1 ([.i 2] :: rest)) row) (oE e) :=
 sX (fun _ => none) (fun _ => none) (fun _ => none) (T := [bD 286 (y19 [[x], [y]]), bD 287 (oE e), hZ 211 (tlS [(133, oL s), (161, oE 16)]), bD 141 (oF 16)]) (by kernel_rfl) h
theorem aIQ (rest : List (List D)) (row x y : D) (t : ByteArray) (e : Int) (h : conj [SX g 287 (apI [99, 111, 110, 99, 97, 116] [] (.c (cM 7 [fL 16, tL t])) (.c (.d row))) (oE e), SX g 211 (evI y row) (oL t), SX g 141 [.c (cI 16)] (oF 16), SX g 211 (evI x row) (oE 16), SX g 286 [.agg g0C, .c (cM 1 ([.i 2] :: rest))] (y19 [[x], [y]])]) : SX g 211 (evI (.sl 1 ([.i 2] :: rest)) row) (oE e) :=
 sX (fun _ => none) (fun _ => none) (fun _ => none) (T := [bD 286 (y19 [[x], [y]]), bD 287 (oE e), hZ 211 (tlS [(133, oE 16), (164, oL t)]), bD 141 (oF 16)]) (by kernel_rfl) h
theorem aD2 (rest : List (List D)) (row x y : D) (e : Int) (h : conj [SX g 287 (apI [99, 111, 110, 99, 97, 116] [] (.c (cM 7 [fL 16, fL 16])) (.c (.d row))) (oE e), SX g 141 [.c (cI 16)] (oF 16), SX g 211 (evI y row) (oE 16), SX g 141 [.c (cI 16)] (oF 16), SX g 211 (evI x row) (oE 16), SX g 286 [.agg g0C, .c (cM 1 ([.i 2] :: rest))] (y19 [[x], [y]])]) : SX g 211 (evI (.sl 1 ([.i 2] :: rest)) row) (oE e) :=
 sX (fun _ => none) (fun _ => none) (fun _ => none) (T := [bD 286 (y19 [[x], [y]]), bD 287 (oE e), hZ 211 (tlS [(133, oE 16), (164, oE 16)]), bD 141 (oF 16)]) (by kernel_rfl) h
theorem aIP (rest : List (List D)) (row x y : D) (t : ByteArray) (e : Int) (h : conj [SX g 287 (apI [99, 111, 110, 99, 97, 116] [] (.c (cM 7 [fL 18, tL t])) (.c (.d row))) (oE e), SX g 211 (evI y row) (oL t), SX g 141 [.c (cI 18)] (oF 18), SX g 211 (evI x row) (oE 18), SX g 286 [.agg g0C, .c (cM 1 ([.i 2] :: rest))] (y19 [[x], [y]])]) : SX g 211 (evI (.sl 1 ([.i 2] :: rest)) row) (oE e) :=
 sX (fun _ => none) (fun _ => none) (fun _ => none) (T := [bD 286 (y19 [[x], [y]]), bD 287 (oE e), hZ 211 (tlS [(133, oE 18), (164, oL t)]), bD 141 (oF 18)]) (by kernel_rfl) h
theorem aD1 (rest : List (List D)) (row x y : D) (e : Int) (h : conj [SX g 287 (apI [99, 111, 110, 99, 97, 116] [] (.c (cM 7 [fL 18, fL 16])) (.c (.d row))) (oE e), SX g 141 [.c (cI 16)] (oF 16), SX g 211 (evI y row) (oE 16), SX g 141 [.c (cI 18)] (oF 18), SX g 211 (evI x row) (oE 18), SX g 286 [.agg g0C, .c (cM 1 ([.i 2] :: rest))] (y19 [[x], [y]])]) : SX g 211 (evI (.sl 1 ([.i 2] :: rest)) row) (oE e) :=
 sX (fun _ => none) (fun _ => none) (fun _ => none) (T := [bD 286 (y19 [[x], [y]]), bD 287 (oE e), hZ 211 (tlS [(133, oE 18), (164, oE 16)]), hZ 141 (tlS [(143, oF 18), (174, oF 16)])]) (by kernel_rfl) h
theorem ev3_TT (rest : List (List D)) (row x : D) (s : ByteArray) (u : ByteArray) (h : conj [SX g 287 (apI [117, 112, 112, 101, 114] [] (.c (cM 7 [tL s])) (.c (.d row))) (oN u), SX g 211 (evI x row) (oL s), SX g 286 [.agg g0C, .c (cM 1 ([.i 3] :: rest))] (y19 [[x]])]) : SX g 211 (evI (.sl 1 ([.i 3] :: rest)) row) (oN u) :=
 sX (fun _ => none) (fun _ => none) (fun _ => none) (T := [bD 286 (y19 [[x]]), bD 287 (oN u), hZ 211 (tlS [(133, oL s)])]) (by kernel_rfl) h
theorem ev3_16E (rest : List (List D)) (row x : D) (e : Int) (h : conj [SX g 287 (apI [117, 112, 112, 101, 114] [] (.c (cM 7 [fL 16])) (.c (.d row))) (oE e), SX g 141 [.c (cI 16)] (oF 16), SX g 211 (evI x row) (oE 16), SX g 286 [.agg g0C, .c (cM 1 ([.i 3] :: rest))] (y19 [[x]])]) : SX g 211 (evI (.sl 1 ([.i 3] :: rest)) row) (oE e) :=
 sX (fun _ => none) (fun _ => none) (fun _ => none) (T := [bD 286 (y19 [[x]]), bD 287 (oE e), hZ 211 (tlS [(133, oE 16)]), bD 141 (oF 16)]) (by kernel_rfl) h
theorem ev3_18E (rest : List (List D)) (row x : D) (e : Int) (h : conj [SX g 287 (apI [117, 112, 112, 101, 114] [] (.c (cM 7 [fL 18])) (.c (.d row))) (oE e), SX g 141 [.c (cI 18)] (oF 18), SX g 211 (evI x row) (oE 18), SX g 286 [.agg g0C, .c (cM 1 ([.i 3] :: rest))] (y19 [[x]])]) : SX g 211 (evI (.sl 1 ([.i 3] :: rest)) row) (oE e) :=
 sX (fun _ => none) (fun _ => none) (fun _ => none) (T := [bD 286 (y19 [[x]]), bD 287 (oE e), hZ 211 (tlS [(133, oE 18)]), bD 141 (oF 18)]) (by kernel_rfl) h
theorem ev4T (rest : List (List D)) (row  : D) (u : ByteArray) (h : conj [SX g 287 (apI [99, 111, 108] [97] (.c (.d nlD)) (.c (.d row))) (oL u), SX g 286 [.agg g0C, .c (cM 1 ([.i 4] :: rest))] (y18)]) : SX g 211 (evI (.sl 1 ([.i 4] :: rest)) row) (oL u) :=
 sX (fun _ => none) (fun _ => none) (fun _ => none) (T := [bD 286 (y18), bD 287 (oL u)]) (by kernel_rfl) h
theorem ev4E (rest : List (List D)) (row  : D) (e : Int) (h : conj [SX g 287 (apI [99, 111, 108] [97] (.c (.d nlD)) (.c (.d row))) (oE e), SX g 286 [.agg g0C, .c (cM 1 ([.i 4] :: rest))] (y18)]) : SX g 211 (evI (.sl 1 ([.i 4] :: rest)) row) (oE e) :=
 sX (fun _ => none) (fun _ => none) (fun _ => none) (T := [bD 286 (y18), bD 287 (oE e)]) (by kernel_rfl) h
theorem ev5T (rest : List (List D)) (row  : D) (u : ByteArray) (h : conj [SX g 287 (apI [116, 101, 120, 116] [45] (.c (.d nlD)) (.c (.d row))) (oL u), SX g 286 [.agg g0C, .c (cM 1 ([.i 5] :: rest))] (y18)]) : SX g 211 (evI (.sl 1 ([.i 5] :: rest)) row) (oL u) :=
 sX (fun _ => none) (fun _ => none) (fun _ => none) (T := [bD 286 (y18), bD 287 (oL u)]) (by kernel_rfl) h
theorem ev6_TT (rest : List (List D)) (row x : D) (s : ByteArray) (u : ByteArray) (h : conj [SX g 287 (apI [101, 120, 116, 114, 97, 99, 116] [92, 100, 43, 35, 49] (.c (cM 7 [tL s])) (.c (.d row))) (oN u), SX g 211 (evI x row) (oL s), SX g 286 [.agg g0C, .c (cM 1 ([.i 6] :: rest))] (y19 [[x]])]) : SX g 211 (evI (.sl 1 ([.i 6] :: rest)) row) (oN u) :=
 sX (fun _ => none) (fun _ => none) (fun _ => none) (T := [bD 286 (y19 [[x]]), bD 287 (oN u), hZ 211 (tlS [(133, oL s)])]) (by kernel_rfl) h
theorem aMJ (rest : List (List D)) (row x : D) (s : ByteArray) (e : Int) (h : conj [SX g 287 (apI [101, 120, 116, 114, 97, 99, 116] [92, 100, 43, 35, 49] (.c (cM 7 [tL s])) (.c (.d row))) (oE e), SX g 211 (evI x row) (oL s), SX g 286 [.agg g0C, .c (cM 1 ([.i 6] :: rest))] (y19 [[x]])]) : SX g 211 (evI (.sl 1 ([.i 6] :: rest)) row) (oE e) :=
 sX (fun _ => none) (fun _ => none) (fun _ => none) (T := [bD 286 (y19 [[x]]), bD 287 (oE e), hZ 211 (tlS [(133, oL s)])]) (by kernel_rfl) h
theorem ev6_16E (rest : List (List D)) (row x : D) (e : Int) (h : conj [SX g 287 (apI [101, 120, 116, 114, 97, 99, 116] [92, 100, 43, 35, 49] (.c (cM 7 [fL 16])) (.c (.d row))) (oE e), SX g 141 [.c (cI 16)] (oF 16), SX g 211 (evI x row) (oE 16), SX g 286 [.agg g0C, .c (cM 1 ([.i 6] :: rest))] (y19 [[x]])]) : SX g 211 (evI (.sl 1 ([.i 6] :: rest)) row) (oE e) :=
 sX (fun _ => none) (fun _ => none) (fun _ => none) (T := [bD 286 (y19 [[x]]), bD 287 (oE e), hZ 211 (tlS [(133, oE 16)]), bD 141 (oF 16)]) (by kernel_rfl) h
end Go.Proofs.YtclaplngjmgnoaaGreatDoor
namespace Go.Proofs.YtclaplngjmgnoaaGreatDoor
open Go.RowKit Go.V
variable {g : Gv}
def SpS (g : Gv) (p : List Int) (ks : List (List Int)) : Prop := SX g 286 [.agg g0C, .c (cM 1 (intsD p))] (y19 (ks.map fun k => [.sl 1 (intsD k)]))
def SpN (g : Gv) (p : List Int) : Prop := SX g 286 [.agg g0C, .c (cM 1 (intsD p))] (.tup [(false, [.d nlD]), (false, [cB true])])
abbrev y20 : SV := .tup [(false, [cI 0]), (false, [cB true])]
def SyS (g : Gv) (p : List Int) : Prop := SX g 209 [.agg g0C, .c (cM 1 (intsD p))] (y20)
def ClS (g : Gv) (p : List Int) : Prop := SX g 210 [.c (cM 1 (intsD p))] (.c (cB true))
theorem spX {p : List Int} {ks : List (List Int)} (lit : Nat → Option Value) (h : vX (P := Tryz.prog) (G := Gl g) [aU 130 [⟨_, _, wK⟩]] [] [] (fun _ => none) lit 100000 60 286 [.agg g0C, .c (cM 1 (intsD p))] (fun _ => none) = some (y19 (ks.map fun k => [.sl 1 (intsD k)]), [])) : SpS g p ks := sX _ _ _ h trivial
theorem snX {p : List Int} (h : vX (P := Tryz.prog) (G := Gl g) [aU 130 [⟨_, _, wK⟩]] [] [] (fun _ => none) (fun _ => none) 100000 60 286 [.agg g0C, .c (cM 1 (intsD p))] (fun _ => none) = some (.tup [(false, [.d nlD]), (false, [cB true])], [])) : SpN g p := sX _ _ _ h trivial
theorem syX {p : List Int} (h : vX (P := Tryz.prog) (G := Gl g) [aU 130 [⟨_, _, wK⟩]] [] [] (fun _ => none) (fun _ => none) 100000 60 209 [.agg g0C, .c (cM 1 (intsD p))] (fun _ => none) = some (y20, [])) : SyS g p := sX _ _ _ h trivial
theorem clX {p : List Int} (h : vX (P := Tryz.prog) (G := Gl g) [] [] [] (fun _ => none) (fun _ => none) 100000 60 210 [.c (cM 1 (intsD p))] (fun _ => none) = some (.c (cB true), [])) : ClS g p := sX _ _ _ h trivial
set_option maxRecDepth 100000
theorem failX16  : SX g 141 [.c (cI 16)] (.agg [cI 0, cS (S []), cI 0, cI 0, cI 16, .d (nlD), .d (nlD)]) :=
 sX (fun _ => none) (fun _ => none) (fun _ => none) (T := []) (cs := []) (by kernel_rfl) trivial
theorem failX18  : SX g 141 [.c (cI 18)] (.agg [cI 0, cS (S []), cI 0, cI 0, cI 18, .d (nlD), .d (nlD)]) :=
 sX (fun _ => none) (fun _ => none) (fun _ => none) (T := []) (cs := []) (by kernel_rfl) trivial
theorem aJ7 : SpN g [0] := snX (by kernel_rfl)
theorem aJ6 : SpN g [1] := snX (by kernel_rfl)
theorem aEM : SpS g [3, 4] [[4]] := spX (fun k => mkL [414, 420] [] k) (by kernel_rfl)
theorem aEL : SpS g [3, 5] [[5]] := spX (fun k => mkL [414, 420] [] k) (by kernel_rfl)
theorem aJ5 : SpS g [2, 4, 0] [[4], [0]] := spX (fun k => mkL [501, 507, 594, 600] [] k) (by kernel_rfl)
theorem aJ4 : SpS g [2, 4, 1] [[4], [1]] := spX (fun k => mkL [501, 507, 594, 600] [] k) (by kernel_rfl)
theorem aJ3 : SpS g [2, 5, 0] [[5], [0]] := spX (fun k => mkL [501, 507, 594, 600] [] k) (by kernel_rfl)
theorem aJ2 : SpS g [2, 5, 1] [[5], [1]] := spX (fun k => mkL [501, 507, 594, 600] [] k) (by kernel_rfl)
theorem zG : SpS g [3, 6, 4] [[6, 4]] := spX (fun k => mkL [588, 594] [] k) (by kernel_rfl)
theorem aJ1 : SpS g [3, 6, 5] [[6, 5]] := spX (fun k => mkL [588, 594] [] k) (by kernel_rfl)
theorem aG2 : SpS g [2, 4, 3, 4] [[4], [3, 4]] := spX (fun k => mkL [588, 594, 768, 774] [] k) (by kernel_rfl)
theorem aG1 : SpS g [2, 4, 3, 5] [[4], [3, 5]] := spX (fun k => mkL [588, 594, 768, 774] [] k) (by kernel_rfl)
theorem aG0 : SpS g [2, 5, 3, 4] [[5], [3, 4]] := spX (fun k => mkL [588, 594, 768, 774] [] k) (by kernel_rfl)
theorem aGZ : SpS g [2, 5, 3, 5] [[5], [3, 5]] := spX (fun k => mkL [588, 594, 768, 774] [] k) (by kernel_rfl)
theorem aGY : SpS g [2, 6, 4, 0] [[6, 4], [0]] := spX (fun k => mkL [675, 681, 768, 774] [] k) (by kernel_rfl)
theorem aGX : SpS g [2, 6, 4, 1] [[6, 4], [1]] := spX (fun k => mkL [675, 681, 768, 774] [] k) (by kernel_rfl)
theorem aGW : SpS g [2, 6, 5, 0] [[6, 5], [0]] := spX (fun k => mkL [675, 681, 768, 774] [] k) (by kernel_rfl)
theorem aGV : SpS g [2, 6, 5, 1] [[6, 5], [1]] := spX (fun k => mkL [675, 681, 768, 774] [] k) (by kernel_rfl)
theorem wC : SpN g [4] := snX (by kernel_rfl)
theorem aJ0 : SpN g [5] := snX (by kernel_rfl)
theorem wB : SpS g [6, 4] [[4]] := spX (fun k => mkL [414, 420] [] k) (by kernel_rfl)
theorem split65 : SpS g [6, 5] [[5]] := spX (fun k => mkL [414, 420] [] k) (by kernel_rfl)
theorem symb0 : SyS g [0] := syX (by kernel_rfl)
theorem clos0 : ClS g [0] := clX (by kernel_rfl)
theorem symb1 : SyS g [1] := syX (by kernel_rfl)
theorem clos1 : ClS g [1] := clX (by kernel_rfl)
theorem symb34 : SyS g [3, 4] := syX (by kernel_rfl)
theorem clos34 : ClS g [3, 4] := clX (by kernel_rfl)
theorem symb35 : SyS g [3, 5] := syX (by kernel_rfl)
theorem clos35 : ClS g [3, 5] := clX (by kernel_rfl)
theorem symb240 : SyS g [2, 4, 0] := syX (by kernel_rfl)
theorem clos240 : ClS g [2, 4, 0] := clX (by kernel_rfl)
theorem symb241 : SyS g [2, 4, 1] := syX (by kernel_rfl)
theorem clos241 : ClS g [2, 4, 1] := clX (by kernel_rfl)
theorem symb250 : SyS g [2, 5, 0] := syX (by kernel_rfl)
theorem clos250 : ClS g [2, 5, 0] := clX (by kernel_rfl)
theorem symb251 : SyS g [2, 5, 1] := syX (by kernel_rfl)
theorem clos251 : ClS g [2, 5, 1] := clX (by kernel_rfl)
theorem symb364 : SyS g [3, 6, 4] := syX (by kernel_rfl)
theorem clos364 : ClS g [3, 6, 4] := clX (by kernel_rfl)
theorem symb365 : SyS g [3, 6, 5] := syX (by kernel_rfl)
theorem clos365 : ClS g [3, 6, 5] := clX (by kernel_rfl)
theorem aJW : SyS g [2, 4, 3, 4] := syX (by kernel_rfl)
theorem aM9 : ClS g [2, 4, 3, 4] := clX (by kernel_rfl)
theorem aJV : SyS g [2, 4, 3, 5] := syX (by kernel_rfl)
theorem aM8 : ClS g [2, 4, 3, 5] := clX (by kernel_rfl)
theorem aJU : SyS g [2, 5, 3, 4] := syX (by kernel_rfl)
theorem aM7 : ClS g [2, 5, 3, 4] := clX (by kernel_rfl)
theorem aJT : SyS g [2, 5, 3, 5] := syX (by kernel_rfl)
theorem aM6 : ClS g [2, 5, 3, 5] := clX (by kernel_rfl)
theorem aJS : SyS g [2, 6, 4, 0] := syX (by kernel_rfl)
theorem aM5 : ClS g [2, 6, 4, 0] := clX (by kernel_rfl)
theorem aJR : SyS g [2, 6, 4, 1] := syX (by kernel_rfl)
theorem aM4 : ClS g [2, 6, 4, 1] := clX (by kernel_rfl)
theorem aJQ : SyS g [2, 6, 5, 0] := syX (by kernel_rfl)
theorem aM3 : ClS g [2, 6, 5, 0] := clX (by kernel_rfl)
theorem aJP : SyS g [2, 6, 5, 1] := syX (by kernel_rfl)
theorem aM2 : ClS g [2, 6, 5, 1] := clX (by kernel_rfl)
end Go.Proofs.YtclaplngjmgnoaaGreatDoor
