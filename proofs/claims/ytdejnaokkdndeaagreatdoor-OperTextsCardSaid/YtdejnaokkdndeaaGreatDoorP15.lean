/- Part 15 of the proof: texts W10y. -/
import Derived.Test.YtdejnaokkdndeaaGreatDoorP14
import Derived.MapKept
set_option linter.all false
namespace Go.V
open Go.RowKit
def aE7 (lk : Lk) : List Operand → Option (List (Nat × Nat))
 | [] => some []
 | x :: r => match lk [] x, aE7 lk r with
  | some (.c (.bx i off)), some l => some ((i, off) :: l)
  | _, _ => none
def mfE (lk : Lk) (fn : Fn) (first cap : Array Operand) : Option Eff := match fn with
 | .func f => match aE7 lk first.toList, aE7 lk cap.toList with
  | some l, some m => if l.isEmpty && m.isEmpty then none else some ⟨.c (.fn f l m), [], [], []⟩
  | _, _ => none
 | _ => none
section
variable {P : Program} {fr : Fr} {own : Own} {a : Act} {w w' : World} {pl : Pl} {o : Oper} {p : Path} {lk : Lk}
theorem vI (hl : aO a w pl own p lk) (hp : Eng.Holds a p) : ∀ {xs : List Operand} {l : List (Nat × Nat)}, aE7 lk xs = some l → (∀ x ∈ l, ∃ ty cs, own x.1 = some (.box ty cs)) ∧ xs.map a.eval = l.map (adV pl)
 | [], l, h => by simp only [aE7, Option.some.injEq] at h; subst h; simp
 | x :: r, l, h => by
  simp only [aE7] at h
  split at h
  rename_i i off l' hx hl'
  simp only [Option.some.injEq] at h; subst h
  obtain ⟨h1, h2⟩ := hl [] x _ hx holds_nil hp
  obtain ⟨h3, h4⟩ := vI hl hp hl'
  refine ⟨fun y hy => ?_, by simp [h2, h4, adV]⟩
  rcases List.mem_cons.1 hy with rfl | hy
  exact h1
  exact h3 y hy
  cases h
theorem mfE_ok (m : Mem fr own w pl) (hl : aO a w pl own p lk) (hp : Eng.Holds a p) {fn : Fn} {first cap : Array Operand} (hop : o.op = .makeFunc fn first cap) {e : Eff} (h : mfE lk fn first cap = some e) : Does P fr own a w pl o e := by
 unfold mfE at h
 split at h
 rename_i f
 split at h
 rename_i l c hf hc
 split at h
 cases h
 simp only [Option.some.injEq] at h
 subst h
 obtain ⟨h1, h2⟩ := vI hl hp hf
 obtain ⟨h3, h4⟩ := vI hl hp hc
 refine aE (v := .func (.func f) (l.map (adV pl)).toArray (c.map (adV pl)).toArray) m ?_ ⟨fun x hx => ?_, rfl⟩
 unfold execOp
 simp only [hop, Instr.makeFunc]
 have e1 : first.map a.eval = (l.map (adV pl)).toArray := by rw [← h2]; apply Array.ext'; simp
 have e2 : cap.map a.eval = (c.map (adV pl)).toArray := by rw [← h4]; apply Array.ext'; simp
 rw [e1, e2]
 rfl
 rcases List.mem_append.1 hx with hx | hx
 exact h1 x hx
 exact h3 x hx
 cases h
 cases h
end
def oS (agg : Bool) (v : Value) : Value := if agg then .agg #[v] else v
def iR (kd : IntKind) : List (Int × Value) → List Value
 | [] => []
 | x :: r => .int kd x.1 :: x.2 :: iR kd r
def cZ (agg : Bool) (kd : IntKind) : Nat → List (Int × Value) → List MapEntry
 | _, [] => []
 | n, x :: r => { key := .int kd x.1, val := oS agg x.2, born := n } :: cZ agg kd (n + 1) r
theorem eM (agg : Bool) (kd : IntKind) : ∀ (l : List (Int × Value)) (n : Nat), lT agg n (iR kd l) = cZ agg kd n l
 | [], n => rfl
 | x :: r, n => by simp only [iR, lT, cZ, eM agg kd r, oS]
theorem sL (kd : IntKind) : ∀ (l m : List (Int × Value)), iR kd (l ++ m) = iR kd l ++ iR kd m
 | [], m => rfl
 | x :: r, m => by simp [iR, sL kd r m]
theorem sU (agg : Bool) (kd : IntKind) : ∀ (l : List (Int × Value)) (x : Int × Value) (n : Nat), cZ agg kd n (l ++ [x]) = cZ agg kd n l ++ [{ key := .int kd x.1, val := oS agg x.2, born := n + l.length }]
 | [], x, n => rfl
 | y :: r, x, n => by simp [cZ, sU agg kd r x]; omega
theorem mW (agg : Bool) (kd : IntKind) : ∀ (l : List (Int × Value)) (n : Nat), (cZ agg kd n l).length = l.length
 | [], n => rfl
 | y :: r, n => by simp [cZ, mW agg kd r]
theorem mR {u kd : IntKind} {agg : Bool} {k : Int} : ∀ {l : List (Int × Value)} {n i : Nat}, (∀ x ∈ l, k ≠ x.1) → Instr.findNow (.int u) (.int kd k) (cZ agg kd n l) i = some none
 | [], n, i, _ => rfl
 | x :: r, n, i, h => by
  have hne : (k == x.1) = false := by simpa using h x (by simp)
  simp only [cZ, Instr.findNow, Instr.sameNow, if_true, hne]
  exact mR fun y hy => h y (by simp [hy])
theorem aB9 {u kd : IntKind} {agg : Bool} {k : Int} : ∀ {l : List (Int × Value)} {n i j : Nat} {v : Value}, l[j]? = some (k, v) → (∀ i' < j, ∀ x, l[i']? = some x → k ≠ x.1) → Instr.findNow (.int u) (.int kd k) (cZ agg kd n l) i = some (some (i + j, oS agg v))
 | [], n, i, j, v, h, _ => by simp at h
 | x :: r, n, i, 0, v, h, _ => by
  simp only [List.getElem?_cons_zero, Option.some.injEq] at h
  subst h
  simp [cZ, Instr.findNow, Instr.sameNow]
 | x :: r, n, i, j + 1, v, h, hb => by
  have hne : (k == x.1) = false := by simpa using hb 0 (by omega) x rfl
  simp only [cZ, Instr.findNow, Instr.sameNow, if_true, hne]
  have := aB9 (u := u) (kd := kd) (agg := agg) (n := n + 1) (i := i + 1) (l := r) (j := j) (v := v) (by simpa using h) (fun i' hi x hx => hb (i' + 1) (by omega) x (by simpa using hx))
  rw [this]
  congr 3
  omega
def keysOf (kd : IntKind) : List C → Option (List (Int × C))
 | [] => some []
 | .d (.v (.int k n)) :: c :: r => if k = kd then match keysOf kd r with
   | some l => some ((n, c) :: l)
   | none => none
  else none
 | _ => none
section
variable {P : Program} {fr : Fr} {own : Own} {a : Act} {w w' : World} {pl : Pl} {o : Oper} {p : Path} {lk : Lk}
theorem jY {kd : IntKind} : ∀ {cells : List C} {l : List (Int × C)} {vs : List Value}, keysOf kd cells = some l → All2 (COk w pl own) cells vs → ∃ l' : List (Int × Value), vs = iR kd l' ∧ All2 (fun x y => x.1 = y.1 ∧ COk w pl own x.2 y.2) l l'
 | [], l, vs, h, hv => by simp only [keysOf, Option.some.injEq] at h; subst h; exact ⟨[], hv.unnil, All2.nil⟩
 | [c], l, vs, h, hv => by
  unfold keysOf at h
  split at h
  rename_i he; cases he
  rename_i he; cases he
  cases h
 | c0 :: c :: r, l, vs, h, hv => by
  unfold keysOf at h
  split at h
  rename_i he; cases he
  rename_i k n c' r' he
  injection he with e1 e2
  injection e2 with e2 e3
  subst e1; subst e2; subst e3
  split at h
  rename_i hk
  subst hk
  split at h
  rename_i l1 hl1
  simp only [Option.some.injEq] at h
  subst h
  obtain ⟨y, t, rfl, h1, h2⟩ := hv.uncons
  obtain ⟨z, t', rfl, h3, h4⟩ := h2.uncons
  obtain ⟨l', rfl, h5⟩ := jY hl1 h4
  have : y = _ := Rd.exact h1
  subst this
  exact ⟨(n, z) :: l', rfl, All2.cons ⟨rfl, h3⟩ h5⟩
  cases h
  cases h
  cases h
def mmE (P : Program) (ob : Own) (T : TypeId) (nid : Nat) : Option Eff :=
 match P.underlying T, ob nid with
 | some (.map _ et), none => match Eng.isAggB P et with
  | some agg => some ⟨.c (.mp nid), [(nid, .box ⟨.map agg, none⟩ [])], [nid], []⟩
  | none => none
 | _, _ => none
theorem mmE_ok (m : Mem fr own w pl) {T : TypeId} (hop : o.op = .makeMap T none) {ob : Own} {nid : Nat} {e : Eff} (h : mmE P ob T nid = some e) (hob : ∀ i ∈ e.touch, own i = ob i) : Does P fr own a w pl o e := by
 unfold mmE at h
 split at h
 rename_i kt et hu hn
 split at h
 rename_i agg ha
 simp only [Option.some.injEq] at h
 subst h
 intro K Q hK
 obtain ⟨pl', m', L, hb⟩ := m.newBox (i := nid) (by rw [hob nid (by simp), hn]) ⟨.map agg, none⟩ (fun b hb => by cases hb) (cells := []) (vs := []) All2.nil
 have hrun : (execOp a.eval o).run P w = .ok (.value (.map (some w.heap.size))) (w.alloc (BT.obj ⟨.map agg, none⟩ [])) := by
  unfold execOp
  simp only [hop]
  rfl
 unfold Oper.wp
 rw [hrun, Oper.upon_value]
 exact hK _ _ pl' m' L (.inr ⟨⟨_, _, upd_same _ _ _⟩, by rw [hb]⟩)
 cases h
 cases h
def aIZ (agg : Bool) : SV → Option C
 | .c x => if agg then none else some x
 | .agg [x] => if agg then some x else none
 | _ => none
theorem aIY {agg : Bool} {s : SV} {c : C} {v : Value} (h : aIZ agg s = some c) (hv : SvOk w pl own s v) : ∃ u, v = oS agg u ∧ COk w pl own c u := by
 unfold aIZ at h
 split at h
 split at h
 cases h
 rename_i x ha; simp only [Option.some.injEq] at h; subst h; exact ⟨v, by simp [oS, ha], hv⟩
 split at h
 rename_i x ha
 simp only [Option.some.injEq] at h; subst h
 obtain ⟨vs, rfl, h2⟩ := hv
 obtain ⟨y, t, rfl, h3, h4⟩ := h2.uncons
 obtain rfl := h4.unnil
 exact ⟨y, by simp [oS, ha], h3⟩
 cases h
 cases h
def insE (P : Program) (lk : Lk) (ob : Own) (T : TypeId) (m k x : Operand) : Option Eff :=
 match lk [] m, exO lk [] k, lk [] x with
 | some (.c (.mp i)), some (.int kd n), some s => match ob i, P.underlying T with
  | some (.box ⟨.map agg, q⟩ cells), some (.map kt _) => match P.underlying kt, keysOf kd cells, aIZ agg s with
   | some (.int _), some l, some c => if l.all (fun y => !(n == y.1)) then some ⟨.c .any, [(i, .box ⟨.map agg, q⟩ (cells ++ [.d (.v (.int kd n)), c]))], [i], []⟩ else none
   | _, _, _ => none
  | _, _ => none
 | _, _, _ => none
theorem aB7 (m : Mem fr own w pl) (hl : aO a w pl own p lk) (hp : Eng.Holds a p) {T : TypeId} {y k x : Operand} (hop : o.op = .insert T y k x ∨ o.op = .mapUpdate T y k x) (hd : o.dst = none) {ob : Own} {e : Eff} (h : insE P lk ob T y k x = some e) (hob : ∀ i ∈ e.touch, own i = ob i) : Does P fr own a w pl o e := by
 unfold insE at h
 split at h
 rename_i i kd n s hy hk hx
 split at h
 rename_i agg q cells kt et hbx hu
 split at h
 rename_i u l c hkt hkeys hc
 split at h
 rename_i hall
 simp only [Option.some.injEq] at h
 subst h
 have hi : own i = some (.box ⟨.map agg, q⟩ cells) := by rw [hob i (by simp), hbx]
 obtain ⟨_, hv⟩ := hl [] y _ hy holds_nil hp
 have hkv := aQ hl hp holds_nil hk
 obtain ⟨uv, huv, hcu⟩ := aIY hc (hl [] x s hx holds_nil hp)
 obtain ⟨vs, hb, hcells⟩ := m.obj i _ hi
 obtain ⟨l', rfl, hl'⟩ := jY hkeys hcells
 have hne : ∀ z ∈ l', n ≠ z.1 := by
  intro z hz
  obtain ⟨j, hj⟩ := List.getElem?_of_mem hz
  have hlt : j < l.length := by have := hl'.1; have := (List.getElem?_eq_some_iff.1 hj).1; omega
  have h1 := hl'.2 j _ z (List.getElem?_eq_getElem hlt) hj
  have h2 := List.all_eq_true.1 hall _ (List.getElem_mem hlt)
  simp only [Bool.not_eq_true', beq_eq_false_iff_ne] at h2
  rw [← h1.1]; exact h2
 have hb' : w.heap[pl.blk i]? = some (.map (cZ agg kd 0 l').toArray (cZ agg kd 0 l').length) := by
  rw [hb]; simp only [BT.obj, BK.obj, eM]
 intro K Q hK
 obtain ⟨m', L⟩ := m.turnObj (ty' := ⟨.map agg, q⟩) (cells' := cells ++ [.d (.v (.int kd n)), c]) (vs' := iR kd (l' ++ [(n, uv)])) hi rfl (by
  rw [sL]
  exact hcells.append (All2.cons (Rd.v _ rfl) (All2.one hcu)))
 have hobj : (BK.map agg).obj (iR kd (l' ++ [(n, uv)])) = .map ((cZ agg kd 0 l').toArray.push { key := .int kd n, val := oS agg uv, born := (cZ agg kd 0 l').length }) ((cZ agg kd 0 l').length + 1) := by
  simp only [BK.obj, eM, sU, mW]
  congr 1
  apply Array.ext'; simp
  simp [mW]
 have hmu : (Instr.mapUpdate T (.map (some (pl.blk i))) (.int kd n) (oS agg uv)).run P w = .ok () { w with heap := w.heap.setIfInBounds (pl.blk i) ((BK.map agg).obj (iR kd (l' ++ [(n, uv)]))) } := by
  unfold Instr.mapUpdate
  have hck : (Instr.checkKey false 10000 kt (.int kd n)).run P w = .ok () w := by
   unfold Instr.checkKey
   simp [Sem.run_bind, run_underlying hkt, Result.andThen]
  have hfk : (Instr.findKey kt (.int kd n) (cZ agg kd 0 l')).run P w = .ok none w := by
   unfold Instr.findKey
   simp [Sem.run_bind, run_underlying hkt, Result.andThen, mR hne]
  have hgo : (getObj (pl.blk i)).run P w = .ok (.map (cZ agg kd 0 l').toArray (cZ agg kd 0 l').length) w := by simp [getObj, Sem.run, hb']
  have hso : ∀ ob2, (setObj (pl.blk i) ob2).run P w = .ok () { w with heap := w.heap.setIfInBounds (pl.blk i) ob2 } := fun ob2 => by simp [setObj, Sem.run, hb']
  simp only [Sem.run_bind, run_underlying hu, Result.andThen_ok, hgo, hck, hfk]
  rw [hso, hobj]
 have hrun : (execOp a.eval o).run P w = .ok .skip { w with heap := w.heap.setIfInBounds (pl.blk i) ((BK.map agg).obj (iR kd (l' ++ [(n, uv)]))) } := by
  unfold execOp
  rcases hop with hop | hop
  simp only [hop, hv, hkv, huv, Sem.run_bind, hmu, Result.andThen_ok, Sem.run_pure]
  simp only [hop, hv, hkv, huv, Sem.run_bind, hmu, Result.andThen_ok, Sem.run_pure]
 unfold Oper.wp
 rw [hrun, Oper.upon_skip]
 exact hK undef _ pl m' L (.inl hd)
 cases h
 cases h
 cases h
 cases h
def svA (agg : Bool) (c : C) : SV := if agg then .agg [c] else .c c
def lkpE (P : Program) (lk : Lk) (ob : Own) (T : TypeId) (m k : Operand) (ok : Bool) (hint : Hint) : Option Eff :=
 match lk [] m, exO lk [] k with
 | some (.c (.mp i)), some (.int kd n) => match ob i, P.underlying T with
  | some (.box ⟨.map agg, q⟩ cells), some (.map kt et) => match P.underlying kt, keysOf kd cells, hint with
   | some (.int _), some l, .elem [.v (.int _ j)] => match l[j.toNat]? with
    | some x => if (l.take j.toNat).all (fun y => !(x.1 == y.1)) then some ⟨if ok then .tup [(agg, [x.2]), (false, [.d (.v (.bool true))])] else svA agg x.2, [], [i], [n = x.1]⟩ else none
    | none => none
   | some (.int _), some l, .elem [] => match P.info? et with
    | some ti => match ti.zero with
     | some z => match ofV z with
      | some (.c c) => if agg then none else some ⟨if ok then .tup [(false, [c]), (false, [.d (.v (.bool false))])] else .c c, [], [i], [∀ x ∈ l, n ≠ x.1]⟩
      | some (.agg cs) => if agg then some ⟨if ok then .tup [(true, cs), (false, [.d (.v (.bool false))])] else .agg cs, [], [i], [∀ x ∈ l, n ≠ x.1]⟩ else none
      | _ => none
     | none => none
    | none => none
   | _, _, _ => none
  | _, _ => none
 | _, _ => none
theorem o1 {T kt et : TypeId} {u kd : IntKind} {r cl : Nat} {es : List MapEntry} {n : Int} {ok : Bool} {v : Value} {b : Bool} (hu : P.underlying T = some (.map kt et)) (hkt : P.underlying kt = some (.int u)) (hb : w.heap[r]? = some (.map es.toArray cl))
  (hf : (b = true ∧ ∃ j, Instr.findNow (.int u) (.int kd n) es 0 = some (some (j, v))) ∨ (b = false ∧ Instr.findNow (.int u) (.int kd n) es 0 = some none ∧ ∃ ti, P.info? et = some ti ∧ ti.zero = some v)) :
  (Instr.lookup T (.map (some r)) (.int kd n) ok).run P w = .ok (if ok then .tuple #[v, .bool b] else v) w := by
 unfold Instr.lookup
 have hck : ∀ e, (Instr.checkKey e 10000 kt (.int kd n)).run P w = .ok () w := fun e => by
  unfold Instr.checkKey
  simp [Sem.run_bind, run_underlying hkt, Result.andThen]
 have hgo : (getObj r).run P w = .ok (.map es.toArray cl) w := by simp [getObj, Sem.run, hb]
 rcases hf with ⟨rfl, j, hj⟩ | ⟨rfl, hn, ti, hti, hz⟩
 have hfk : (Instr.findKey kt (.int kd n) es).run P w = .ok (some (j, v)) w := by
  unfold Instr.findKey
  simp [Sem.run_bind, run_underlying hkt, Result.andThen, hj]
 simp only [Sem.run_bind, run_underlying hu, Result.andThen_ok, hgo, hck, hfk, Sem.run_pure]
 have hfk : (Instr.findKey kt (.int kd n) es).run P w = .ok none w := by
  unfold Instr.findKey
  simp [Sem.run_bind, run_underlying hkt, Result.andThen, hn]
 have hzv : (zeroValue et).run P w = .ok v w := by simp [zeroValue, typeInfo, hti, hz]
 simp only [Sem.run_bind, run_underlying hu, Result.andThen_ok, hgo, hck, hfk, Sem.run_pure, hzv]
theorem svA_ok {agg : Bool} {c : C} {u : Value} (h : COk w pl own c u) : SvOk w pl own (svA agg c) (oS agg u) := by
 cases agg with
 | true => exact ⟨[u], rfl, All2.one h⟩
 | false => exact h
theorem aGO {agg : Bool} {c : C} {u : Value} (h : COk w pl own c u) : PartOk w pl own (agg, [c]) (oS agg u) := by
 cases agg with
 | true => exact ⟨[u], rfl, All2.one h⟩
 | false => exact h
theorem lkpE_ok (m : Mem fr own w pl) (hl : aO a w pl own p lk) (hp : Eng.Holds a p) {T : TypeId} {y k : Operand} {ok : Bool} (hop : o.op = .lookup T y k ok) {ob : Own} {hint : Hint} {e : Eff} (h : lkpE P lk ob T y k ok hint = some e) (hob : ∀ i ∈ e.touch, own i = ob i) (ho : conj e.obl) : Does P fr own a w pl o e := by
 unfold lkpE at h
 split at h
 rename_i i kd n hy hk
 split at h
 rename_i agg q cells kt et hbx hu
 have hkv := aQ hl hp holds_nil hk
 obtain ⟨_, hv⟩ := hl [] y _ hy holds_nil hp
 have fin : ∀ {s : SV} {v : Value} {t : List Nat} {c : List Obl}, (Instr.lookup T (.map (some (pl.blk i))) (.int kd n) ok).run P w = .ok v w → SvOk w pl own s v → Does P fr own a w pl o ⟨s, [], t, c⟩ := by
  intro s v t c h1 h2
  refine aE m ?_ h2
  unfold execOp
  simp only [hop, hv, hkv, Sem.run_bind, h1, Result.andThen_ok]
  rfl
 split at h
 rename_i _ u l k' j hkt hkeys
 split at h
 rename_i x hx
 split at h
 rename_i hall
 simp only [Option.some.injEq] at h
 subst h
 have hi : own i = some (.box ⟨.map agg, q⟩ cells) := by rw [hob i (by simp), hbx]
 obtain ⟨vs, hb, hcells⟩ := m.obj i _ hi
 obtain ⟨l', rfl, hl'⟩ := jY hkeys hcells
 have hn : n = x.1 := ho
 obtain ⟨z, hz, hz1, hz2⟩ := hl'.get hx
 have hb' : w.heap[pl.blk i]? = some (.map (cZ agg kd 0 l').toArray (cZ agg kd 0 l').length) := by
  rw [hb]; simp only [BT.obj, BK.obj, eM]
 have hfind := aB9 (u := u) (kd := kd) (agg := agg) (k := n) (n := 0) (i := 0) (l := l') (j := j.toNat) (v := z.2) (by rw [hz, hn, hz1]) (fun i' hi' x' hx' => by
  have hlt : i' < l.length := by have := hl'.1; have := (List.getElem?_eq_some_iff.1 hx').1; omega
  have h1 := hl'.2 i' _ x' (List.getElem?_eq_getElem hlt) hx'
  have hmem : l[i'] ∈ l.take j.toNat := List.mem_of_getElem? (i := i') (by rw [List.getElem?_take, if_pos hi', List.getElem?_eq_getElem hlt])
  have h2 := List.all_eq_true.1 hall _ hmem
  simp only [Bool.not_eq_true', beq_eq_false_iff_ne] at h2
  rw [hn, ← h1.1]; exact h2)
 have hrun := o1 (P := P) (ok := ok) (b := true) hu hkt hb' (.inl ⟨rfl, _, hfind⟩)
 refine fin hrun ?_
 cases ok with
 | true => exact ⟨[_, _], rfl, All2.cons (aGO hz2) (All2.one (Rd.v _ rfl))⟩
 | false => exact svA_ok hz2
 cases h
 cases h
 rename_i _ u l hkt hkeys
 split at h
 rename_i ti hti
 split at h
 rename_i z hz
 have body : (∀ x ∈ l, n ≠ x.1) → own i = ob i → (Instr.lookup T (.map (some (pl.blk i))) (.int kd n) ok).run P w = .ok (if ok then .tuple #[z, .bool false] else z) w := by
  intro hne hoi
  have hi : own i = some (.box ⟨.map agg, q⟩ cells) := by rw [hoi, hbx]
  obtain ⟨vs, hb, hcells⟩ := m.obj i _ hi
  obtain ⟨l', rfl, hl'⟩ := jY hkeys hcells
  have hb' : w.heap[pl.blk i]? = some (.map (cZ agg kd 0 l').toArray (cZ agg kd 0 l').length) := by
   rw [hb]; simp only [BT.obj, BK.obj, eM]
  have hne' : ∀ z ∈ l', n ≠ z.1 := by
   intro z hz
   obtain ⟨j, hj⟩ := List.getElem?_of_mem hz
   have hlt : j < l.length := by have := hl'.1; have := (List.getElem?_eq_some_iff.1 hj).1; omega
   have h1 := hl'.2 j _ z (List.getElem?_eq_getElem hlt) hj
   rw [← h1.1]; exact hne _ (List.getElem_mem hlt)
  exact o1 (P := P) (ok := ok) (b := false) hu hkt hb' (.inr ⟨rfl, mR hne', ti, hti, hz⟩)
 split at h
 rename_i c hc
 split at h
 cases h
 simp only [Option.some.injEq] at h
 subst h
 refine fin (body ho (hob i (by simp))) ?_
 have hcv : COk w pl own c z := iD hc
 cases ok with
 | true => exact ⟨[_, _], rfl, All2.cons hcv (All2.one (Rd.v _ rfl))⟩
 | false => exact hcv
 rename_i cs hc
 split at h
 simp only [Option.some.injEq] at h
 subst h
 refine fin (body ho (hob i (by simp))) ?_
 have hcv : SvOk w pl own (.agg cs) z := iD hc
 cases ok with
 | true => exact ⟨[_, _], rfl, All2.cons hcv (All2.one (Rd.v _ rfl))⟩
 | false => exact hcv
 cases h
 cases h
 cases h
 cases h
 cases h
 cases h
 cases h
def opY (P : Program) (lk : Lk) (ob : Own) (o : Oper) (nid : Nat) (hint : Hint) : Option Eff := match o.op with
 | .makeFunc fn first cap => mfE lk fn first cap
 | .makeMap T none => mmE P ob T nid
 | .insert T m k x => match o.dst with
  | none => insE P lk ob T m k x
  | some _ => none
 | .mapUpdate T m k x => match o.dst with
  | none => insE P lk ob T m k x
  | some _ => none
 | .lookup T m k ok => lkpE P lk ob T m k ok hint
 | _ => none
theorem opY_ok (m : Mem fr own w pl) (hl : aO a w pl own p lk) (hp : Eng.Holds a p) {ob : Own} {nid : Nat} {hint : Hint} {e : Eff} (h : opY P lk ob o nid hint = some e) (hob : ∀ i ∈ e.touch, own i = ob i) (ho : conj e.obl) : Does P fr own a w pl o e := by
 unfold opY at h
 split at h
 case h_1 => rename_i hop; exact mfE_ok m hl hp hop h
 case h_2 => rename_i hop; exact mmE_ok m hop h hob
 case h_3 =>
  rename_i hop
  split at h
  ·rename_i hd; exact aB7 m hl hp (.inl hop) hd h hob
  ·cases h
 case h_4 =>
  rename_i hop
  split at h
  ·rename_i hd; exact aB7 m hl hp (.inr hop) hd h hob
  ·cases h
 case h_5 => rename_i hop; exact lkpE_ok m hl hp hop h hob ho
 case h_6 => cases h
end
end Go.V
