/- Part 17 of the proof: texts W10m. -/
import Derived.Test.YtdejnaokkdndeaaGreatDoorP15
import Derived.Test.YtdejnaokkdndeaaGreatDoorP16
import Derived.Maps.RangeRun
set_option linter.all false
namespace Go.V
open Go.RowKit
section
variable {α β : Type} [DecidableEq α]
def lkM (k : α) : List (α × β) → Option β
 | [] => none
 | x :: r => if x.1 = k then some x.2 else lkM k r
def oD (k : α) (v : β) : List (α × β) → List (α × β)
 | [] => [(k, v)]
 | x :: r => if x.1 = k then (k, v) :: r else x :: oD k v r
def insK (lt : α → α → Bool) (k : α) (v : β) : List (α × β) → List (α × β)
 | [] => [(k, v)]
 | x :: r => if lt k x.1 then (k, v) :: x :: r else x :: insK lt k v r
def tK (lt : α → α → Bool) (k : α) (v : β) (es : List (α × β)) : List (α × β) :=
 if (lkM k es).isSome then es.map fun x => if x.1 = k then (k, v) else x else insK lt k v es
theorem pX {k : α} : ∀ {es : List (α × β)}, lkM k es = none → ∀ x ∈ es, x.1 ≠ k
 | [], _, x, hx => by cases hx
 | y :: r, h, x, hx => by
  simp only [lkM] at h
  split at h
  cases h
  rename_i hy
  rcases List.mem_cons.1 hx with rfl | hx
  exact hy
  exact pX h x hx
theorem uL {k : α} {v : β} : ∀ {es : List (α × β)}, lkM k es = some v → (k, v) ∈ es
 | [], h => by cases h
 | y :: r, h => by
  simp only [lkM] at h
  split at h
  rename_i hy
  injection h with h
  subst hy; subst h
  exact List.mem_cons_self
  exact List.mem_cons_of_mem _ (uL h)
theorem pW {k : α} {v : β} : ∀ {es : List (α × β)}, (es.map (·.1)).Nodup → (k, v) ∈ es → lkM k es = some v
 | [], _, h => by cases h
 | y :: r, hn, h => by
  simp only [List.map_cons, List.nodup_cons] at hn
  simp only [lkM]
  rcases List.mem_cons.1 h with rfl | h
  ·simp
  ·have : y.1 ≠ k := fun e => hn.1 (by rw [e]; exact List.mem_map_of_mem (f := (·.1)) h)
   rw [if_neg this]; exact pW hn.2 h
theorem w6 {es es0 : List (α × β)} (hp : es0.Perm es) (hn : (es.map (·.1)).Nodup) (k : α) : lkM k es0 = lkM k es := by
 have hn0 : (es0.map (·.1)).Nodup := (hp.map (·.1)).nodup_iff.2 hn
 cases h : lkM k es with
 | none =>
  cases h0 : lkM k es0 with
  | none => rfl
  | some v => exact absurd rfl (pX h _ (hp.mem_iff.1 (uL h0)))
 | some v => exact pW hn0 (hp.mem_iff.2 (uL h))
theorem mN (lt : α → α → Bool) (k : α) (v : β) : ∀ es : List (α × β), (insK lt k v es).Perm ((k, v) :: es)
 | [] => List.Perm.refl _
 | x :: r => by
  simp only [insK]
  split
  ·exact List.Perm.refl _
  ·exact ((mN lt k v r).cons x).trans (List.Perm.swap _ _ _)
theorem rU {k : α} {v : β} : ∀ {es : List (α × β)}, lkM k es = none → oD k v es = es ++ [(k, v)]
 | [], _ => rfl
 | y :: r, h => by
  simp only [lkM] at h
  split at h
  cases h
  rename_i hy; simp only [oD, if_neg hy, rU h]; rfl
theorem rT {k : α} {v : β} : ∀ {es : List (α × β)}, (es.map (·.1)).Nodup → (lkM k es).isSome = true → oD k v es = es.map fun x => if x.1 = k then (k, v) else x
 | [], _, h => by simp [lkM] at h
 | y :: r, hn, h => by
  simp only [List.map_cons, List.nodup_cons] at hn
  simp only [oD, List.map_cons]
  by_cases hy : y.1 = k
  ·rw [if_pos hy, if_pos hy]
   congr 1
   have : r.map (fun x => if x.1 = k then (k, v) else x) = r.map id := List.map_congr_left fun x hx => by
    rw [if_neg]; rfl
    intro e; exact hn.1 (by rw [hy, ← e]; exact List.mem_map_of_mem (f := (·.1)) hx)
   rw [this, List.map_id]
  ·rw [if_neg hy, if_neg hy]
   congr 1
   refine rT hn.2 ?_
   simpa [lkM, hy] using h
theorem aFD (lt : α → α → Bool) {es es0 : List (α × β)} (hp : es0.Perm es) (hn : (es.map (·.1)).Nodup) (k : α) (v : β) : (oD k v es0).Perm (tK lt k v es) := by
 have hl := w6 hp hn k
 have hn0 : (es0.map (·.1)).Nodup := (hp.map (·.1)).nodup_iff.2 hn
 unfold tK
 cases h : lkM k es with
 | none =>
  rw [h] at hl
  rw [rU hl, if_neg (by simp)]
  exact (List.perm_append_singleton _ _).trans ((hp.cons _).trans (mN lt k v es).symm)
 | some x =>
  rw [h] at hl
  rw [rT hn0 (by rw [hl]; rfl), if_pos (by simp)]
  exact hp.map _
theorem aC5 (lt : α → α → Bool) {es : List (α × β)} (hn : (es.map (·.1)).Nodup) (k : α) (v : β) : ((tK lt k v es).map (·.1)).Nodup := by
 unfold tK
 cases h : lkM k es with
 | none =>
  rw [if_neg (by simp)]
  refine (((mN lt k v es).map (·.1)).nodup_iff).2 ?_
  simp only [List.map_cons, List.nodup_cons]
  refine ⟨fun hm => ?_, hn⟩
  obtain ⟨x, hx, he⟩ := List.mem_map.1 hm
  exact pX h x hx he
 | some x =>
  rw [if_pos (by simp), List.map_map]
  have : ((·.1) ∘ fun x : α × β => if x.1 = k then (k, v) else x) = (·.1) := by
   funext y
   simp only [Function.comp]
   split
   ·rename_i h; exact h.symm
   ·rfl
  rw [this]; exact hn
theorem nS {γ δ : Type} (f : γ → δ) {l : List δ} {es : List γ} (h : l.Perm (es.map f)) : ∃ es0 : List γ, es0.Perm es ∧ l = es0.map f := by
 generalize hm : es.map f = m at h
 induction h generalizing es with
 | nil => exact ⟨[], by rw [List.map_eq_nil_iff.1 hm], rfl⟩
 | cons x _ ih =>
  cases es with
  | nil => cases hm
  | cons y r =>
   simp only [List.map_cons, List.cons.injEq] at hm
   obtain ⟨rfl, hm⟩ := hm
   obtain ⟨e0, h1, h2⟩ := ih hm
   exact ⟨y :: e0, h1.cons y, by rw [h2]; rfl⟩
 | swap x y l =>
  cases es with
  | nil => cases hm
  | cons a r =>
   cases r with
   | nil => simp at hm
   | cons b r =>
    simp only [List.map_cons, List.cons.injEq] at hm
    obtain ⟨rfl, rfl, rfl⟩ := hm
    exact ⟨b :: a :: r, List.Perm.swap _ _ _, rfl⟩
 | trans _ _ ih1 ih2 =>
  obtain ⟨e1, h1, rfl⟩ := ih2 hm
  obtain ⟨e0, h2, rfl⟩ := ih1 rfl
  exact ⟨e0, h2.trans h1, rfl⟩
def enM (enc : α → Value) (encv : β → Value) (es : List (α × β)) : List (Value × Value) := es.map fun x => (enc x.1, encv x.2)
theorem aAQ {enc : α → Value} {encv : β → Value} {kd : TypeDesc} (hs : ∀ a b, Instr.sameNow kd (enc a) (enc b) = some (decide (a = b))) (k : α) : ∀ (es : List (α × β)) (l : List MapEntry) (i : Nat), l.map (fun e => (e.key, e.val)) = enM enc encv es →
  (∃ j v, lkM k es = some v ∧ Instr.findNow kd (enc k) l i = some (some (i + j, encv v)) ∧ (l[j]?).map (·.key) = some (enc k) ∧ ∀ x, (l.modify j fun e => { e with key := enc k, val := encv x }).map (fun e => (e.key, e.val)) = enM enc encv (oD k x es)) ∨
  (lkM k es = none ∧ Instr.findNow kd (enc k) l i = some none ∧ ∀ x, oD k x es = es ++ [(k, x)])
 | [], l, i, h => by
  have : l = [] := by simpa [enM] using h
  subst this
  exact .inr ⟨rfl, rfl, fun x => rfl⟩
 | x :: r, [], i, h => by simp [enM] at h
 | x :: r, e :: l, i, h => by
  simp only [enM, List.map_cons, List.cons.injEq, Prod.mk.injEq] at h
  obtain ⟨⟨h1, h2⟩, h3⟩ := h
  by_cases hk : x.1 = k
  ·refine .inl ⟨0, x.2, by simp [lkM, hk], ?_, ?_, fun y => ?_⟩
   ·simp only [Instr.findNow, h1, hs, h2, hk]; simp
   ·simp [h1, hk]
   ·simp only [List.modify_zero_cons, List.map_cons, oD, hk, if_true, enM, h3]
  ·have hk' : ¬ k = x.1 := fun h => hk h.symm
   rcases aAQ hs k r l (i + 1) h3 with ⟨j, v, a1, a2, a3, a4⟩ | ⟨a1, a2, a3⟩
   ·refine .inl ⟨j + 1, v, by simp [lkM, hk, a1], ?_, by simpa using a3, fun y => ?_⟩
    ·simp only [Instr.findNow, h1, hs, hk', decide_false]
     rw [a2]; congr 3; omega
    ·simp only [List.modify_succ_cons, List.map_cons, a4 y, h1, h2]
     simp [enM, oD, hk]
   ·refine .inr ⟨by simp [lkM, hk, a1], ?_, fun y => ?_⟩
    ·simp only [Instr.findNow, h1, hs, hk', decide_false]
     exact a2
    ·simp [oD, hk, a3 y]
variable {P : Program} {w : World} {enc : α → Value} {encv : β → Value} {kd : TypeDesc} {T kt et : TypeId} {b : Nat} {ents : Array MapEntry} {clock : Nat} {es : List (α × β)}
theorem lS (l : List MapEntry) (j : Nat) (k v : Value) : (l.modify j fun e => { e with key := k, val := v }).map (·.born) = l.map (·.born) := by
 induction l generalizing j with
 | nil => simp
 | cons e l ih =>
  cases j with
  | zero => rfl
  | succ j => simp [ih]
theorem vZ (lt : α → α → Bool) (hin : ∀ a b, enc a = enc b → a = b) (hs : ∀ a b, Instr.sameNow kd (enc a) (enc b) = some (decide (a = b))) (hsb : ∀ a, Instr.sameBits 10000 (enc a) (enc a) = true) (hck : ∀ a, (Instr.checkKey false 10000 kt (enc a)).run P w = .ok () w)
  (hu : P.underlying T = some (.map kt et)) (hkt : P.underlying kt = some kd) (hb : w.heap[b]? = some (.map ents clock)) (hM : MapIs (enM enc encv es) ents clock) (k : α) (v : β) :
  ∃ ents' clock', (Instr.mapUpdate T (.map (some b)) (enc k) (encv v)).run P w = .ok () { w with heap := w.heap.setIfInBounds b (.map ents' clock') } ∧ MapIs (enM enc encv (tK lt k v es)) ents' clock' := by
 obtain ⟨es0, hp, hkv⟩ := nS _ hM.kv
 have hkn : (es.map (·.1)).Nodup := by
  have := hM.kn
  unfold enM at this
  rw [List.map_map] at this
  have e : ((·.1) ∘ fun x : α × β => (enc x.1, encv x.2)) = enc ∘ (·.1) := rfl
  rw [e, ← List.map_map] at this
  exact (List.pairwise_map.1 this).imp fun h e => h (by rw [e])
 have fin : ∀ {l : List (Value × Value)}, l = enM enc encv (oD k v es0) → l.Perm (enM enc encv (tK lt k v es)) := fun h => by rw [h]; exact (aFD lt hp hkn k v).map _
 have hkn2 : ((enM enc encv (tK lt k v es)).map (·.1)).Nodup := by
  unfold enM
  rw [List.map_map]
  have e : ((·.1) ∘ fun x : α × β => (enc x.1, encv x.2)) = enc ∘ (·.1) := rfl
  rw [e, ← List.map_map]
  exact List.pairwise_map.2 ((aC5 lt hkn k v).imp fun hne e => hne (hin _ _ e))
 have hgo : (getObj b).run P w = .ok (.map ents clock) w := by simp [getObj, Sem.run, hb]
 have hso : ∀ ob2, (setObj b ob2).run P w = .ok () { w with heap := w.heap.setIfInBounds b ob2 } := fun ob2 => by simp [setObj, Sem.run, hb]
 rcases aAQ hs k es0 ents.toList 0 hkv with ⟨j, v0, a1, a2, a3, a4⟩ | ⟨a1, a2, a3⟩
 ·refine ⟨ents.modify j fun e => { e with key := enc k, val := encv v }, clock, ?_, ?_⟩
  ·unfold Instr.mapUpdate
   have hfk : (Instr.findKey kt (enc k) ents.toList).run P w = .ok (some (j, encv v0)) w := by
    unfold Instr.findKey
    simp only [Nat.zero_add] at a2
    simp [Sem.run_bind, run_underlying hkt, Result.andThen, a2]
   have hkey : ((ents[j]?).map (·.key)).getD (enc k) = enc k := by
    have : ents[j]? = ents.toList[j]? := by simp
    rw [this, a3]; rfl
   have hst : (Instr.keyThatStays (enc k) (enc k)).run P w = .ok (enc k) w := by
    unfold Instr.keyThatStays
    rw [if_pos (hsb k)]; rfl
   simp only [Sem.run_bind, run_underlying hu, Result.andThen_ok, hgo, hck, hfk, hkey, hst]
   rw [hso]
  ·refine ⟨?_, hkn2, ?_, ?_⟩
   ·rw [Array.toList_modify]; exact fin (a4 v)
   ·rw [Array.toList_modify, lS]; exact hM.nd
   ·intro e he
    have hm : e.born ∈ (ents.modify j fun e => { e with key := enc k, val := encv v }).toList.map (·.born) := List.mem_map_of_mem he
    rw [Array.toList_modify, lS] at hm
    obtain ⟨e', he', hee⟩ := List.mem_map.1 hm
    rw [← hee]; exact hM.lt e' he'
 ·refine ⟨ents.push { key := enc k, val := encv v, born := clock }, clock + 1, ?_, ?_⟩
  ·unfold Instr.mapUpdate
   have hfk : (Instr.findKey kt (enc k) ents.toList).run P w = .ok none w := by
    unfold Instr.findKey
    simp [Sem.run_bind, run_underlying hkt, Result.andThen, a2]
   simp only [Sem.run_bind, run_underlying hu, Result.andThen_ok, hgo, hck, hfk]
   rw [hso]
  ·refine ⟨?_, hkn2, ?_, ?_⟩
   ·refine fin ?_
    rw [Array.toList_push, List.map_append, hkv, a3 v]; simp [enM]
   ·rw [Array.toList_push, List.map_append]
    refine List.nodup_append.2 ⟨hM.nd, by simp, ?_⟩
    intro x hx y hy
    obtain ⟨e, he, rfl⟩ := List.mem_map.1 hx
    simp only [List.map_cons, List.map_nil, List.mem_singleton] at hy
    subst hy
    exact Nat.ne_of_lt (hM.lt e he)
   ·intro e he
    rw [Array.toList_push] at he
    rcases List.mem_append.1 he with he | he
    ·exact Nat.lt_succ_of_lt (hM.lt e he)
    ·simp only [List.mem_singleton] at he; subst he; exact Nat.lt_succ_self _
theorem aBL (hin : ∀ a b, enc a = enc b → a = b) (hs : ∀ a b, Instr.sameNow kd (enc a) (enc b) = some (decide (a = b))) (hck : ∀ e a, (Instr.checkKey e 10000 kt (enc a)).run P w = .ok () w)
  (hu : P.underlying T = some (.map kt et)) (hkt : P.underlying kt = some kd) (hb : w.heap[b]? = some (.map ents clock)) (hM : MapIs (enM enc encv es) ents clock) (k : α) {z : β} {ti : TypeInfo} (hti : P.info? et = some ti) (hz : ti.zero = some (encv z)) (ok : Bool) :
  (Instr.lookup T (.map (some b)) (enc k) ok).run P w = .ok (if ok then .tuple #[encv ((lkM k es).getD z), .bool (lkM k es).isSome] else encv ((lkM k es).getD z)) w := by
 unfold Instr.lookup
 have hgo : (getObj b).run P w = .ok (.map ents clock) w := by simp [getObj, Sem.run, hb]
 obtain ⟨es0, hp, hkv⟩ := nS _ hM.kv
 have hkn : (es.map (·.1)).Nodup := by
  have := hM.kn
  unfold enM at this
  rw [List.map_map] at this
  have e : ((·.1) ∘ fun x : α × β => (enc x.1, encv x.2)) = enc ∘ (·.1) := rfl
  rw [e, ← List.map_map] at this
  exact (List.pairwise_map.1 this).imp fun h e => h (by rw [e])
 rw [← w6 hp hkn k]
 rcases aAQ hs k es0 ents.toList 0 hkv with ⟨j, v0, a1, a2, a3, a4⟩ | ⟨a1, a2, a3⟩
 ·have hfk : (Instr.findKey kt (enc k) ents.toList).run P w = .ok (some (j, encv v0)) w := by
   unfold Instr.findKey
   simp only [Nat.zero_add] at a2
   simp [Sem.run_bind, run_underlying hkt, Result.andThen, a2]
  simp only [Sem.run_bind, run_underlying hu, Result.andThen_ok, hgo, hck, hfk, Sem.run_pure, a1]
  rfl
 ·have hfk : (Instr.findKey kt (enc k) ents.toList).run P w = .ok none w := by
   unfold Instr.findKey
   simp [Sem.run_bind, run_underlying hkt, Result.andThen, a2]
  have hzv : (zeroValue et).run P w = .ok (encv z) w := by simp [zeroValue, typeInfo, hti, hz]
  simp only [Sem.run_bind, run_underlying hu, Result.andThen_ok, hgo, hck, hfk, Sem.run_pure, hzv, a1]
  rfl
end
def encS (t : List UInt8) : Value := .string ⟨t.toArray⟩
def encI (n : Int) : Value := .int .i64 n
theorem aCD (s : ByteArray) : encS s.data.toList = .string s := by unfold encS; congr 1
theorem bytes_beq (a b : List UInt8) : ((⟨a.toArray⟩ : ByteArray) == ⟨b.toArray⟩) = decide (a = b) := by
 have : ((⟨a.toArray⟩ : ByteArray) == ⟨b.toArray⟩) = (a.toArray == b.toArray) := rfl
 rw [this, Bool.eq_iff_iff]; simp
theorem sV (a b : List UInt8) : Instr.sameNow .string (encS a) (encS b) = some (decide (a = b)) := by
 simp only [encS, Instr.sameNow, bytes_beq]
theorem sW (u : IntKind) (a b : Int) : Instr.sameNow (.int u) (encI a) (encI b) = some (decide (a = b)) := by
 simp only [encI, Instr.sameNow, if_true, Option.some.injEq]
 rw [Bool.eq_iff_iff]
 simp
theorem xL (a b : List UInt8) (h : encS a = encS b) : a = b := by
 unfold encS at h
 injection h with h
 injection h with h
 simpa using congrArg Array.toList h
theorem xM (a b : Int) (h : encI a = encI b) : a = b := by
 unfold encI at h
 injection h
def ltS (a b : List UInt8) : Bool := decide (a < b)
def ltI (a b : Int) : Bool := decide (a < b)
theorem aEN (a : List UInt8) : Instr.sameBits 10000 (encS a) (encS a) = true := by simp [encS, Instr.sameBits, bytes_beq]
theorem aEO (a : Int) : Instr.sameBits 10000 (encI a) (encI a) = true := by simp [encI, Instr.sameBits]
section
variable {P : Program} {fr : Fr} {own : Own} {a : Act} {w w' : World} {pl : Pl} {o : Oper} {p : Path} {lk : Lk}
theorem aCL {kt : TypeId} (hk : P.underlying kt = some .string) (e : Bool) (a : List UInt8) : (Instr.checkKey e 10000 kt (encS a)).run P w = .ok () w := by
 unfold Instr.checkKey encS
 simp [Sem.run_bind, run_underlying hk, Result.andThen]
theorem aCM {kt : TypeId} {u : IntKind} (hk : P.underlying kt = some (.int u)) (e : Bool) (a : Int) : (Instr.checkKey e 10000 kt (encI a)).run P w = .ok () w := by
 unfold Instr.checkKey encI
 simp [Sem.run_bind, run_underlying hk, Result.andThen]
def mmM (P : Program) (ob : Own) (T : TypeId) (nid : Nat) (hint : Hint) : Option Eff := match hint, P.underlying T, ob nid with
 | .mask _, some (.map kt et), none => match P.underlying kt, P.underlying et with
  | some .string, some .bool => some ⟨.c (.mp nid), [(nid, .box ⟨.mpb [], none⟩ [])], [nid], []⟩
  | some (.int _), some (.int _) => some ⟨.c (.mp nid), [(nid, .box ⟨.mpi [], none⟩ [])], [nid], []⟩
  | _, _ => none
 | _, _, _ => none
theorem mmM_ok (m : Mem fr own w pl) {T : TypeId} (hop : o.op = .makeMap T none) {ob : Own} {nid : Nat} {hint : Hint} {e : Eff} (h : mmM P ob T nid hint = some e) (hob : ∀ i ∈ e.touch, own i = ob i) : Does P fr own a w pl o e := by
 have go : ∀ {kt et : TypeId} {k : BK}, P.underlying T = some (.map kt et) → ob nid = none → own nid = ob nid → k.at (some (.map #[] 0)) [] → Does P fr own a w pl o ⟨.c (.mp nid), [(nid, .box ⟨k, none⟩ [])], [nid], []⟩ := by
  intro kt et k hu hn hob hat K Q hK
  obtain ⟨pl', m', L, hb, _⟩ := m.newBoxO (i := nid) (by rw [hob, hn]) ⟨k, none⟩ (fun b hb => by cases hb) (cells := []) (vs := []) All2.nil (x := .map #[] 0) hat
  have hrun : (execOp a.eval o).run P w = .ok (.value (.map (some w.heap.size))) (w.alloc (.map #[] 0)) := by
   unfold execOp
   simp only [hop]
   simp [Instr.makeMap, run_underlying hu, newObj]
   rfl
  unfold Oper.wp
  rw [hrun, Oper.upon_value]
  exact hK _ _ pl' m' L (.inr ⟨⟨_, [], upd_same _ _ _⟩, by rw [hb]⟩)
 unfold mmM at h
 split at h
 rename_i ms kt et hu hn
 split at h
 rename_i hk he
 simp only [Option.some.injEq] at h
 subst h
 exact go hu hn (hob nid (by simp)) ⟨#[], 0, rfl, List.Perm.refl _, List.nodup_nil, by simp, by simp⟩
 rename_i hk he
 simp only [Option.some.injEq] at h
 subst h
 exact go hu hn (hob nid (by simp)) ⟨#[], 0, rfl, List.Perm.refl _, List.nodup_nil, by simp, by simp⟩
 cases h
 cases h
def insM (P : Program) (lk : Lk) (ob : Own) (T : TypeId) (m k x : Operand) : Option Eff :=
 match lk [] m, exO lk [] k, exO lk [] x with
 | some (.c (.mp i)), some key, some v => match ob i, P.underlying T with
  | some (.box ⟨.mpb es, q⟩ cells), some (.map kt _) => match P.underlying kt, key, v with
   | some .string, .string s, .bool b => some ⟨.c .any, [(i, .box ⟨.mpb (tK ltS s.data.toList b es), q⟩ cells)], [i], []⟩
   | _, _, _ => none
  | some (.box ⟨.mpi es, q⟩ cells), some (.map kt _) => match P.underlying kt, key, v with
   | some (.int _), .int .i64 n, .int .i64 v => some ⟨.c .any, [(i, .box ⟨.mpi (tK ltI n v es), q⟩ cells)], [i], []⟩
   | _, _, _ => none
  | _, _ => none
 | _, _, _ => none
theorem aB6 (m : Mem fr own w pl) (hl : aO a w pl own p lk) (hp : Eng.Holds a p) {T : TypeId} {y k x : Operand} (hop : o.op = .insert T y k x ∨ o.op = .mapUpdate T y k x) (hd : o.dst = none) {ob : Own} {e : Eff} (h : insM P lk ob T y k x = some e) (hob : ∀ i ∈ e.touch, own i = ob i) : Does P fr own a w pl o e := by
 have go : ∀ {i : Nat} {q : Option Nat} {cells : List C} {k0 k1 : BK} {key v : Value} {ents' : Array MapEntry} {clock' : Nat}, own i = some (.box ⟨k0, q⟩ cells) → a.eval y = .map (some (pl.blk i)) → a.eval k = key → a.eval x = v →
   (∀ vs, k0.at (w.heap[pl.blk i]?) vs → k1.at (some (.map ents' clock')) vs) → (Instr.mapUpdate T (.map (some (pl.blk i))) key v).run P w = .ok () { w with heap := w.heap.setIfInBounds (pl.blk i) (.map ents' clock') } →
   Does P fr own a w pl o ⟨.c .any, [(i, .box ⟨k1, q⟩ cells)], [i], []⟩ := by
  intro i q cells k0 k1 key v ents' clock' hi hy hk hx hat hmu K Q hK
  obtain ⟨vs, hb, hcells⟩ := m.obj i _ hi
  obtain ⟨m', L⟩ := m.turnObjO (ty' := ⟨k1, q⟩) (cells' := cells) (vs' := vs) hi rfl hcells (x := .map ents' clock') (hat vs hb)
  have hrun : (execOp a.eval o).run P w = .ok .skip { w with heap := w.heap.setIfInBounds (pl.blk i) (.map ents' clock') } := by
   unfold execOp
   rcases hop with hop | hop
   simp only [hop, hy, hk, hx, Sem.run_bind, hmu, Result.andThen_ok, Sem.run_pure]
   simp only [hop, hy, hk, hx, Sem.run_bind, hmu, Result.andThen_ok, Sem.run_pure]
  unfold Oper.wp
  rw [hrun, Oper.upon_skip]
  exact hK undef _ pl m' L (.inl hd)
 unfold insM at h
 split at h
 rename_i i key v hy hk hx
 obtain ⟨_, hyv⟩ := hl [] y _ hy holds_nil hp
 have hkv := aQ hl hp holds_nil hk
 have hxv := aQ hl hp holds_nil hx
 split at h
 rename_i es q cells kt et hbx hu
 split at h
 rename_i s b hkt
 simp only [Option.some.injEq] at h
 subst h
 have hi : own i = some (.box ⟨.mpb es, q⟩ cells) := by rw [hob i (by simp), hbx]
 obtain ⟨vs, ⟨ents, clock, hb, hM⟩, _⟩ := m.obj i _ hi
 obtain ⟨ents', clock', hmu, hM'⟩ := vZ (P := P) (w := w) (enc := encS) (encv := .bool) ltS xL sV aEN (aCL hkt false) hu hkt hb hM s.data.toList b
 rw [aCD] at hmu
 exact go hi hyv hkv hxv (fun vs _ => ⟨_, _, rfl, hM'⟩) hmu
 cases h
 rename_i es q cells kt et hbx hu
 split at h
 rename_i u n v hkt
 simp only [Option.some.injEq] at h
 subst h
 have hi : own i = some (.box ⟨.mpi es, q⟩ cells) := by rw [hob i (by simp), hbx]
 obtain ⟨vs, ⟨ents, clock, hb, hM⟩, _⟩ := m.obj i _ hi
 obtain ⟨ents', clock', hmu, hM'⟩ := vZ (P := P) (w := w) (enc := encI) (encv := encI) ltI xM (sW u) aEO (aCM hkt false) hu hkt hb hM n v
 exact go hi hyv hkv hxv (fun vs _ => ⟨_, _, rfl, hM'⟩) hmu
 cases h
 cases h
 cases h
def lkpM (P : Program) (lk : Lk) (ob : Own) (T : TypeId) (m k : Operand) (ok : Bool) : Option Eff :=
 match lk [] m, exO lk [] k with
 | some (.c (.mp i)), some key => match ob i, P.underlying T with
  | some (.box ⟨.mpb es, q⟩ cells), some (.map kt et) => match P.underlying kt, key, P.info? et with
   | some .string, .string s, some ti => match ti.zero with
    | some (.bool false) => some ⟨if ok then .tup [(false, [.d (.v (.bool ((lkM s.data.toList es).getD false)))]), (false, [.d (.v (.bool (lkM s.data.toList es).isSome))])] else .c (.d (.v (.bool ((lkM s.data.toList es).getD false)))), [], [i], []⟩
    | _ => none
   | _, _, _ => none
  | some (.box ⟨.mpi es, q⟩ cells), some (.map kt et) => match P.underlying kt, key, P.info? et with
   | some (.int _), .int .i64 n, some ti => match ti.zero with
    | some (.int .i64 0) => some ⟨if ok then .tup [(false, [.d (.v (.int .i64 ((lkM n es).getD 0)))]), (false, [.d (.v (.bool (lkM n es).isSome))])] else .c (.d (.v (.int .i64 ((lkM n es).getD 0)))), [], [i], []⟩
    | _ => none
   | _, _, _ => none
  | _, _ => none
 | _, _ => none
theorem lkpM_ok (m : Mem fr own w pl) (hl : aO a w pl own p lk) (hp : Eng.Holds a p) {T : TypeId} {y k : Operand} {ok : Bool} (hop : o.op = .lookup T y k ok) {ob : Own} {e : Eff} (h : lkpM P lk ob T y k ok = some e) (hob : ∀ i ∈ e.touch, own i = ob i) : Does P fr own a w pl o e := by
 unfold lkpM at h
 split at h
 rename_i i key hy hk
 obtain ⟨_, hyv⟩ := hl [] y _ hy holds_nil hp
 have hkv := aQ hl hp holds_nil hk
 split at h
 rename_i es q cells kt et hbx hu
 split at h
 rename_i s ti hkt hti
 split at h
 rename_i hz
 simp only [Option.some.injEq] at h
 subst h
 have hi : own i = some (.box ⟨.mpb es, q⟩ cells) := by rw [hob i (by simp), hbx]
 obtain ⟨vs, ⟨ents, clock, hb, hM⟩, _⟩ := m.obj i _ hi
 have hrun := aBL (P := P) (w := w) (enc := encS) (encv := .bool) xL sV (aCL hkt) hu hkt hb hM s.data.toList (z := false) hti hz ok
 rw [aCD] at hrun
 refine aE m (by unfold execOp; simp only [hop, hyv, hkv, Sem.run_bind, hrun, Result.andThen_ok]; rfl) ?_
 cases ok with
 | true => exact ⟨[_, _], rfl, All2.cons (show PartOk _ _ _ (false, [_]) _ from Rd.v _ rfl) (All2.one (show PartOk _ _ _ (false, [_]) _ from Rd.v _ rfl))⟩
 | false => exact Rd.v _ rfl
 cases h
 cases h
 rename_i es q cells kt et hbx hu
 split at h
 rename_i u n ti hkt hti
 split at h
 rename_i hz
 simp only [Option.some.injEq] at h
 subst h
 have hi : own i = some (.box ⟨.mpi es, q⟩ cells) := by rw [hob i (by simp), hbx]
 obtain ⟨vs, ⟨ents, clock, hb, hM⟩, _⟩ := m.obj i _ hi
 have hrun := aBL (P := P) (w := w) (enc := encI) (encv := encI) xM (sW u) (aCM hkt) hu hkt hb hM n (z := 0) hti hz ok
 have hrun : (Instr.lookup T (.map (some (pl.blk i))) (.int .i64 n) ok).run P w = _ := hrun
 refine aE m (by unfold execOp; simp only [hop, hyv, hkv, Sem.run_bind, hrun, Result.andThen_ok]; rfl) ?_
 cases ok with
 | true => exact ⟨[_, _], rfl, All2.cons (show PartOk _ _ _ (false, [_]) _ from Rd.v _ rfl) (All2.one (show PartOk _ _ _ (false, [_]) _ from Rd.v _ rfl))⟩
 | false => exact Rd.v _ rfl
 cases h
 cases h
 cases h
 cases h
def lnM (P : Program) (lk : Lk) (ob : Own) (t : TypeId) (x : Operand) : Option Eff := match lk [] x with
 | some (.c (.mp i)) => match ob i, P.underlying t with
  | some (.box ⟨.mpb es, q⟩ cells), some (.map _ _) => some ⟨.c (.d (.v (.int .i64 (es.length : Int)))), [], [i], []⟩
  | _, _ => none
 | _ => none
theorem lnM_ok (m : Mem fr own w pl) (hl : aO a w pl own p lk) (hp : Eng.Holds a p) {t : TypeId} {x : Operand} (hop : o.op = .call { callee := .builtin .len, args := #[x], argTypes := #[t] }) {ob : Own} {e : Eff} (h : lnM P lk ob t x = some e) (hob : ∀ i ∈ e.touch, own i = ob i) : Does P fr own a w pl o e := by
 unfold lnM at h
 split at h
 rename_i i hx
 obtain ⟨_, hv⟩ := hl [] x _ hx holds_nil hp
 split at h
 rename_i es q cells kt et hbx hu
 simp only [Option.some.injEq] at h
 subst h
 have hi : own i = some (.box ⟨.mpb es, q⟩ cells) := by rw [hob i (by simp), hbx]
 obtain ⟨vs, ⟨ents, clock, hb, hM⟩, _⟩ := m.obj i _ hi
 have hsz : ents.size = es.length := by
  have := hM.kv.length_eq
  simpa [kvB] using this
 have hgo : (getObj (pl.blk i)).run P w = .ok (.map ents clock) w := by simp [getObj, Sem.run, hb]
 refine aE m ?_ (Rd.v _ rfl)
 unfold execOp
 simp only [hop, resolve, invoke, builtin, Sem.run_bind, Sem.run_pure, Result.andThen_ok, List.map_toArray, List.map_cons, List.map_nil, hv]
 simp [Builtin.len_, run_underlying hu, Sem.run_bind, hgo, goInt, hsz]
 cases h
 cases h
def rgM (P : Program) (lk : Lk) (ob : Own) (t : TypeId) (x : Operand) (nid : Nat) : Option Eff := match lk [] x with
 | some (.c (.mp i)) => match ob i, P.underlying t, ob nid with
  | some (.box ⟨.raw (.map ents clock), q⟩ cells), some (.map _ _), none => if Nat.beq i nid then none else some ⟨.c (.bx nid 0), [(nid, .box ⟨.itr clock #[] clock, none⟩ [.mp i])], [i, nid], []⟩
  | _, _, _ => none
 | _ => none
theorem rgM_ok (m : Mem fr own w pl) (hl : aO a w pl own p lk) (hp : Eng.Holds a p) {t : TypeId} {x : Operand} (hop : o.op = .range t x) {ob : Own} {nid : Nat} {e : Eff} (h : rgM P lk ob t x nid = some e) (hob : ∀ i ∈ e.touch, own i = ob i) : Does P fr own a w pl o e := by
 unfold rgM at h
 split at h
 rename_i i hx
 have hc : COk w pl own (.mp i) (a.eval x) := hl [] x _ hx holds_nil hp
 have hv := hc.2
 split at h
 rename_i ents clock q cells kt et hbx hu hn
 split at h
 cases h
 rename_i hne
 simp only [Option.some.injEq] at h
 subst h
 have hi : own i = some (.box ⟨.raw (.map ents clock), q⟩ cells) := by rw [hob i (by simp), hbx]
 obtain ⟨vs, hb, _⟩ := m.obj i _ hi
 have hb : w.heap[pl.blk i]? = some (.map ents clock) := hb
 intro K Q hK
 obtain ⟨pl', m', L, hbk, _⟩ := m.newBoxO (i := nid) (by rw [hob nid (by simp), hn]) ⟨.itr clock #[] clock, none⟩ (fun b hb => by cases hb) (cells := [.mp i]) (vs := [.map (some (pl.blk i))]) (All2.one ⟨hc.1, rfl⟩) (x := .mapIter (some (pl.blk i)) clock #[] clock) ⟨_, rfl, rfl⟩
 have hgo : (getObj (pl.blk i)).run P w = .ok (.map ents clock) w := by simp [getObj, Sem.run, hb]
 have hrun : (execOp a.eval o).run P w = .ok (.value (.pointer (some ⟨w.heap.size, 0, none⟩))) (w.alloc (.mapIter (some (pl.blk i)) clock #[] clock)) := by
  unfold execOp
  simp only [hop, hv]
  simp [Instr.range, run_underlying hu, Sem.run_bind, hgo, newObj]
  rfl
 unfold Oper.wp
 rw [hrun, Oper.upon_value]
 exact hK _ _ pl' m' L (.inr ⟨⟨_, _, upd_same _ _ _⟩, by rw [hbk]⟩)
 cases h
 cases h
theorem iP (d : Nat) (t k e : TypeId) (p : Option Nat) (h : P.underlying t = some (.map k e)) : (Op.equalIn (d + 1) t (.map p) (.map none)).run P w = .ok p.isNone w := by
 cases p <;> simp [Op.equalIn, run_underlying h]
theorem nI (t k e : TypeId) (b : Nat) (h : P.underlying t = some (.map k e)) : (binOp .eql t (.map (some b)) (.map none)).run P w = .ok (.bool false) w ∧ (binOp .neq t (.map (some b)) (.map none)).run P w = .ok (.bool true) w := by
 constructor
 simp only [binOp]
 simp [show Op.equal t (.map (some b)) (.map none) = Op.equalIn (9999 + 1) t (.map (some b)) (.map none) from rfl, iP (w := w) 9999 t k e (some b) h]
 simp only [binOp]
 simp [show Op.equal t (.map (some b)) (.map none) = Op.equalIn (9999 + 1) t (.map (some b)) (.map none) from rfl, iP (w := w) 9999 t k e (some b) h]
def nqM (P : Program) (lk : Lk) (op : BinOp) (t : TypeId) (x y : Operand) : Option Eff := match lk [] x, exO lk [] y, P.underlying t with
 | some (.c (.mp i)), some (.map none), some (.map _ _) => match op with
  | .eql => some ⟨.c (.d (.v (.bool false))), [], [], []⟩
  | .neq => some ⟨.c (.d (.v (.bool true))), [], [], []⟩
  | _ => none
 | _, _, _ => none
theorem nqM_ok (m : Mem fr own w pl) (hl : aO a w pl own p lk) (hp : Eng.Holds a p) {op : BinOp} {t : TypeId} {x y : Operand} {ty : TypeId} (hop : o.op = .binOp op t x y ty) {e : Eff} (h : nqM P lk op t x y = some e) : Does P fr own a w pl o e := by
 unfold nqM at h
 split at h
 rename_i i k e' hx hy hu
 obtain ⟨_, hv⟩ := hl [] x _ hx holds_nil hp
 have hyv := aQ hl hp holds_nil hy
 split at h
 simp only [Option.some.injEq] at h
 subst h
 exact aE (v := .bool false) m (by unfold execOp; simp only [hop, hv, hyv, Sem.run_bind, (nI _ _ _ _ hu).1, Result.andThen_ok]; rfl) (Rd.v _ rfl)
 simp only [Option.some.injEq] at h
 subst h
 exact aE (v := .bool true) m (by unfold execOp; simp only [hop, hv, hyv, Sem.run_bind, (nI _ _ _ _ hu).2, Result.andThen_ok]; rfl) (Rd.v _ rfl)
 cases h
 cases h
def EntOk (ents : Array MapEntry) (clock : Nat) (seen : Array Nat) (last : Nat) (k v : Value) : Prop := ∃ s0 e, seen = Array.push s0 e.born ∧ e ∈ ents.toList ∧ e.key = k ∧ e.val = v ∧ last = clock ∧ (ents.toList.map (·.born)).Nodup
def entM (lk : Lk) (ob : Own) (x : Operand) (hint : Hint) : Option Eff := match lk [] x, hint with
 | some (.c (.bx j 0)), .elem [.v k, .v v] => match ob j with
  | some (.box ⟨.itr since seen last, q⟩ [.mp i]) => match ob i with
   | some (.box ⟨.raw (.map ents clock), q2⟩ cells) => if k.oneCell' && v.oneCell' then some ⟨.tup [(false, [.d (.v k)]), (false, [.d (.v v)])], [], [j, i], [⟨EntOk ents clock seen last k v, false, fun h => Bool.noConfusion h, false⟩]⟩ else none
   | _ => none
  | _ => none
 | _, _ => none
theorem entM_ok (m : Mem fr own w pl) (hl : aO a w pl own p lk) (hp : Eng.Holds a p) {x : Operand} (hop : o.op = .entry x) {ob : Own} {hint : Hint} {e : Eff} (h : entM lk ob x hint = some e) (hob : ∀ i ∈ e.touch, own i = ob i) (ho : conj e.obl) : Does P fr own a w pl o e := by
 unfold entM at h
 split at h
 rename_i j k v hx
 have hc : COk w pl own (.bx j 0) (a.eval x) := hl [] x _ hx holds_nil hp
 have hv := hc.2
 split at h
 rename_i since seen last q i hbj
 split at h
 rename_i ents clock q2 cells hbi
 split at h
 rename_i hone
 simp only [Bool.and_eq_true] at hone
 simp only [Option.some.injEq] at h
 subst h
 have hj : own j = some (.box ⟨.itr since seen last, q⟩ [.mp i]) := by rw [hob j (by simp), hbj]
 have hi : own i = some (.box ⟨.raw (.map ents clock), q2⟩ cells) := by rw [hob i (by simp), hbi]
 obtain ⟨vs, ⟨qq, rfl, hjb⟩, hcj⟩ := m.obj j _ hj
 obtain ⟨y, r, he, hmp, hr⟩ := hcj.uncons
 simp only [List.cons.injEq] at he
 obtain ⟨rfl, rfl⟩ := he
 have hqq : qq = some (pl.blk i) := by have := hmp.2; injection this
 subst hqq
 obtain ⟨vs2, hib, _⟩ := m.obj i _ hi
 have hib : w.heap[pl.blk i]? = some (.map ents clock) := hib
 obtain ⟨s0, e, rfl, hem, rfl, rfl, rfl, hnd⟩ : EntOk ents clock seen last k v := ho
 have hrun := run_entry_at (P := P) w (pl.blk j) (pl.blk i) since s0 ents last e hjb hib hem hnd
 refine aE m (by unfold execOp; simp only [hop, hv, Sem.run_bind, hrun, Result.andThen_ok]; rfl) ?_
 exact ⟨[_, _], rfl, All2.cons (show PartOk _ _ _ (false, [_]) _ from Rd.v _ hone.1) (All2.one (show PartOk _ _ _ (false, [_]) _ from Rd.v _ hone.2))⟩
 cases h
 cases h
 cases h
 cases h
def opM (P : Program) (lk : Lk) (ob : Own) (o : Oper) (nid : Nat) (hint : Hint) : Option Eff := match o.op with
 | .makeMap T none => mmM P ob T nid hint
 | .insert T m k x => match o.dst with
  | none => insM P lk ob T m k x
  | some _ => none
 | .mapUpdate T m k x => match o.dst with
  | none => insM P lk ob T m k x
  | some _ => none
 | .lookup T m k ok => lkpM P lk ob T m k ok
 | .range t x => rgM P lk ob t x nid
 | .entry x => entM lk ob x hint
 | .binOp op t x y _ => nqM P lk op t x y
 | .call { callee := .builtin .len, args := ⟨[x]⟩, argTypes := ⟨[t]⟩ } => lnM P lk ob t x
 | _ => none
theorem opM_ok (m : Mem fr own w pl) (hl : aO a w pl own p lk) (hp : Eng.Holds a p) {ob : Own} {nid : Nat} {hint : Hint} {e : Eff} (h : opM P lk ob o nid hint = some e) (hob : ∀ i ∈ e.touch, own i = ob i) (ho : conj e.obl) : Does P fr own a w pl o e := by
 unfold opM at h
 split at h
 case h_1 => rename_i hop; exact mmM_ok m hop h hob
 case h_2 =>
  rename_i hop
  split at h
  ·rename_i hd; exact aB6 m hl hp (.inl hop) hd h hob
  ·cases h
 case h_3 =>
  rename_i hop
  split at h
  ·rename_i hd; exact aB6 m hl hp (.inr hop) hd h hob
  ·cases h
 case h_4 => rename_i hop; exact lkpM_ok m hl hp hop h hob
 case h_5 => rename_i hop; exact rgM_ok m hl hp hop h hob
 case h_6 => rename_i hop; exact entM_ok m hl hp hop h hob ho
 case h_7 => rename_i hop; exact nqM_ok m hl hp hop h
 case h_8 => rename_i hop; exact lnM_ok m hl hp hop h hob
 case h_9 => cases h
end
end Go.V
