/- Part 7 of the proof: texts Eng7. -/
import Derived.Test.YtmpgfchkkemngaaGreatDoorP6
import Derived.Maps.AppendAt
import Derived.Deep.AppendLies
set_option linter.all false
namespace Go.Eng
open Go.RowKit
def Own1 (w : World) (B : Nat) (e : TypeId) (sz : Nat) (A : Option Addr) (n c : Nat) (xs : List Value) : Prop := w.ownsRow B e sz (.slice A n c) n xs
def blk (A : Option Addr) : Option Nat := match A with
 | some a => some a.block
 | none => none
theorem own_blk (A : Option Addr) (n c : Nat) : (Value.slice A n c).ownBlock = blk A := by cases A <;> rfl
section
variable {P : Program} {w w' : World} {B : Nat} {e : TypeId} {sz n c : Nat} {A : Option Addr} {xs : List Value}
theorem Own1.nil (w : World) (B : Nat) (e : TypeId) (sz : Nat) : Own1 w B e sz none 0 0 [] := World.ownsRow_nil w B e sz
theorem Own1.kept (h : Own1 w B e sz A n c xs) {r : Option Nat} (hg : w.grownBy w' r) (hne : blk A = none ∨ blk A ≠ r) : Own1 w' B e sz A n c xs := World.ownsRow.kept h hg (by rw [own_blk]; exact hne)
theorem Own1.below (h : Own1 w B e sz A n c xs) (hb : Below w.heap.size w w') : Own1 w' B e sz A n c xs :=
 h.kept (r := none) ⟨hb.os, hb.tape, hb.output, hb.size, fun i hi _ => hb.block i hi⟩ (by cases hA : blk A <;> simp)
theorem Own1.at_ (h : Own1 w B e sz A n c xs) : (A = none ∧ n = 0 ∧ xs = []) ∨ ∃ g cur, A = some ⟨g, 0, none⟩ ∧ B ≤ g ∧ w.heap[g]? = some (.cells cur e (0, 0)) ∧ n ≤ c ∧ c ≤ maxLen ∧ cur.size = c * sz ∧ cur.toList.take (n * sz) = xs := by
 rcases h.2 with ⟨hv, hn⟩ | ⟨g, cap, cur, hv, hB, hg, hnc, hc, hs, hx⟩
 ·injection hv with h1 h2 h3
  refine .inl ⟨h1, hn, List.eq_nil_of_length_eq_zero ?_⟩
  rw [h.1, hn, Nat.zero_mul]
 ·injection hv with h1 h2 h3
  subst h3
  exact .inr ⟨g, cur, h1, hB, hg, hnc, hc, hs, hx⟩
theorem Own1.row (h : Own1 w B e sz A n c xs) : Row w e sz A n xs := by
 refine ⟨h.1, fun hn => ?_⟩
 rcases h.at_ with ⟨_, h0, _⟩ | ⟨g, cur, rfl, _, hg, _, _, _, hx⟩
 ·omega
 ·refine ⟨g, 0, cur, (0, 0), rfl, hg, fun j u hj => ?_⟩
  rw [← hx, List.getElem?_take] at hj
  split at hj
  ·simpa using hj
  ·cases hj
theorem Own1.only (h : Own1 w B e sz A n c xs) {g : Nat} {t : TypeId} {cs : Array Value} {fz : Nat × Nat} (hg : w.grownBy w' (some g)) (hb : w.heap[g]? = some (.cells cs t fz)) (hne : t ≠ e) : Own1 w' B e sz A n c xs := by
 refine h.kept hg ?_
 rcases h.at_ with ⟨rfl, _⟩ | ⟨g', cur, rfl, _, hg', _⟩
 ·exact .inl rfl
 ·right
  intro he
  simp only [blk, Option.some.injEq] at he
  subst he
  rw [hg'] at hb
  injection hb with hb
  injection hb with _ h2
  exact hne h2.symm
theorem Own1.lt (h : Own1 w B e sz A n c xs) : ∀ k, blk A = some k → B ≤ k ∧ k < w.heap.size := fun k hk => World.ownsRow.lt h k (by rw [own_blk]; exact hk)
theorem Own1.cap (h : Own1 w B e sz A n c xs) : n ≤ maxLen := by
 rcases h.at_ with ⟨_, h0, _⟩ | ⟨_, _, _, _, _, h1, h2, _⟩
 ·unfold maxLen; omega
 ·omega
theorem Row.of_blk {b : Nat} {cells : Array Value} {fz : Nat × Nat} (h : w.heap[b]? = some (.cells cells e fz)) (hl : cells.size = n * sz) : Row w e sz (some ⟨b, 0, none⟩) n cells.toList :=
 ⟨by simpa using hl, fun _ => ⟨b, 0, cells, fz, rfl, h, fun j u hj => by simpa using hj⟩⟩
theorem OwnOk.grown {own : List Bx} (h : OwnOk w own) {r : Option Nat} (hg : w.grownBy w' r) (hne : ∀ (i : Nat) (b : Bx), own[i]? = some b → some b.num ≠ r) : OwnOk w' own :=
 ⟨fun i b hi => (hg.block _ (h.lt hi) (hne i b hi)).trans (h.at_ i b hi), h.inj⟩
theorem KeepT.grown {t : TypeId} (hg : w.grownBy w' (blk A)) (ho : Own1 w B e sz A n c xs) (hne : e ≠ t) : KeepT t w w' := fun b cur fz hb => by
 rw [hg.block b (Array.getElem?_eq_some_iff.1 hb).1 (fun he => ?_)]
 ·exact hb
 ·rcases ho.at_ with ⟨rfl, _⟩ | ⟨g', cur', rfl, _, hg', _⟩
  ·cases he
  ·simp only [blk, Option.some.injEq] at he
   subst he
   rw [hg'] at hb
   injection hb with hb
   injection hb with _ h2
   exact hne h2
theorem below_grown {a : World} (h : Below a.heap.size a w) (hg : w.grownBy w' (blk A)) (ho : Own1 w B e sz A n c xs) (hB : a.heap.size ≤ B) : Below a.heap.size a w' :=
 h.grown hg h.size (fun k hk => by have := (ho.lt k hk).1; omega)
theorem run_append_any (T ty : TypeId) (i : TypeInfo) (z : Value) (bytes : Nat) (ht : P.underlying T = some (.slice e)) (hi : P.info? e = some i) (hz : i.zero = some z)
  (hsize : i.size = sz) (hby : i.bytes = bytes) (hzs : z.cells.size = sz) (hsz : 0 < sz) (hown : Own1 w B e sz A n c xs)
  {A2 : Option Addr} {m c2 : Nat} {news : List Value} (hr : Row w e sz A2 m news) (h1 : ∀ u ∈ news, u.oneCell' = true)
  (h63 : n + m ≤ maxLen) (hbytes : (n + m) * bytes ≤ 140737488355328) (hbase : B ≤ w.heap.size) (hm0 : A2 = none → c2 = 0) :
  ∃ A' c' w', (Builtin.append_ #[T, T] ty #[.slice A n c, .slice A2 m c2]).run P w = .ok (.slice A' (n + m) c') w' ∧ Own1 w' B e sz A' (n + m) c' (xs ++ news) ∧ w.grownBy w' (blk A) ∧ (blk A' = blk A ∨ blk A' = some w.heap.size) := by
 have form : ∀ {v : Value} {wx : World} {k : Nat} {ys : List Value}, wx.ownsRow B e sz v k ys → ∃ A' c', v = .slice A' k c' := by
  intro v wx k ys h
  rcases h.2 with ⟨rfl, rfl⟩ | ⟨g, cap, _, rfl, _⟩
  ·exact ⟨_, _, rfl⟩
  ·exact ⟨_, _, rfl⟩
 rcases A2 with _ | ad
 ·have hm : m = 0 := by
   rcases Nat.eq_zero_or_pos m with h0 | h0
   ·exact h0
   ·obtain ⟨b, off, h⟩ := hr.some_ h0; cases h
  subst hm
  obtain rfl := hm0 rfl
  have hn : news = [] := List.eq_nil_of_length_eq_zero (by simpa using hr.1)
  subst hn
  refine ⟨A, c, w, ?_, by simpa using hown, only_refl _ _, .inl rfl⟩
  rcases hown.at_ with ⟨rfl, rfl, _⟩ | ⟨g, cur, rfl, _, _, hnc, _⟩
  ·have hc : c = 0 := by
    rcases hown.2 with ⟨hv, _⟩ | ⟨g, cap, cur, hv, _⟩
    ·injection hv
    ·injection hv with h1; cases h1
   subst hc
   simp [Builtin.append_, run_underlying ht, sizeOf, typeInfo, hi, Builtin.lenOf, Builtin.firstCells]
  ·simp [Builtin.append_, run_underlying ht, sizeOf, typeInfo, hi, Builtin.lenOf, Builtin.firstCells, hnc, storeCells]
 ·have hcells : ∀ (j : Nat) (u : Value), news[j]? = some u → w.cell? (ad.add j) = some u := by
   intro j u hu
   rcases Nat.eq_zero_or_pos m with h0 | h0
   ·subst h0
    have hnil : news = [] := List.eq_nil_of_length_eq_zero (by simpa using hr.1)
    rw [hnil] at hu
    simp at hu
   ·obtain ⟨b, off, h⟩ := hr.some_ h0
    injection h with h
    subst h
    rw [addr_add]
    exact hr.cell hu
  obtain ⟨v', w', hrun, h2, h3, _, h5⟩ := run_append_own_at (P := P) w B T ty e i z sz bytes ht hi hz hsize hby hzs hsz _ n xs hown ad m c2 news hr.1 hcells h1 h63 hbytes hbase
  obtain ⟨A', c', rfl⟩ := form h2
  rw [own_blk] at h3
  rw [own_blk, own_blk] at h5
  exact ⟨A', c', w', hrun, h2, h3, h5⟩
end
section
variable {P : Program} {nn : Nat} {ops : Array Oper} {Q : Exit → Act → World → Prop} {own : List Bx} {w : World} {env : List En}
def appO (P : Program) (n : Nat) (ops : Array Oper) (own : List Bx) (env : List En) (o : Oper) : Option (Nat × TypeId × Nat × Nat × Value × Value) :=
 match place n ops env o, o.op with
 | some (t, []), .call { callee := .builtin .append, args := ⟨[s, x]⟩, argTypes := ⟨[T, T']⟩ } =>
  match lookV env (nums own) [] s, lookV env (nums own) [] x, P.underlying T with
  | some u, some v, some (.slice e) => match P.info? e with
   | some i => match i.zero with
    | some z => if T == T' && z.cells.size == i.size && decide (0 < i.size) then some (t, e, i.size, i.bytes, u, v) else none
    | none => none
   | none => none
  | _, _, _ => none
 | _, _ => none
theorem appK {o : Oper} {K : Act → World → Prop} {t : Nat} {e : TypeId} {sz bytes : Nat} {A A2 : Option Addr} {n c m c2 B : Nat} {xs news : List Value} (h : appO P nn ops own env o = some (t, e, sz, bytes, .slice A n c, .slice A2 m c2))
  (hown : Own1 w B e sz A n c xs) (hr : Row w e sz A2 m news) (h1 : ∀ u ∈ news, u.oneCell' = true) (h63 : n + m ≤ maxLen) (hbytes : (n + m) * bytes ≤ 140737488355328) (hbase : B ≤ w.heap.size) (hm0 : A2 = none → c2 = 0)
  (hk : ∀ A' c' w', Own1 w' B e sz A' (n + m) c' (xs ++ news) → w.grownBy w' (blk A) → (blk A' = blk A ∨ blk A' = some w.heap.size) → KF nn K (putE env (some t) [] (.v (.slice A' (n + m) c'))) own w') : KF nn (wpK P ops Q o K) env own w := by
 intro a hf
 unfold appO at h
 split at h
 ·rename_i t' s x T T' hpl hop
  split at h
  ·rename_i u v e' hu hv ht
   split at h
   ·rename_i i hi
    split at h
    ·rename_i z hz
     split at h
     ·rename_i hb
      simp only [Option.some.injEq, Prod.mk.injEq] at h
      obtain ⟨rfl, rfl, rfl, rfl, rfl, rfl⟩ := h
      simp only [Bool.and_eq_true, beq_iff_eq, decide_eq_true_eq] at hb
      obtain ⟨⟨rfl, hzs⟩, hsz⟩ := hb
      obtain ⟨hd, hpath, htn, hm, hcl, hpt⟩ := place_spec hpl
      have hh : Holds a [] := by simp [Holds]
      obtain ⟨A', c', w', hrun, h2, h3, h4⟩ := run_append_any T o.type i z i.bytes ht hi hz rfl rfl hzs hsz hown hr h1 h63 hbytes hbase hm0
      unfold wpK
      rw [if_pos ((wanted_iff hf hpath).2 hh)]
      refine .inl ?_
      have hr : (execOp a.eval o).run P w = .ok (.value (.slice A' (n + m) c')) w' := by
       unfold execOp
       simp only [hop, resolve, invoke, builtin, Sem.run_bind, Sem.run_pure, Result.andThen_ok, List.map_toArray, List.map_cons, List.map_nil, lookV_eq hf hh hu, lookV_eq hf hh hv, hrun]
      unfold Oper.wp
      rw [hr, Oper.upon_value, hd]
      exact hk A' c' w' h2 h3 h4 _ (hf.put htn hm (fun x hx => by cases hx) (fun _ => rfl) (fun h => absurd hh h))
     ·cases h
    ·cases h
   ·cases h
  ·cases h
 ·cases h
def bslO (P : Program) (n : Nat) (ops : Array Oper) (own : List Bx) (env : List En) (o : Oper) : Option (Nat × TypeId × Nat × Array Value) :=
 match place n ops env o, o.op with
 | some (t, []), .buildSlice T len parts =>
  if noSel o.op && o.op.operands.toList.all (fun x => (lookS env [] x).isSome) then
   match P.underlying T with
   | some (.slice e) => match P.info? e with
    | some i => if len * i.size > 2 ^ 24 then none else
     match i.zero with
     | some z => match Instr.fill (fun k => some (k * i.size, i.size)) ((Array.range (len * i.size)).map ((if len * i.size = 0 then #[] else z.cells)[· % (if len * i.size = 0 then #[] else z.cells).size]!)) (parts.map fun (k, x) => (k, look env (nums own) [] x)).toList with
      | some cells => some (t, e, len, cells)
      | none => none
     | none => none
    | none => none
   | _ => none
  else none
 | _, _ => none
theorem bslK {o : Oper} {K : Act → World → Prop} {t : Nat} {e : TypeId} {len : Nat} {cells : Array Value} (h : bslO P nn ops own env o = some (t, e, len, cells))
  (hk : ∀ b w', w.heap.size ≤ b → w'.heap[b]? = some (.cells cells e (0, 0)) → Below w.heap.size w w' → KF nn K (putE env (some t) [] (.v (.slice (some ⟨b, 0, none⟩) len len))) own w') : KF nn (wpK P ops Q o K) env own w := by
 intro a hf
 unfold bslO at h
 split at h
 ·rename_i t' T len' parts hpl hop
  split at h
  ·rename_i hb
   simp only [Bool.and_eq_true, List.all_eq_true, Array.mem_toList_iff] at hb
   split at h
   ·rename_i e' hu
    split at h
    ·rename_i i hi
     split at h
     ·cases h
     ·rename_i hsz
      split at h
      ·rename_i z hz
       split at h
       ·rename_i cells' hfill
        simp only [Option.some.injEq, Prod.mk.injEq] at h
        obtain ⟨rfl, rfl, rfl, rfl⟩ := h
        obtain ⟨hd, hpath, htn, hm, hcl, hpt⟩ := place_spec hpl
        have hh : Holds a [] := by simp [Holds]
        have he : execOp (look env (nums own) []) o = execOp a.eval o :=
         execOp_congr o (fun cs b hs => by rw [hs] at hop; cases hop) (fun x hx => look_eq hf hh (hb.2 x hx))
        unfold wpK
        rw [if_pos ((wanted_iff hf hpath).2 hh)]
        refine .inl ?_
        have hr : (execOp a.eval o).run P w = .ok (.value (.slice (some ⟨w.heap.size, 0, none⟩) len' len')) (w.alloc (.cells cells' e')) := by
         rw [← he]
         unfold execOp
         simp only [hop, Instr.buildSlice]
         by_cases h0 : len' * i.size = 0
         ·simp only [h0, if_true] at hfill hsz ⊢
          simp [Array.toList_map] at hfill
          simp [run_underlying hu, sizeOf, typeInfo, hi, h0, hfill, newRow, newObj]
          rfl
         ·simp only [h0, if_false] at hfill
          simp only [Array.toList_map] at hfill
          simp [run_underlying hu, sizeOf, typeInfo, hi, h0, hfill, newRow, newObj, zeroValue, hz, hsz]
          rfl
        unfold Oper.wp
        rw [hr, Oper.upon_value, hd]
        exact hk _ _ (Nat.le_refl _) (heap_alloc_new w _) ((Below.refl _ _).alloc (Nat.le_refl _) _) _ (hf.put htn hm (fun x hx => by cases hx) (fun _ => rfl) (fun h => absurd hh h))
       ·cases h
      ·cases h
    ·cases h
   ·cases h
  ·cases h
 ·cases h
end
end Go.Eng
