/- Part 18 of the proof: texts W10n. -/
import Derived.Test.YtdejnaokkdndeaaGreatDoorP17
import Derived.Sort.Grow
set_option linter.all false
namespace Go.V
open Go.RowKit
def SortC (P : Program) (f : FuncId) : Prop :=
 (∀ (p : Option Addr) (cap : Nat) (w : World), Calls P f #[.slice p 0 cap] w fun e w' => e = .returned (.tuple #[]) ∧ w' = w) ∧
 ∀ (blk off cap : Nat) (zs : List Int) (w : World), Sort.Holds (Value.int .i64) w blk off zs.toArray → blk < w.heap.size → zs.length < 4611686018427387904 →
  Calls P f #[.slice (some ⟨blk, off, none⟩) zs.length cap] w fun e w' => e = .returned (.tuple #[]) ∧ ∃ n os, w' = Sort.grow (Sort.putRow (Value.int .i64) (Sort.ahead w n) blk off (zs.mergeSort fun x y => decide (x ≤ y)).toArray) os
def gI (l : List Int) : List (List D) := l.map fun z => [.v (.int .i64 z)]
def SortI (es es' : List (List D)) : Prop := ∃ zs : List Int, es = gI zs ∧ es' = gI (zs.mergeSort fun x y => decide (x ≤ y)) ∧ zs.length < 4611686018427387904
def aFR (P : Program) (lk : Lk) (ob : Own) (f : FuncId) (x : Operand) (hint : Hint) : Option Eff := match hint, lk [] x with
 | .callG (.tup []) [j, _] [(_, .arr _ _ _ es')], some (.c (.ar i k)) => if i == j then (match ob i with
  | some (.arr k' ⟨e, []⟩ 1 es) => if k' == k then some ⟨.tup [], [(i, .arr k' ⟨e, []⟩ 1 es')], [i], [.call (SortC P f), .un (SortI es es')]⟩ else none
  | _ => none) else none
 | _, _ => none
theorem aGG (cur : Array Value) (ys : List Int) (h : ys.length ≤ cur.size) : (Sort.putCells (Value.int .i64) 0 ys.toArray cur).toList.take ys.length = ys.map (Value.int .i64) := by
 apply List.ext_getElem?
 intro j
 rw [List.getElem?_take, List.getElem?_map, Array.getElem?_toList]
 by_cases hj : j < ys.length
 rw [if_pos hj]
 have hjc : j < cur.size := by omega
 simp [Sort.putCells, Array.getElem?_mapIdx, hjc, hj]
 rw [if_neg hj, List.getElem?_eq_none (by omega)]; rfl
theorem kQ : ∀ l : List Int, (gI l).flatten = l.map fun z => D.v (.int .i64 z)
 | [] => rfl
 | z :: l => by
  have := kQ l
  simp only [gI, List.map_cons, List.flatten_cons] at this ⊢
  rw [this]; rfl
section
variable {P : Program} {fr : Fr} {own : Own} {a : Act} {w w' : World} {pl : Pl} {o : Oper} {p : Path} {lk : Lk}
theorem sD {F : Nat → Prop} : ∀ {l : List Int} {xs : List Value}, All2 (Rd w F) (l.map fun z => D.v (.int .i64 z)) xs → xs = l.map (Value.int .i64)
 | [], xs, h => h.unnil
 | z :: l, xs, h => by
  obtain ⟨y, r, rfl, h1, h2⟩ := h.uncons
  rw [Rd.exact h1, sD h2]; rfl
theorem aB4 {F : Nat → Prop} : ∀ (l : List Int), All2 (Rd w F) (l.map fun z => D.v (.int .i64 z)) (l.map (Value.int .i64))
 | [] => All2.nil
 | z :: l => All2.cons (Rd.v _ rfl) (aB4 l)
theorem aFQ (m : Mem fr own w pl) (hl : aO a w pl own p lk) (hp : Eng.Holds a p) {f : FuncId} {x : Operand} {ats : Array TypeId} (hop : o.op = .call { callee := .value (.func f), args := #[x], argTypes := ats }) (hent : enters P f = true) {ob : Own} {hint : Hint} {e : Eff} (h : aFR P lk ob f x hint = some e) (hob : ∀ i ∈ e.touch, own i = ob i) (ho : conj e.obl) : Does P fr own a w pl o e := by
 unfold aFR at h
 split at h
 ·rename_i j _ _ _ _ _ es' i k hx
  split at h
  ·split at h
   ·rename_i k' e1 es hi0
    split at h
    ·rename_i hk
     simp only [beq_iff_eq] at hk
     subst hk
     simp only [Option.some.injEq] at h
     subst h
     obtain ⟨hS, hI⟩ : SortC P f ∧ SortI es es' := ho
     have hi : own i = some (.arr k' ⟨e1, []⟩ 1 es) := by rw [hob i (by simp), hi0]
     have hv : a.eval x = .slice (pl.sl i).1 es.length (pl.sl i).2 := bX (w := w) (hl [] x _ hx holds_nil hp) hi
     obtain ⟨zs, rfl, rfl, hlen⟩ := hI
     obtain ⟨xs, hxs, hr, hss⟩ := m.obj i _ hi
     have hr : All2 (Rd w (Sh pl own)) (gI zs).flatten xs := hr
     rw [kQ] at hr
     have hxe := sD hr
     subst hxe
     have hzl : (gI zs).length = zs.length := by simp [gI]
     have hsl : (gI (zs.mergeSort fun x y => decide (x ≤ y))).length = zs.length := by simp [gI]
     have hrun := jW (P := P) (a := a) (w := w) hop hent
     have hargs : ((#[x] : Array Operand).toList.map a.eval).toArray = #[.slice (pl.sl i).1 zs.length (pl.sl i).2] := by
      rw [← hzl, ← hv]; rfl
     rw [hargs] at hrun
     have hs2 : ∀ ds, ds ∈ gI (zs.mergeSort fun x y => decide (x ≤ y)) → ds.length = 1 := by
      intro ds hds
      obtain ⟨z, _, rfl⟩ := List.mem_map.1 hds
      rfl
     intro K Q hK
     unfold Oper.wp
     rw [hrun, Oper.upon_enter]
     by_cases h0 : zs = []
     ·subst h0
      obtain ⟨pl', m', L, hA⟩ := m.turnArr (k' := k') (es' := gI ([].mergeSort fun x y => decide (x ≤ y))) (A := (pl.sl i).1) (cap := (pl.sl i).2) (xs := []) hi (w' := w) ⟨rfl, rfl, rfl, Nat.le_refl _, fun _ _ _ => rfl⟩
       (by have := hxs; simpa [gI] using this) (.inl rfl) (by simpa [gI] using AllO.of (w := w) (pl := pl) (own := own) All2.nil) hs2 (.inr ⟨rfl, by simp [gI], rfl⟩)
      refine (hS.1 (pl.sl i).1 (pl.sl i).2 w).mono ?_
      rintro ee w2 ⟨rfl, rfl⟩
      exact hK _ _ pl' m' L (.inr ⟨[], rfl, All2.nil⟩)
     ·rcases hxs.2 with ⟨hvv, hz⟩ | ⟨g, cap, cur, hvv, hB, hg, hn, hcap, hsz, htk⟩
      ·rw [hzl] at hz; exact absurd (List.eq_nil_of_length_eq_zero hz) h0
      ·injection hvv with hA1 hA2 hA3
       rw [hzl] at hn htk
       simp only [Nat.mul_one] at hsz htk
       have hgs := (Array.getElem?_eq_some_iff.1 hg).1
       have hH : Sort.Holds (Value.int .i64) w g 0 zs.toArray := by
        intro q hq
        have hq : q < zs.length := by simpa using hq
        have h1 : cur[q]? = some (.int .i64 zs[q]) := by
         have := congrArg (fun l => l[q]?) htk
         simp only [List.getElem?_take, if_pos hq, List.getElem?_map, List.getElem?_eq_getElem hq, Option.map_some, Array.getElem?_toList] at this
         exact this
        refine ⟨?_, ?_⟩
        ·simp only [World.cell?, hg, Nat.zero_add, h1]
         simp [hq]
        ·simp [World.frozen?, hg]
       rw [hA1]
       refine (hS.2 g 0 (pl.sl i).2 zs w hH hgs hlen).mono ?_
       rintro ee w2 ⟨rfl, nn, os, rfl⟩
       have hl2 : (zs.mergeSort fun x y => decide (x ≤ y)).length = zs.length := by simp
       have hgr : w.grownBy (Sort.grow (Sort.putRow (Value.int .i64) (Sort.ahead w nn) g 0 (zs.mergeSort fun x y => decide (x ≤ y)).toArray) os) ((pl.sl i).1.map (·.block)) := by
        refine ⟨rfl, rfl, rfl, by simp [Sort.grow, Sort.putRow, Sort.mapBlock, Sort.ahead], fun q hq hne => ?_⟩
        have hqg : ¬ g = q := by rintro rfl; exact hne (by rw [hA1]; rfl)
        rw [Sort.heap_grow_old _ _ (by simpa [Sort.putRow, Sort.mapBlock, Sort.ahead] using hq)]
        simp only [Sort.putRow, Sort.mapBlock, Sort.ahead, Array.getElem?_modify, if_neg hqg]
       have hcell : (Sort.grow (Sort.putRow (Value.int .i64) (Sort.ahead w nn) g 0 (zs.mergeSort fun x y => decide (x ≤ y)).toArray) os).heap[g]? = some (.cells (Sort.putCells (Value.int .i64) 0 (zs.mergeSort fun x y => decide (x ≤ y)).toArray cur) e1 (0, 0)) := by
        rw [Sort.heap_grow_old _ _ (by simpa [Sort.putRow, Sort.mapBlock, Sort.ahead] using hgs)]
        simp only [Sort.putRow, Sort.mapBlock, Sort.ahead, Array.getElem?_modify, if_true, hg, Option.map_some, Sort.onCells]
       obtain ⟨pl', m', L, hA⟩ := m.turnArr (k' := k') (es' := gI (zs.mergeSort fun x y => decide (x ≤ y))) (A := some ⟨g, 0, none⟩) (cap := cap) (xs := (zs.mergeSort fun x y => decide (x ≤ y)).map (Value.int .i64)) hi hgr
        ⟨by rw [List.length_map, hsl, hl2, Nat.mul_one], .inr ⟨g, cap, _, by rw [hsl], hB, hcell, by rw [hsl]; exact hn, hcap, by simpa [Sort.putCells] using hsz, by rw [hsl, Nat.mul_one, ← hl2]; exact aGG cur _ (by rw [hl2, hsz]; exact hn)⟩⟩
        (.inl (by rw [hA1])) (by rw [kQ]; exact AllO.of (aB4 _)) hs2 (.inr ⟨rfl, by rw [hsl, hzl], by rw [← hA3, ← hA1]⟩)
       exact hK _ _ pl' m' L (.inr ⟨[], rfl, All2.nil⟩)
    ·cases h
   ·cases h
  ·cases h
 ·cases h
end
def gD : Nat → List C → Option (List D × List (Nat × C))
 | _, [] => some ([], [])
 | k, .d x :: r => match gD (k + 1) r with
  | some (ds, ov) => some (x :: ds, ov)
  | none => none
 | k, .bx i off :: r => match gD (k + 1) r with
  | some (ds, ov) => some (.v undef :: ds, (k, .bx i off) :: ov)
  | none => none
 | k, .mp i :: r => match gD (k + 1) r with
  | some (ds, ov) => some (.v undef :: ds, (k, .mp i) :: ov)
  | none => none
 | _, _ => none
def bslO (P : Program) (lk : Lk) (ob : Own) (T : TypeId) (len : Nat) (parts : Array (Nat × Operand)) (nid : Nat) (hint : Hint) : Option Eff :=
 match ob nid, iY lk parts.toList, P.underlying T, hint with
 | none, some ps, some (.slice e), .call (.tup []) [] [] => match P.info? e with
  | some i => match i.zero with
   | some z => if len ≤ 1000 && i.size == 1 && (z.cells.size == 1) then
     match dQ ((Array.range (len * i.size)).map ((if len * i.size = 0 then #[] else z.cells)[· % (if len * i.size = 0 then #[] else z.cells).size]!)).toList with
     | some zc => match lX (fun k => some (k * i.size, i.size)) zc ps with
      | some cs => match gD 0 cs with
       | some (ds, ov) => if ds.length == len && !(mkd ov) then some ⟨.c (.ar nid 0), [(nid, .arr 0 ⟨e, ov⟩ 1 (ds.map fun d => [d]))], [nid], []⟩ else none
       | none => none
      | none => none
     | none => none
    else none
   | none => none
  | none => none
 | _, _, _, _ => none
theorem xG : ∀ ds : List D, (ds.map fun d => [d]).flatten = ds
 | [] => rfl
 | d :: r => by
  have := xG r
  simp only [List.map_cons, List.flatten_cons, this]; rfl
section
variable {P : Program} {fr : Fr} {own : Own} {a : Act} {w w' : World} {pl : Pl} {o : Oper} {p : Path} {lk : Lk}
theorem rJ : ∀ {k : Nat} {cs : List C} {ds : List D} {ov : List (Nat × C)} {xs : List Value}, gD k cs = some (ds, ov) → All2 (COk w pl own) cs xs →
  ds.length = xs.length ∧ (∀ y, y ∈ ov → k ≤ y.1) ∧ ∀ (j : Nat) (d : D) (x : Value), ds[j]? = some d → xs[j]? = some x → vL w pl own d x (ov.lookup (k + j))
 | k, [], ds, ov, xs, h, hc => by
  simp only [gD, Option.some.injEq, Prod.mk.injEq] at h
  obtain ⟨rfl, rfl⟩ := h
  rw [hc.unnil]
  exact ⟨rfl, by simp, fun j d x hd => by simp at hd⟩
 | k, c :: r, ds, ov, xs, h, hc => by
  obtain ⟨v, r', rfl, h1, h2⟩ := hc.uncons
  have fin : ∀ {ds0 : List D} {ov0 : List (Nat × C)} {d0 : D} {ov1 : List (Nat × C)}, gD (k + 1) r = some (ds0, ov0) → ds = d0 :: ds0 → (ov = ov0 ∧ Rd w (Sh pl own) d0 v ∨ ∃ c0, ov = (k, c0) :: ov0 ∧ COk w pl own c0 v) →
    ds.length = (v :: r').length ∧ (∀ y, y ∈ ov → k ≤ y.1) ∧ ∀ (j : Nat) (d : D) (x : Value), ds[j]? = some d → (v :: r')[j]? = some x → vL w pl own d x (ov.lookup (k + j)) := by
   intro ds0 ov0 d0 ov1 hs hds hov
   obtain ⟨g1, g2, g3⟩ := rJ hs h2
   have hno : ov0.lookup k = none := by
    cases hl : ov0.lookup k with
    | none => rfl
    | some c =>
     have : ∃ y, y ∈ ov0 ∧ y.1 = k := by
      clear g2 g3 hov hs
      induction ov0 with
      | nil => simp at hl
      | cons y t ih =>
       simp only [List.lookup] at hl
       split at hl
       rename_i hb; exact ⟨y, by simp, (by simpa using hb : k = y.1).symm⟩
       obtain ⟨z, hz, hz2⟩ := ih hl; exact ⟨z, by simp [hz], hz2⟩
     obtain ⟨y, hy, hy2⟩ := this
     have := g2 y hy
     omega
   subst hds
   refine ⟨by simp [g1], fun y hy => ?_, fun j d x hd hx => ?_⟩
   rcases hov with ⟨rfl, _⟩ | ⟨c0, rfl, _⟩
   have := g2 y hy; omega
   rcases List.mem_cons.1 hy with rfl | hy
   exact Nat.le_refl _
   have := g2 y hy; omega
   cases j with
   | zero =>
    simp at hd hx
    subst hd; subst hx
    rcases hov with ⟨rfl, hr⟩ | ⟨c0, rfl, hr⟩
    rw [Nat.add_zero, hno]; exact hr
    rw [Nat.add_zero]
    simp only [List.lookup, beq_self_eq_true]
    exact hr
   | succ j =>
    simp at hd hx
    have := g3 j d x hd hx
    have hk : k + 1 + j = k + (j + 1) := by omega
    rw [hk] at this
    rcases hov with ⟨rfl, _⟩ | ⟨c0, rfl, _⟩
    exact this
    have hne : (k + (j + 1) == k) = false := by rw [beq_eq_false_iff_ne]; omega
    simp only [List.lookup, hne]
    exact this
  cases c with
  | d x0 =>
   simp only [gD] at h
   split at h
   rename_i ds0 ov0 hs
   simp only [Option.some.injEq, Prod.mk.injEq] at h
   exact fin (ov1 := []) hs h.1.symm (.inl ⟨h.2.symm, h1⟩)
   cases h
  | bx i off =>
   simp only [gD] at h
   split at h
   rename_i ds0 ov0 hs
   simp only [Option.some.injEq, Prod.mk.injEq] at h
   exact fin (ov1 := []) hs h.1.symm (.inr ⟨_, h.2.symm, h1⟩)
   cases h
  | mp i =>
   simp only [gD] at h
   split at h
   rename_i ds0 ov0 hs
   simp only [Option.some.injEq, Prod.mk.injEq] at h
   exact fin (ov1 := []) hs h.1.symm (.inr ⟨_, h.2.symm, h1⟩)
   cases h
  | _ => simp [gD] at h
theorem bslO_ok (m : Mem fr own w pl) (hl : aO a w pl own p lk) (hp : Eng.Holds a p) {T : TypeId} {len : Nat} {parts : Array (Nat × Operand)} (hop : o.op = .buildSlice T len parts) {ob : Own} {nid : Nat} {hint : Hint} {e : Eff} (h : bslO P lk ob T len parts nid hint = some e) (hob : ∀ i ∈ e.touch, own i = ob i) : Does P fr own a w pl o e := by
 unfold bslO at h
 split at h
 rename_i ps el hnone hps hu
 have hparts := gW hl hp hps
 split at h
 rename_i i hi
 split at h
 rename_i z hz
 split at h
 rename_i hc
 simp only [Bool.and_eq_true, decide_eq_true_eq, beq_iff_eq] at hc
 obtain ⟨⟨hc1, hc2⟩, hc3⟩ := hc
 split at h
 rename_i zc hzc
 split at h
 rename_i cs hf
 split at h
 rename_i ds ov hds
 split at h
 rename_i hdl
 simp only [Bool.and_eq_true, beq_iff_eq, Bool.not_eq_true'] at hdl
 obtain ⟨hdl, hmk⟩ := hdl
 simp only [Option.some.injEq] at h
 subst h
 obtain ⟨cells', h1, h2⟩ := gL hf (cE hzc) hparts
 obtain ⟨g1, g2, g3⟩ := rJ hds h2
 have hcs : cells'.size = len := by simp at g1; omega
 have hlen : len ≤ maxLen := by unfold maxLen; omega
 have hg : w.grownBy (w.alloc (.cells cells' el)) none := ⟨rfl, rfl, rfl, by simp, fun k hk _ => Below.heap_alloc _ _ _ hk⟩
 have hr : (execOp a.eval o).run P w = .ok (.value (.slice (some ⟨w.heap.size, 0, none⟩) len len)) (w.alloc (.cells cells' el)) := by
  unfold execOp
  simp only [hop, Instr.buildSlice]
  have hsz2 : ¬ len * i.size > 2 ^ 24 := by rw [hc2]; omega
  by_cases h0 : len * i.size = 0
  simp only [h0, if_true] at h1 hsz2 ⊢
  simp at h1
  simp [run_underlying hu, sizeOf, typeInfo, hi, h0, h1, newRow, newObj]
  rfl
  simp only [h0, if_false] at h1
  simp [run_underlying hu, sizeOf, typeInfo, hi, h0, h1, newRow, newObj, zeroValue, hz, hsz2]
  rfl
 have hdm : (ds.map fun d => [d]).length = len := by rw [List.length_map]; exact hdl
 intro K Q hK
 obtain ⟨pl', m', L, hA⟩ := m.newArr (i := nid) (e := ⟨el, ov⟩) (sz := 1) (es := ds.map fun d => [d]) (xs := cells'.toList) (A := some ⟨w.heap.size, 0, none⟩) (cap := len) (by rw [hob nid (by simp), hnone]) hg
  (by rw [show mkd (AT.mk el ov).ov = false from hmk]; exact ⟨by rw [hdm]; simp [hcs], .inr ⟨w.heap.size, len, cells', by rw [hdm], Nat.zero_le _, heap_alloc_new w _, by omega, hlen, by rw [hcs, Nat.mul_one], by rw [hdm, Nat.mul_one, List.take_of_length_le (by simp [hcs])]⟩⟩)
  (fun ad h => by injection h with h; rw [← h]; exact Nat.le_refl _) (by rw [xG]; exact ⟨by simpa using g1, fun j d x hd hx => by have := g3 j d x hd hx; rwa [Nat.zero_add] at this⟩) (fun dd hdd => by obtain ⟨d, _, rfl⟩ := List.mem_map.1 hdd; rfl)
 unfold Oper.wp
 rw [hr, Oper.upon_value]
 exact hK _ _ pl' m' L (.inr ⟨0, ⟨el, ov⟩, 1, _, upd_same _ _ _, Nat.le_refl _, fun _ => by rw [hA, hdm], rfl⟩)
 cases h
 cases h
 cases h
 cases h
 cases h
 cases h
 cases h
 cases h
def roP (ob : Own) : List (Nat × Ob) → Prop
 | [] => True
 | x :: r => ob x.1 = some x.2 ∧ roP ob r
def roE (ob : Own) : Option Eff → Option Eff
 | some e => some ⟨e.sv, [], e.touch, .un (roP ob e.upd ∧ (e.upd.all fun x => e.touch.contains x.1) = true) :: e.obs⟩
 | none => none
theorem aBM {own ob : Own} : ∀ {l : List (Nat × Ob)}, roP ob l → (∀ x ∈ l, own x.1 = ob x.1) → aM own l = own
 | [], _, _ => rfl
 | x :: r, h, hs => by
  have h1 : upd own x.1 x.2 = own := by
   funext j
   by_cases hj : j = x.1
   subst hj; rw [upd_same, hs x (by simp), h.1]
   exact upd_ne _ _ hj
  show aM (upd own x.1 x.2) r = own
  rw [h1]
  exact aBM h.2 fun y hy => hs y (by simp [hy])
theorem roE_ok {ob : Own} {e0 : Option Eff} {e : Eff} (h : roE ob e0 = some e) (hob : ∀ i ∈ e.touch, own i = ob i) (ho : conj e.obl) (hd : ∀ e1, e0 = some e1 → (∀ i ∈ e1.touch, own i = ob i) → conj e1.obl → fU P fr own a w pl o e1) : fU P fr own a w pl o e := by
 unfold roE at h
 split at h
 rename_i e1
 simp only [Option.some.injEq] at h
 subst h
 obtain ⟨⟨h1, h2⟩, h3⟩ := eG ho
 have := hd e1 rfl hob h3
 have e2 : aM own e1.upd = own := aBM h1 fun x hx => hob x.1 (by simpa using List.all_eq_true.1 h2 x hx)
 intro K hK
 refine this K fun v w' pl' m' L hv => ?_
 rw [e2] at m' L hv
 exact hK v w' pl' m' L hv
 cases h
def opN (P : Program) (G : List (Nat × List Value)) (lk : Lk) (ob : Own) (o : Oper) (nid : Nat) (hint : Hint) : Option Eff := match o.op with
 | .buildSlice T len parts => bslO P lk ob T len parts nid hint
 | .call { callee := .value (.func f), args := xs, argTypes := _ } => match hint, xs with
  | .callG out rs ((99999, _) :: post), xs => if enters P f then roE ob (qT P G ob f (dN (xs.toList.map (lk []))) nid (.callG out rs post)) else none
  | _, ⟨[x]⟩ => if enters P f then aFR P lk ob f x hint else none
  | _, _ => none
 | _ => none
theorem opN_ok (m : Mem fr own w pl) (hl : aO a w pl own p lk) (hp : Eng.Holds a p) {ob : Own} {nid : Nat} {hint : Hint} {e : Eff} (h : opN P fr.G lk ob o nid hint = some e) (hob : ∀ i ∈ e.touch, own i = ob i) (ho : conj e.obl) : fU P fr own a w pl o e := by
 unfold opN at h
 split at h
 case h_1 => rename_i T len parts hop; exact (bslO_ok m hl hp hop h hob).x
 case h_2 =>
  rename_i f xs ats hop
  split at h
  ·rename_i out rs k0 post
   split at h
   ·rename_i he
    exact roE_ok h hob ho fun e1 h1 hob1 ho1 => jN m (fun svs hs => cF hl hp hs) (jW hop he) h1 hob1 ho1
   ·cases h
  ·rename_i x _
   split at h
   ·rename_i he; exact (aFQ m hl hp hop he h hob ho).x
   ·cases h
  ·cases h
 case h_3 => cases h
end
end Go.V
