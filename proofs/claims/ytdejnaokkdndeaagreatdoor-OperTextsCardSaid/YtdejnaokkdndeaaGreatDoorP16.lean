/- Part 16 of the proof: texts W10z. -/
import Derived.Test.YtdejnaokkdndeaaGreatDoorP15
import Derived.Lib.ConvBytes
set_option linter.all false
namespace Go.V
open Go.RowKit Go.Lib
section
variable {P : Program} {fr : Fr} {own : Own} {a : Act} {w w' : World} {pl : Pl} {o : Oper} {p : Path} {lk : Lk}
def cvsE (P : Program) (lk : Lk) (ob : Own) (s d : TypeId) (x : Operand) (nid : Nat) : Option Eff :=
 match P.underlying s, P.underlying d, exO lk [] x with
 | some .string, some (.slice e), some (.string r) => match P.underlying e, ob nid with
  | some (.int .u8), none => some ⟨.c (.ar nid 0), [(nid, .arr 0 ⟨e, [(4611686018427387904, .any)]⟩ 1 (bytesD r.data.toList))], [nid], [r.size ≤ 1000000000000]⟩
  | _, _ => none
 | _, _, _ => none
theorem qD (l : List UInt8) : (bytesD l).flatten = l.map fun b => D.v (.int .u8 (b.toNat : Int)) := by
 induction l with
 | nil => rfl
 | cons c l ih =>
  have : bytesD (c :: l) = [.v (.int .u8 (c.toNat : Int))] :: bytesD l := rfl
  rw [this, List.flatten_cons, ih]; rfl
theorem cvsE_ok (m : Mem fr own w pl) (hl : aO a w pl own p lk) (hp : Eng.Holds a p) {s d : TypeId} {x : Operand} (hop : o.op = .convert s d x) {ob : Own} {nid : Nat} {e : Eff} (h : cvsE P lk ob s d x nid = some e) (hob : ∀ i ∈ e.touch, own i = ob i) (ho : conj e.obl) : Does P fr own a w pl o e := by
 unfold cvsE at h
 split at h
 rename_i el r hs hd hx
 split at h
 rename_i he hnone
 simp only [Option.some.injEq] at h
 subst h
 have ho : r.size ≤ 1000000000000 := ho
 have hxv := aQ hl hp holds_nil hx
 have hrun := Go.Lib.run_convert_string_bytes (P := P) w s d el r hs hd he
 intro K Q hK
 have hlen : (bytesD r.data.toList).length = r.size := by rw [bG]; rfl
 have hge : r.size ≤ grownCap w r.size 0 el := grownCap_ge w r.size 0 el
 have hcs : (bytesCells w el r).size = grownCap w r.size 0 el := by
  unfold bytesCells
  simp only [Array.size_append, Array.size_map, Array.size_replicate]
  have : r.data.size = r.size := rfl
  omega
 have htk : (bytesCells w el r).toList.take (r.size * 1) = r.data.toList.map fun b => Value.int .u8 (b.toNat : Int) := by
  unfold bytesCells
  rw [Nat.mul_one, Array.toList_append, Array.toList_map, List.take_append_of_le_length (by rw [List.length_map]; exact Nat.le_refl _)]
  exact List.take_of_length_le (by rw [List.length_map]; exact Nat.le_refl _)
 obtain ⟨pl', m', L, hA⟩ := m.newArr (i := nid) (e := ⟨el, [(4611686018427387904, .any)]⟩) (sz := 1) (es := bytesD r.data.toList) (w' := bytesWorld w el r) (A := some ⟨w.heap.size, 0, none⟩) (cap := grownCap w r.size 0 el) (xs := r.data.toList.map fun b => Value.int .u8 (b.toNat : Int))
  (by rw [hob nid (by simp), hnone]) ⟨rfl, rfl, rfl, by rw [bytesWorld_size]; omega, fun j hj _ => bytesWorld_at_old w el r j hj⟩
  (show aBS _ _ _ _ _ _ _ from ⟨by rw [List.length_map, hlen]; show r.data.toList.length = _; rw [Nat.mul_one]; rfl, .inr ⟨w.heap.size, grownCap w r.size 0 el, bytesCells w el r, rfl, Nat.zero_le _, ⟨((bytesCells w el r).size, (bytesCells w el r).size + 1), rfl, bytesWorld_at_new w el r⟩, by rw [hlen]; exact hge, by rw [hcs, Nat.mul_one], by rw [hlen]; exact htk⟩⟩)
  (fun ad had => by injection had with had; subst had; exact Nat.le_refl _)
  (by
   rw [qD]
   refine ⟨by simp, fun j dd xx hd1 hx1 => ?_⟩
   have hj : j < r.data.toList.length := by
    have := (List.getElem?_eq_some_iff.1 hd1).1
    simpa using this
   have hjr : r.data.toList.length = r.size := rfl
   have hlk : ([(4611686018427387904, C.any)] : List (Nat × C)).lookup j = none := by
    have : (j == 4611686018427387904) = false := by rw [beq_eq_false_iff_ne]; omega
    simp [List.lookup, this]
   show vL _ _ _ _ _ (([(4611686018427387904, C.any)] : List (Nat × C)).lookup j)
   rw [hlk]
   simp only [List.getElem?_map, Option.map_eq_some_iff] at hd1 hx1
   obtain ⟨b, hb, rfl⟩ := hd1
   obtain ⟨b', hb', rfl⟩ := hx1
   rw [hb] at hb'
   injection hb' with hb'
   subst hb'
   exact Rd.v _ rfl)
  (fun ds hds => by obtain ⟨_, _, rfl⟩ := List.mem_map.1 hds; rfl)
 have : (execOp a.eval o).run P w = .ok (.value (.slice (some ⟨w.heap.size, 0, none⟩) r.size (grownCap w r.size 0 el))) (bytesWorld w el r) := by
  unfold execOp
  simp only [hop, hxv]
  simp only [Sem.run_bind, hrun]
  rfl
 unfold Oper.wp
 rw [this, Oper.upon_value]
 exact hK _ _ pl' m' L (.inr ⟨0, ⟨el, [(4611686018427387904, .any)]⟩, 1, bytesD r.data.toList, upd_same _ _ _, Nat.le_refl _, fun _ => by rw [hA, hlen], rfl⟩)
 cases h
 cases h
def stmE (P : Program) (lk : Lk) (ob : Own) (ty : TypeId) (x v : Operand) : Option Eff :=
 match lk [] x, exO lk [] v, P.info? ty with
 | some (.c (.ea i k idx 0)), some u, some ti => match ob i with
  | some (.arr k' ⟨e, [(4611686018427387904, .any)]⟩ 1 es) => if k' == k && ti.size == 1 && u.oneCell' then some ⟨.c .any, [(i, .arr k ⟨e, [(4611686018427387904, .any)]⟩ 1 (es.set idx [.v u]))], [i], [es.length ≤ 1000000000000]⟩ else none
  | _ => none
 | _, _, _ => none
theorem yU {g off : Nat} {t : TypeId} {fz : Nat × Nat} {cur : Array Value} {v : Value} (hg : w.heap[g]? = some (.cells cur t fz)) (hlt : off < cur.size) (hf : fz.1 = cur.size) (h1 : v.oneCell' = true) :
  (storeCells ⟨g, off, none⟩ [v] 0).run P w = .ok () (w.setRow g (cur.setIfInBounds off v)) := by
 have hadd : (⟨g, off, none⟩ : Addr).add 0 = ⟨g, off, none⟩ := by unfold Addr.add; split <;> simp_all
 have hcell : w.cell? ⟨g, off, none⟩ = some cur[off] := by simp [World.cell?, hg, hlt]
 have hfro : w.frozen? ⟨g, off, none⟩ = false := by
  simp only [World.frozen?, hg]
  have : ¬ fz.1 ≤ off := by omega
  simp [this]
 have hst : (store ((⟨g, off, none⟩ : Addr).add 0) v).run P w = .ok () (w.setRow g (cur.setIfInBounds off v)) := by
  rw [hadd, run_store P w _ v _ h1, hcell]
  simp [hfro, setCell_eq_setRow w g off cur t fz v hg]
 simp only [storeCells, Sem.run_bind, hst, Result.andThen_ok]
 rfl
theorem stmE_ok (m : Mem fr own w pl) (hl : aO a w pl own p lk) (hp : Eng.Holds a p) {ty : TypeId} {x v : Operand} (hop : o.op = .store ty x v) (hd : o.dst = none) {ob : Own} {e : Eff} (h : stmE P lk ob ty x v = some e) (hob : ∀ i ∈ e.touch, own i = ob i) (ho : conj e.obl) : Does P fr own a w pl o e := by
 unfold stmE at h
 split at h
 ·rename_i i k idx u ti hx hs hti
  split at h
  ·rename_i k' el es hbx
   split at h
   ·rename_i hc
    simp only [Bool.and_eq_true, beq_iff_eq] at hc
    obtain ⟨⟨rfl, hc1⟩, hone⟩ := hc
    simp only [Option.some.injEq] at h
    subst h
    have ho : es.length ≤ 1000000000000 := ho
    have hi : own i = some (.arr k' ⟨el, [(4611686018427387904, .any)]⟩ 1 es) := by rw [hob i (by simp), hbx]
    obtain ⟨k2, e2, sz2, es2, hi2, _, hv, _⟩ := hl [] x _ hx holds_nil hp
    rw [hi] at hi2
    injection hi2 with hi2
    injection hi2 with h1 h2 h3 h4
    subst h1; subst h2; subst h3; subst h4
    obtain ⟨hlt, b, hA, hv⟩ := hv rfl
    have hvv := aQ hl hp holds_nil hs
    obtain ⟨xs, hxs, hr, hss⟩ := m.obj i _ hi
    have hxs : aBS w 0 el 1 (.slice (pl.sl i).1 es.length (pl.sl i).2) es.length xs := hxs
    have hfl := bC hss
    rcases hxs.2 with ⟨_, h0⟩ | ⟨g, cap, cur, hv2, hB, ⟨fz, hf, hg⟩, hn, hsz, htk⟩
    ·omega
    ·injection hv2 with hA1 hA2 hA3
     rw [hA] at hA1
     simp only [Option.some.injEq, Addr.mk.injEq, and_true] at hA1
     subst hA1
     have hcl : idx < cur.size := by omega
     have hcells : u.cells = #[u] := by cases u <;> first | rfl | (simp [Value.oneCell'] at hone; done)
     have hrun : (execOp a.eval o).run P w = .ok .skip (w.setRow b (cur.setIfInBounds idx u)) := by
      unfold execOp
      simp only [hop, hv, hvv]
      have := yU (P := P) (w := w) (g := b) (off := idx) hg hcl hf hone
      simp only [Instr.storeAt, Instr.sureAddr, storeVar, sizeOf, typeInfo]
      simp [hti, hc1, hcells, this]
     have hgr : w.grownBy (w.setRow b (cur.setIfInBounds idx u)) ((pl.sl i).1.map (·.block)) := by
      refine ⟨rfl, rfl, rfl, by simp [World.setRow], fun q hq hne => cJ _ _ _ (fun he => hne ?_)⟩
      rw [hA, he]; rfl
     have hxl : xs.length = es.length * 1 := hxs.1
     intro K Q hK
     obtain ⟨pl', m', L, hA'⟩ := m.turnArr (k' := k') (es' := es.set idx [.v u]) (A := some ⟨b, 0, none⟩) (cap := cap) (xs := xs.set idx u) hi hgr
      (show aBS _ _ _ _ _ _ _ from ⟨by simp only [List.length_set]; exact hxl, .inr ⟨b, cap, cur.setIfInBounds idx u, by simp, hB, ⟨fz, by simp [hf], setRow_heap w b cur _ el fz hg⟩, by simpa using hn, by simp [hsz], by
       simp only [List.length_set, Array.toList_setIfInBounds, List.take_set, htk]⟩⟩)
      (.inl (by rw [hA])) (by
       have hfs : (es.set idx [D.v u]).flatten = es.flatten.set idx (.v u) := by
        have := jG (sz := 1) hss (idx := idx) (ds := [D.v u]) rfl hlt
        rw [this, Nat.mul_one]
        have hlf : idx < es.flatten.length := by rw [hfl]; omega
        unfold aH
        rw [List.set_eq_take_append_cons_drop, if_pos hlf]; simp
       rw [hfs]
       refine ⟨by simp only [List.length_set]; exact hr.1, fun j dd xx hd1 hx1 => ?_⟩
       rw [List.getElem?_set] at hd1 hx1
       by_cases hj : idx = j
       ·subst hj
        have hlf : idx < es.flatten.length := by rw [hfl]; omega
        have hlx : idx < xs.length := by rw [← hr.1]; exact hlf
        rw [if_pos rfl, if_pos hlf] at hd1
        rw [if_pos rfl, if_pos hlx] at hx1
        injection hd1 with hd1; injection hx1 with hx1
        subst hd1; subst hx1
        have hlk : ([(4611686018427387904, C.any)] : List (Nat × C)).lookup idx = none := by
         have : (idx == 4611686018427387904) = false := by rw [beq_eq_false_iff_ne]; omega
         simp [List.lookup, this]
        show vL _ _ _ _ _ (([(4611686018427387904, C.any)] : List (Nat × C)).lookup idx)
        rw [hlk]
        exact Rd.v _ hone
       ·rw [if_neg hj] at hd1 hx1
        exact hr.2 j dd xx hd1 hx1) (fun dd hdd => (List.mem_or_eq_of_mem_set hdd).elim (hss dd) (fun he => by rw [he]; rfl)) (.inr ⟨rfl, by simp, by rw [← hA3, ← hA]⟩)
     unfold Oper.wp
     rw [hrun, Oper.upon_skip]
     exact hK undef _ pl' m' L (.inl hd)
   ·cases h
  ·cases h
 ·cases h
def cvmE (P : Program) (lk : Lk) (ob : Own) (s d : TypeId) (x : Operand) (hint : Hint) : Option Eff :=
 match hint, P.underlying s, P.underlying d, lk [] x with
 | .call (.c (.d (.v (.string r)))) _ _, some (.slice e), some .string, some (.c (.ar i k)) => match P.underlying e, ob i with
  | some (.int .u8), some (.arr k' ⟨_, [(4611686018427387904, .any)]⟩ 1 es) => if k' == k then some ⟨.c (.d (.v (.string r))), [], [i], [.bytes es r, r.size ≤ 1000000000000]⟩ else none
  | _, _ => none
 | _, _, _, _ => none
theorem cvmE_ok (m : Mem fr own w pl) (hl : aO a w pl own p lk) (hp : Eng.Holds a p) {s d : TypeId} {x : Operand} (hop : o.op = .convert s d x) {ob : Own} {hint : Hint} {e : Eff} (h : cvmE P lk ob s d x hint = some e) (hob : ∀ i ∈ e.touch, own i = ob i) (ho : conj e.obl) : Does P fr own a w pl o e := by
 unfold cvmE at h
 split at h
 rename_i _ r _ _ el i k hs hd hx
 split at h
 rename_i _ k' e' es he hbx
 split at h
 rename_i hk
 simp only [beq_iff_eq] at hk
 subst hk
 simp only [Option.some.injEq] at h
 subst h
 obtain ⟨ho, hsz⟩ : es = bytesD r.data.toList ∧ r.size ≤ 1000000000000 := ho
 subst ho
 have hj : own i = some (.arr k' ⟨e', [(4611686018427387904, .any)]⟩ 1 (bytesD r.data.toList)) := by rw [hob i (by simp), hbx]
 have hv := bX (w := w) (hl [] x _ hx holds_nil hp) hj
 rw [bG] at hv
 refine aE (v := .string r) m ?_ (Rd.v _ rfl)
 have hcells : ∀ (j : Nat) (b : UInt8), r.data.toList[j]? = some b → ∃ ad, (pl.sl i).1 = some ad ∧ ad.spot = none ∧ w.cell? ⟨ad.block, ad.off + j, none⟩ = some (.int .u8 (b.toNat : Int)) := by
  intro j b hjj
  obtain ⟨xs, hxs, hr, hss⟩ := m.obj i _ hj
  have hr : AllO w pl own [(4611686018427387904, .any)] (bytesD r.data.toList).flatten xs := hr
  have hjl : j < r.data.toList.length := (List.getElem?_eq_some_iff.1 hjj).1
  have hjr : r.data.toList.length = r.size := rfl
  rw [qD] at hr
  have hxl : j < xs.length := by rw [← hr.1, List.length_map]; exact hjl
  have hok := hr.2 j (.v (.int .u8 (b.toNat : Int))) xs[j] (by rw [List.getElem?_map, hjj]; rfl) (List.getElem?_eq_getElem hxl)
  have hlk : ([(4611686018427387904, C.any)] : List (Nat × C)).lookup j = none := by
   have : (j == 4611686018427387904) = false := by rw [beq_eq_false_iff_ne]; omega
   simp [List.lookup, this]
  rw [hlk] at hok
  have hxe : xs[j] = .int .u8 (b.toNat : Int) := Rd.exact hok
  rcases hxs.all.2 with ⟨_, h0⟩ | ⟨g, cap, cur, fz, hv2, hB, hg, hn, hs2, htk⟩
  rw [bG] at h0; omega
  injection hv2 with hA
  refine ⟨⟨g, 0, none⟩, hA, rfl, ?_⟩
  rw [cell_of_row w g _ cur e' fz hg]
  have h3 : xs[j]? = some (.int .u8 (b.toNat : Int)) := by rw [List.getElem?_eq_getElem hxl, hxe]
  rw [← htk, List.getElem?_take] at h3
  split at h3
  simpa using h3
  cases h3
 unfold execOp
 simp only [hop, hv]
 simp only [Sem.run_bind, rO hs he hd hcells]
 rfl
 cases h
 cases h
 cases h
def opZ (P : Program) (lk : Lk) (ob : Own) (o : Oper) (nid : Nat) (hint : Hint) : Option Eff := match o.op with
 | .convert s d x => match cvsE P lk ob s d x nid with
  | some e => some e
  | none => cvmE P lk ob s d x hint
 | .store ty x v => match o.dst with
  | none => stmE P lk ob ty x v
  | some _ => none
 | _ => none
theorem opZ_ok (m : Mem fr own w pl) (hl : aO a w pl own p lk) (hp : Eng.Holds a p) {ob : Own} {nid : Nat} {hint : Hint} {e : Eff} (h : opZ P lk ob o nid hint = some e) (hob : ∀ i ∈ e.touch, own i = ob i) (ho : conj e.obl) : Does P fr own a w pl o e := by
 unfold opZ at h
 split at h
 case h_1 =>
  rename_i hop
  split at h
  ·rename_i he
   simp only [Option.some.injEq] at h
   subst h
   exact cvsE_ok m hl hp hop he hob ho
  ·exact cvmE_ok m hl hp hop h hob ho
 case h_2 =>
  rename_i hop
  split at h
  ·rename_i hd; exact stmE_ok m hl hp hop hd h hob ho
  ·cases h
 case h_3 => cases h
end
end Go.V
