/- Part 20 of the proof. -/
import Derived.Test.YtgpedhfdniigoaaGreatDoorP19
set_option linter.all false
namespace Go.V
open Go.RowKit
section
variable {P : Program} {fr : Fr} {n : Nat} {own : Own} {a : Act} {w w' : World} {pl : Pl} {o : Oper} {p : Path} {lk : Lk}
def aK4 : List C -> Option (List D × Nat × C)
 | [] => none
 | .d x :: r => match aK4 r with
  | some (ds,q,c) => some (x :: ds,q + 1,c)
  | none => none
 | c :: r => match hV r with
  | some ds => some (.v undef :: ds,0,c)
  | none => none
theorem gO {q j : Nat} {c : C} : [(q,c)].lookup j = if j = q then some c else none := by
 by_cases h : j = q
 subst h; simp [List.lookup]
 have : (j == q) = false := by simpa using h
 simp [List.lookup,this,h]
theorem iY {q : Nat} {c : C} (h : q < 4611686018427387904) : mkd [(q,c)] = false := by
 have : (q == 4611686018427387904) = false := by simp; omega
 simp [mkd,this]
theorem oneO_at {c : C} {r : List C} {ds : List D} {vs : List Value} (h : hV r = some ds) (hv : All2 (COk w pl own) (c :: r) vs) : AllO w pl own [(0,c)] (.v undef :: ds) vs := by
 obtain ⟨y,vs',rfl,h1,h2⟩ := hv.uncons
 have hd := i8 h h2
 refine ⟨by simp [hd.1],fun j d x hj hx => ?_⟩
 rw [gO]
 cases j with
 | zero => simp at hx; subst hx; exact h1
 | succ j => simp at hj hx; exact hd.2 j d x hj hx
theorem aG1 : ∀ {cs : List C} {ds : List D} {q : Nat} {c : C} {vs : List Value},aK4 cs = some (ds,q,c) -> All2 (COk w pl own) cs vs -> AllO w pl own [(q,c)] ds vs /\ q < ds.length /\ ds.length = cs.length
 | [],ds,q,c,vs,h,_ => by simp [aK4] at h
 | c0 :: r,ds,q,c,vs,h,hv => by
  have lit : ∀ {c0 : C} {r : List C} {ds : List D} {q : Nat} {c : C} {vs : List Value},All2 (COk w pl own) (c0 :: r) vs -> (match hV r with | some ds => some (.v undef :: ds,0,c0) | none => none) = some (ds,q,c) -> AllO w pl own [(q,c)] ds vs /\ q < ds.length /\ ds.length = (c0 :: r).length := by
   intro c0 r ds q c vs hv h
   split at h
   rename_i ds' hds
   simp only [oIQ,pIQ] at h
   obtain ⟨rfl,rfl,rfl⟩ := h
   have := oneO_at hds hv
   refine ⟨this,by simp,?_⟩
   rw [this.1,<- hv.1]
   cases h
  cases c0 with
  | d x =>
   simp only [aK4] at h
   split at h
   rename_i ds' q' c' hr
   simp only [oIQ,pIQ] at h
   obtain ⟨rfl,rfl,rfl⟩ := h
   obtain ⟨y,vs',rfl,h1,h2⟩ := hv.uncons
   obtain ⟨g1,g2,g3⟩ := aG1 hr h2
   refine ⟨⟨by simp [g1.1],fun j d u hj hx => ?_⟩,by simp; omega,by simp [g3]⟩
   rw [gO]
   cases j with
   | zero => simp at hj hx; subst hj; subst hx; rw [if_neg (by omega)]; exact h1
   | succ j =>
    simp at hj hx
    have := g1.2 j d u hj hx
    rw [gO] at this
    by_cases hq : j = q'
    rw [if_pos (by omega)]; rw [if_pos hq] at this; exact this
    rw [if_neg (by omega)]; rw [if_neg hq] at this; exact this
   cases h
  | _ => exact lit hv h
def bslF (P : Program) (lk : Lk) (ob : Own) (T : TypeId) (len : Nat) (parts : Array (Nat × Operand)) (nid : Nat) : Option Eff :=
 match ob nid,iV lk parts.toList,P.underlying T with
 | none,some ps,some (.slice e) => match P.info? e with
  | some i => match i.zero with
   | some z => if len == 1 && decide (i.size <= 1000) && decide (0 < i.size) && (z.cells.size == i.size) then
     match eF ((Array.range (len * i.size)).map ((if len * i.size = 0 then #[] else z.cells)[· % (if len * i.size = 0 then #[] else z.cells).size]!)).toList with
     | some zc => match k7 (fun k => some (k * i.size,i.size)) zc ps with
      | some cs => match aK4 cs with
       | some (ds,q,c) => if cs.length == i.size then some ⟨.c (.ar nid 0),[(nid,.arr 0 ⟨e,[(q,c)]⟩ i.size [ds])],[nid],[]⟩ else none
       | none => none
      | none => none
     | none => none
    else none
   | none => none
  | none => none
 | _,_,_ => none
theorem bslF_ok (m : Mem fr own w pl) (hl : aX a w pl own p lk) (hp : Eng.Holds a p) {T : TypeId} {len : Nat} {parts : Array (Nat × Operand)} (hop : o.op = .buildSlice T len parts) {ob : Own} {nid : Nat} {e : Eff} (h : bslF P lk ob T len parts nid = some e) (hob : ∀ i ∈ e.touch,own i = ob i) : Does P fr own a w pl o e := by
 unfold bslF at h
 split at h
 rename_i ps el hnone hps hu
 have hparts := gG hl hp hps
 split at h
 rename_i i hi
 split at h
 rename_i z hz
 split at h
 rename_i hc
 simp only [bIQ,decide_eq_true_eq,beq_iff_eq] at hc
 obtain ⟨⟨⟨rfl,hc1⟩,hc2⟩,hc3⟩ := hc
 split at h
 rename_i zc hzc
 split at h
 rename_i cs hf
 split at h
 rename_i ds q c ho1
 split at h
 rename_i hcl
 simp only [beq_iff_eq] at hcl
 simp only [oIQ] at h
 subst h
 obtain ⟨cells',h1,h2⟩ := fX hf (c9 hzc) hparts
 obtain ⟨g1,g2,g3⟩ := aG1 ho1 h2
 have hcs : cells'.size = i.size := by have := g1.1; simp at this; omega
 have hg : w.grownBy (w.alloc (.cells cells' el)) none := ⟨rfl,rfl,rfl,by simp,fun k hk _ => Below.heap_alloc _ _ _ hk⟩
 have hr : (execOp a.eval o).run P w = .ok (.value (.slice (some ⟨w.heap.size,0,none⟩) 1 1)) (w.alloc (.cells cells' el)) := by
  unfold execOp
  simp only [hop,Instr.buildSlice]
  have hsz2 : ¬ 1 * i.size > 2 ^ 24 := by omega
  have h0 : ¬ 1 * i.size = 0 := by omega
  simp only [h0,if_false] at h1
  simp only [Nat.one_mul] at h1 h0 hsz2
  simp [run_underlying hu,sizeOf,typeInfo,hi,h0,h1,newRow,newObj,zeroValue,hz,hsz2]
  rfl
 intro K Q hK
 obtain ⟨pl',m',L,hA⟩ := m.newArr (i := nid) (e := ⟨el,[(q,c)]⟩) (sz := i.size) (es := [ds]) (xs := cells'.toList) (A := some ⟨w.heap.size,0,none⟩) (cap := 1) (by rw [hob nid (by simp),hnone]) hg
  (by
   rw [show mkd (AT.mk el [(q,c)]).ov = false from iY (by omega)]
   exact ⟨by simp [hcs],.inr ⟨w.heap.size,1,cells',rfl,zl _,heap_alloc_new w _,by simp,by decide,by omega,by rw [tl (by simp [hcs])]⟩⟩)
  (fun ad h => by injection h with h; rw [<- h]; exact lr _) (by simpa using g1) (fun dd hd => by simp only [mc,List.not_mem_nil,or_false] at hd; subst hd; omega)
 unfold Oper.wp
 rw [hr,Oper.upon_value]
 exact hK _ _ pl' m' L (.inr ⟨0,⟨el,[(q,c)]⟩,i.size,_,upd_same _ _ _,lr _,fun _ => by rw [hA]; rfl,rfl⟩)
 cases h
 cases h
 cases h
 cases h
 cases h
 cases h
 cases h
 cases h
theorem wG {i k : Nat} {e : AT} {sz : Nat} {es : LD} {xs : List Value} (hx : ownsQ (mkd e.ov) w 0 e.e sz (.slice (pl.sl i).1 es.length (pl.sl i).2) es.length xs) (h0 : 0 < es.length) :
  ∃ g cur fz,(pl.sl i).1 = some ⟨g,0,none⟩ /\ w.heap[g]? = some (.cells cur e.e fz) /\ (∀ (j : Nat) (u : Value),xs[j]? = some u -> cur.toList[j]? = some u /\ w.cell? ⟨g,j,none⟩ = some u) := by
 rcases hx.all.2 with ⟨_,h1⟩ | ⟨g,cap,cur,fz,hv,hB,hg,hn,hsz,htk⟩
 omega
 injection hv with hA _ hcap
 have key : ∀ (j : Nat) (u : Value),xs[j]? = some u -> cur.toList[j]? = some u := fun j u hu => by
  rw [<- htk,List.getElem?_take] at hu
  split at hu
  exact hu
  cases hu
 exact ⟨g,cur,fz,hA,hg,fun j u hu => ⟨key j u hu,by rw [cell_of_row w g _ cur e.e fz hg]; simpa using key j u hu⟩⟩
def appF (P : Program) (lk : Lk) (ob : Own) (T : TypeId) (s x : Operand) (pp : Nat) : Option Eff :=
 match P.underlying T,lk [] x,lk [] s with
 | some (.slice e),some (.c (.ar j k)),some (.c (.ar i ki)) => match P.info? e,ob j,ob i with
  | some ti,some (.arr k' ⟨_,[(q,c)]⟩ sz2 [ds]),some (.arr ki' ⟨e',[]⟩ sz es) => match ti.zero with
   | some z => if k' == k && ki' == ki && e' == e && z.cells.size == ti.size && decide (0 < ti.size) && sz2 == ti.size && sz == ti.size then
     some ⟨.c (.ar i (ki + 1)),[(i,.arr (ki + 1) ⟨e,[(pp,c)]⟩ sz (es ++ [ds]))],[i,j],[.un (pp = es.length * sz + q /\ q < sz /\ pp < 4611686018427387904 /\ (es.length + 1) * (ti.bytes + 1) <= 140737488355328)]⟩ else none
   | none => none
  | _,_,_ => none
 | _,_,_ => none
theorem AllO.join {ds1 ds2 : List D} {xs1 xs2 : List Value} {q : Nat} {c : C} (h1 : AllO w pl own [] ds1 xs1) (h2 : AllO w pl own [(q,c)] ds2 xs2) : AllO w pl own [(ds1.length + q,c)] (ds1 ++ ds2) (xs1 ++ xs2) := by
 refine ⟨by simp [h1.1,h2.1],fun j d u hd hu => ?_⟩
 rw [List.getElem?_append] at hd hu
 rw [gO]
 split at hd
 rename_i hj
 rw [if_pos (by have := h1.1; omega)] at hu
 rw [if_neg (by omega)]
 exact h1.2 j d u hd hu
 rename_i hj
 rw [if_neg (by have := h1.1; omega),<- h1.1] at hu
 have := h2.2 _ d u hd hu
 rw [gO] at this
 by_cases hq : j - ds1.length = q
 rw [if_pos (by omega)]; rw [if_pos hq] at this; exact this
 rw [if_neg (by omega)]; rw [if_neg hq] at this; exact this
theorem appF_ok (m : Mem fr own w pl) (hl : aX a w pl own p lk) (hp : Eng.Holds a p) {T : TypeId} {s x : Operand} {pp : Nat} (hop : o.op = .call { callee := .builtin .append,args := #[s,x],argTypes := #[T,T] }) {ob : Own} {e : Eff} (h : appF P lk ob T s x pp = some e) (hob : ∀ i ∈ e.touch,own i = ob i) (ho : conj e.obl) : Does P fr own a w pl o e := by
 unfold appF at h
 have hrun : ∀ {v w'},(Builtin.append_ #[T,T] o.type #[a.eval s,a.eval x]).run P w = .ok v w' -> (execOp a.eval o).run P w = .ok (.value v) w' := by
  intro v w' hr
  unfold execOp
  simp only [hop,resolve,invoke,builtin,Sem.run_bind,Sem.run_pure,an,List.map_toArray,mp1,List.map_nil,hr]
 split at h
 rename_i el j k i ki hu hx hs
 split at h
 rename_i ti k' e1 q c sz2 ds ki' e' sz es hi hbx hbi
 split at h
 rename_i z hz
 split at h
 rename_i hc
 simp only [bIQ,beq_iff_eq,decide_eq_true_eq] at hc
 obtain ⟨⟨⟨⟨⟨⟨rfl,rfl⟩,rfl⟩,hc1⟩,hc2⟩,rfl⟩,rfl⟩ := hc
 simp only [oIQ] at h
 subst h
 have ho : pp = es.length * ti.size + q /\ q < ti.size /\ pp < 4611686018427387904 /\ (es.length + 1) * (ti.bytes + 1) <= 140737488355328 := ho
 obtain ⟨hpp,hq,hpm,hbd⟩ := ho
 have hj : own j = some (.arr k' ⟨e1,[(q,c)]⟩ ti.size [ds]) := by rw [hob j (by simp),hbx]
 have hi2 : own i = some (.arr ki' ⟨e',[]⟩ ti.size es) := by rw [hob i (by simp),hbi]
 have hv := cD (w := w) (hl [] x _ hx holds_nil hp) hj
 have hvs := cD (w := w) (hl [] s _ hs holds_nil hp) hi2
 obtain ⟨xs,hxs,hr,hss⟩ := m.obj i _ hi2
 obtain ⟨us,hus,hur,hus2⟩ := m.obj j _ hj
 have hur : AllO w pl own [(q,c)] ds us := by simpa using hur
 have hdl : ds.length = ti.size := hus2 ds (by simp)
 obtain ⟨g,cur,fz,hA1,hg,hcell⟩ := wG (i := j) (k := 0) hus (by simp)
 have hone : ∀ u ∈ us,u.oneCell' = true := by
  intro u hu
  obtain ⟨y,hy⟩ := List.getElem?_of_mem hu
  have hlt : y < ds.length := by rw [hur.1]; exact (gsQ.1 hy).1
  have := hur.2 y _ u (ge hlt) hy
  rw [gO] at this
  split at this
  exact COk.one this
  exact Rd.one this
 have hul : us.length = 1 * ti.size := by rw [<- hur.1,hdl,Nat.one_mul]
 obtain ⟨A',c',w',h1,h2,h3,h4⟩ := dI (P := P) (w := w) 0 T o.type e' ti z hu hi hz hc1 hc2 hxs (A2 := some ⟨g,0,none⟩) (m := 1) (c2 := (pl.sl j).2) hul hone
  (.inr ⟨g,0,rfl,fun y u hy => by rw [Nat.zero_add]; exact (hcell y u hy).2⟩) hbd (zl _)
 intro K Q hK
 have hlen : (es ++ [ds]).length = es.length + 1 := by simp
 have hfl : es.flatten.length = es.length * ti.size := a8 hss
 obtain ⟨pl',m',L,hA⟩ := m.turnArrO (k' := ki' + 1) (e' := ⟨e',[(pp,c)]⟩) (es' := es ++ [ds]) (A := A') (cap := c') (xs := xs ++ us) hi2 h3 (by rw [hlen,show mkd (AT.mk e' [(pp,c)]).ov = false from iY hpm]; exact h2)
  (h4.imp id (fun h ad had => by rw [had] at h; simp only [Option.map_some,oIQ] at h; omega))
  (by
   rw [List.flatten_append]
   have := AllO.join hr hur
   rw [show es.flatten.length + q = pp by rw [hfl,hpp]] at this
   simpa using this) (fun dd hd => by
   rcases List.mem_append.1 hd with h | h
   exact hss dd h
   simp only [mc,List.not_mem_nil,or_false] at h; rw [h]; exact hdl) (.inl (by omega))
 have := hrun (v := .slice A' (es.length + 1) c') (w' := w') (by rw [hvs,hv,hA1]; exact h1)
 unfold Oper.wp
 rw [this,Oper.upon_value]
 exact hK _ _ pl' m' L (.inr ⟨ki' + 1,⟨e',[(pp,c)]⟩,ti.size,es ++ [ds],upd_same _ _ _,lr _,fun _ => by rw [hA,hlen],rfl⟩)
 cases h
 cases h
 cases h
 cases h
def appD (P : Program) (lk : Lk) (ob : Own) (T : TypeId) (s x : Operand) : Option Eff :=
 match P.underlying T,rN lk ob x with
 | some (.slice e),some (szx,news,tx) => match P.info? e with
  | some i => match i.zero with
   | some z => if z.cells.size == i.size && decide (0 < i.size) && szx == i.size then
     match lk [] s with
     | some (.c (.ar j k)) => match ob j with
      | some (.arr k' ⟨e',[(pp,c)]⟩ sz es) => if k' == k && e' == e && sz == i.size then some ⟨.c (.ar j (k + 1)),[(j,.arr (k + 1) ⟨e,[(pp,c)]⟩ sz (es ++ news))],j :: tx,[.un (pp < es.length * sz /\ pp < 4611686018427387904 /\ (es.length + news.length) * (i.bytes + 1) <= 140737488355328)]⟩ else none
      | _ => none
     | _ => none
    else none
   | none => none
  | none => none
 | _,_ => none
theorem appD_ok (m : Mem fr own w pl) (hl : aX a w pl own p lk) (hp : Eng.Holds a p) {T : TypeId} {s x : Operand} (hop : o.op = .call { callee := .builtin .append,args := #[s,x],argTypes := #[T,T] }) {ob : Own} {e : Eff} (h : appD P lk ob T s x = some e) (hob : ∀ i ∈ e.touch,own i = ob i) (ho : conj e.obl) : Does P fr own a w pl o e := by
 unfold appD at h
 have hrun : ∀ {v w'},(Builtin.append_ #[T,T] o.type #[a.eval s,a.eval x]).run P w = .ok v w' -> (execOp a.eval o).run P w = .ok (.value v) w' := by
  intro v w' hr
  unfold execOp
  simp only [hop,resolve,invoke,builtin,Sem.run_bind,Sem.run_pure,an,List.map_toArray,mp1,List.map_nil,hr]
 split at h
 rename_i el szx news tx hu hrx
 split at h
 rename_i i hi
 split at h
 rename_i z hz
 split at h
 rename_i hc
 simp only [bIQ,decide_eq_true_eq,beq_iff_eq] at hc
 obtain ⟨⟨hc1,hc2⟩,rfl⟩ := hc
 split at h
 rename_i j k hs
 split at h
 rename_i k' e' pp c sz es hbx
 split at h
 rename_i hk
 simp only [bIQ,beq_iff_eq] at hk
 obtain ⟨⟨rfl,rfl⟩,rfl⟩ := hk
 simp only [oIQ] at h
 subst h
 have ho : pp < es.length * i.size /\ pp < 4611686018427387904 /\ (es.length + news.length) * (i.bytes + 1) <= 140737488355328 := ho
 obtain ⟨hpp,hpm,hbd⟩ := ho
 have hj : own j = some (.arr k' ⟨e',[(pp,c)]⟩ i.size es) := by rw [hob j (by simp),hbx]
 have hv := cD (w := w) (hl [] s _ hs holds_nil hp) hj
 obtain ⟨A2,c2,xs2,hx2,hr2,hs2,_,hA2⟩ := jS m hl hp hrx (fun i hi => hob i (by simp [hi]))
 obtain ⟨xs,hxs,hr,hss⟩ := m.obj j _ hj
 rw [show mkd (AT.mk e' [(pp,c)]).ov = false from iY hpm] at hxs
 have hl2 : xs2.length = news.length * i.size := by rw [<- hr2.1,a8 hs2]
 obtain ⟨A',c',w',h1,h2,h3,h4⟩ := dI (P := P) (w := w) 0 T o.type e' i z hu hi hz hc1 hc2 hxs hl2 (hO hr2) (hA2.imp (fun h => ⟨by rw [h.1]; rfl,h.2⟩) id) hbd (zl _)
 intro K Q hK
 have hlen : (es ++ news).length = es.length + news.length := by simp
 obtain ⟨pl',m',L,hA⟩ := m.turnArr (k' := k' + 1) (es' := es ++ news) (A := A') (cap := c') (xs := xs ++ xs2) hj h3 (by rw [hlen,show mkd (AT.mk e' [(pp,c)]).ov = false from iY hpm]; exact h2)
  (h4.imp id (fun h ad had => by rw [had] at h; simp only [Option.map_some,oIQ] at h; omega))
  (by rw [List.flatten_append]; exact AllO.append hr (AllO.of hr2) (fun y hy => by simp only [mc,List.not_mem_nil,or_false] at hy; subst hy; rw [a8 hss]; exact hpp)) (fun ds hd => by exact (List.mem_append.1 hd).elim (hss ds) (hs2 ds)) (.inl (by omega))
 have := hrun (v := .slice A' (es.length + news.length) c') (w' := w') (by rw [hv,hx2]; exact h1)
 unfold Oper.wp
 rw [this,Oper.upon_value]
 exact hK _ _ pl' m' L (.inr ⟨k' + 1,⟨e',[(pp,c)]⟩,i.size,es ++ news,upd_same _ _ _,lr _,fun _ => by rw [hA,hlen],rfl⟩)
 cases h
 cases h
 cases h
 cases h
 cases h
 cases h
 cases h
def aLK (P : Program) (lk : Lk) (ob : Own) (t : TypeId) (x : Operand) : Option Eff :=
 match lk [] x with
 | some (.c (.ea i k idx off)) => match ob i with
  | some (.arr k' ⟨_,[(pp,c)]⟩ sz es) => if k' == k && (Eng.isAggB P t == some false) then some ⟨.c c,[],[i],[.un (pp = idx * sz + off /\ off < sz)]⟩ else none
  | _ => none
 | _ => none
theorem aLJ (m : Mem fr own w pl) (hl : aX a w pl own p lk) (hp : Eng.Holds a p) {t : TypeId} {x : Operand} (hop : o.op = .load t x) {ob : Own} {e : Eff} (h : aLK P lk ob t x = some e) (hob : ∀ i ∈ e.touch,own i = ob i) (ho : conj e.obl) : Does P fr own a w pl o e := by
 unfold aLK at h
 split at h
 rename_i i k idx off hx
 split at h
 rename_i k' e' pp c sz es hbx
 split at h
 rename_i hc
 simp only [bIQ,beq_iff_eq] at hc
 obtain ⟨rfl,hag⟩ := hc
 simp only [oIQ] at h
 subst h
 have ho : pp = idx * sz + off /\ off < sz := ho
 obtain ⟨hpp,hoff⟩ := ho
 have hi : own i = some (.arr k' ⟨e',[(pp,c)]⟩ sz es) := by rw [hob i (by simp),hbx]
 obtain ⟨k2,e2,sz2,es2,hi2,_,hv,_⟩ := hl [] x _ hx holds_nil hp
 rw [hi] at hi2
 injection hi2 with hi2
 injection hi2 with h1 h2 h3 h4
 subst h1; subst h2; subst h3; subst h4
 obtain ⟨hlt,b,hA,hv⟩ := hv rfl
 obtain ⟨xs,hxs,hr,hss⟩ := m.obj i _ hi
 obtain ⟨g,cur,fz,hA',hg,hcell⟩ := wG (i := i) (k := 0) hxs (by omega)
 rw [hA] at hA'
 simp only [oIQ,Addr.mk.injEq,and_true] at hA'
 subst hA'
 have hfl : es.flatten.length = es.length * sz := a8 hss
 have hb2 : (idx + 1) * sz <= es.length * sz := Nat.mul_le_mul_right _ hlt
 rw [Nat.succ_mul] at hb2
 have hj : pp < es.flatten.length := by rw [hfl,hpp]; omega
 have hj2 : pp < xs.length := by rw [<- hr.1]; exact hj
 have hok := hr.2 pp _ _ (ge hj) (ge hj2)
 rw [show (AT.mk e' [(pp,c)]).ov = [(pp,c)] from rfl,gO,if_pos rfl] at hok
 obtain ⟨hu,_⟩ := hcell pp _ (ge hj2)
 refine eJ (L := cur.toList) (v := xs[pp]) hop m hv (by simpa using hg) ?_ hok
 simp only [Eng.loadB,hag]
 rw [<- hpp]; exact hu
 cases h
 cases h
 cases h
def aEI (P : Program) (lk : Lk) (ob : Own) (ty : TypeId) (x v : Operand) : Option Eff :=
 match lk [] x,lk [] v,P.info? ty with
 | some (.c (.ea i k idx off)),some (.c c),some ti => match ob i with
  | some (.arr k' ⟨e,[(pp,_)]⟩ sz es) => if k' == k && ti.size == 1 then some ⟨.c .any,[(i,.arr k ⟨e,[(pp,c)]⟩ sz es)],[i],[.un (pp = idx * sz + off /\ off < sz /\ pp < 4611686018427387904)]⟩ else none
  | _ => none
 | _,_,_ => none
theorem aH6 (m : Mem fr own w pl) (hl : aX a w pl own p lk) (hp : Eng.Holds a p) {ty : TypeId} {x v : Operand} (hop : o.op = .store ty x v) (hd : o.dst = none) {ob : Own} {e : Eff} (h : aEI P lk ob ty x v = some e) (hob : ∀ i ∈ e.touch,own i = ob i) (ho : conj e.obl) : Does P fr own a w pl o e := by
 unfold aEI at h
 split at h
 ·rename_i i k idx off c ti hx hs hti
  split at h
  ·rename_i k' el pp c0 sz es hbx
   split at h
   ·rename_i hc
    simp only [bIQ,beq_iff_eq] at hc
    obtain ⟨rfl,hc1⟩ := hc
    simp only [oIQ] at h
    subst h
    have ho : pp = idx * sz + off /\ off < sz /\ pp < 4611686018427387904 := ho
    obtain ⟨hpp,hoff,hpm⟩ := ho
    have hi : own i = some (.arr k' ⟨el,[(pp,c0)]⟩ sz es) := by rw [hob i (by simp),hbx]
    obtain ⟨k2,e2,sz2,es2,hi2,_,hv,_⟩ := hl [] x _ hx holds_nil hp
    rw [hi] at hi2
    injection hi2 with hi2
    injection hi2 with h1 h2 h3 h4
    subst h1; subst h2; subst h3; subst h4
    obtain ⟨hlt,b,hA,hv⟩ := hv rfl
    have hcv : COk w pl own c (a.eval v) := hl [] v _ hs holds_nil hp
    have hcl : (a.eval v).cells.toList = [a.eval v] := cells_one hcv.one
    have hcz : (a.eval v).cells.size = ti.size := by have := congrArg List.length hcl; simp at this; omega
    obtain ⟨xs,hxs,hr,hss⟩ := m.obj i _ hi
    rw [show mkd (AT.mk el [(pp,c0)]).ov = false from iY hpm] at hxs
    have hfl : es.flatten.length = es.length * sz := a8 hss
    have hbound : (idx + 1) * sz <= es.length * sz := Nat.mul_le_mul_right _ hlt
    rw [Nat.succ_mul] at hbound
    have hxl : xs.length = es.length * sz := hxs.1
    rcases hxs.2 with ⟨_,h0⟩ | ⟨g,cap,cur,hvv,hB,hg,hn,hcap,hsz,htk⟩
    ·omega
    ·injection hvv with hA1 hA2 hA3
     rw [hA] at hA1
     simp only [oIQ,Addr.mk.injEq,and_true] at hA1
     subst hA1
     have hcu : es.length * sz <= cur.size := by rw [hsz]; exact Nat.mul_le_mul_right _ hn
     have hspL : aI cur.toList pp [a.eval v] = cur.toList.set pp (a.eval v) := by
      have hlt2 : pp < cur.toList.length := by simp; omega
      rw [List.set_eq_take_append_cons_drop,if_pos hlt2]
      simp [aI]
     have hrun : (execOp a.eval o).run P w = .ok .skip (w.setRow b (cur.toList.set pp (a.eval v)).toArray) := by
      unfold execOp
      simp only [hop,hv]
      have := run_storeCells_at (P := P) b (idx * sz + off) el (a.eval v).cells.toList 0 cur w hg (by rw [hcl]; simp; omega) (fun u hu => by rw [hcl] at hu; simp only [mc,List.not_mem_nil,or_false] at hu; rw [hu]; exact hcv.one)
      rw [<- hspL]
      simp only [Nat.add_zero,hcl] at this ⊢
      simp only [Instr.storeAt,Instr.sureAddr,storeVar,sizeOf,typeInfo]
      simp [hti,hcz,hcl,this,aI,hpp]
     have hgr : w.grownBy (w.setRow b (cur.toList.set pp (a.eval v)).toArray) ((pl.sl i).1.map (·.block)) := by
      refine ⟨rfl,rfl,rfl,by simp [World.setRow],fun q hq hne => dQ _ _ _ (fun he => hne ?_)⟩
      rw [hA,he]; rfl
     have htk2 : (cur.toList.set pp (a.eval v)).take (es.length * sz) = xs.set pp (a.eval v) := by rw [<- htk,List.take_set]
     intro K Q hK
     obtain ⟨pl',m',L,hA'⟩ := m.turnArrO (k' := k') (e' := ⟨el,[(pp,c)]⟩) (es' := es) (A := some ⟨b,0,none⟩) (cap := cap) (xs := xs.set pp (a.eval v)) hi hgr
      (by
       rw [show mkd (AT.mk el [(pp,c)]).ov = false from iY hpm]
       exact ⟨by simp [hxl],.inr ⟨b,cap,(cur.toList.set pp (a.eval v)).toArray,rfl,hB,setRow_heap w _ cur _ el (0,0) hg,hn,hcap,by simp [hsz],by simpa using htk2⟩⟩)
      (.inl (by rw [hA])) (by
       refine ⟨by simp only [List.length_set]; exact hr.1,fun j d u hd hu => ?_⟩
       rw [show (AT.mk el [(pp,c)]).ov = [(pp,c)] from rfl,gO]
       by_cases hj : j = pp
       ·subst hj
        rw [if_pos rfl]
        have hlt3 : j < xs.length := by omega
        rw [List.getElem?_set_self hlt3] at hu
        simp only [oIQ] at hu
        rw [<- hu]; exact hcv
       ·rw [if_neg hj]
        rw [List.getElem?_set_ne (fun e => hj e.symm)] at hu
        have := hr.2 j d u hd hu
        rw [show (AT.mk el [(pp,c0)]).ov = [(pp,c0)] from rfl,gO,if_neg hj] at this
        exact this) hss (.inr ⟨rfl,rfl,by rw [<- hA3,<- hA]⟩)
     unfold Oper.wp
     rw [hrun,Oper.upon_skip]
     exact hK undef _ pl' m' L (.inl hd)
   ·cases h
  ·cases h
 ·cases h
def opK (P : Program) (lk : Lk) (ob : Own) (o : Oper) (nid : Nat) (hint : Hint) : Option Eff := match hint with
 | .callG _ (77777 :: r) [] => match o.op with
  | .buildSlice T len parts => bslF P lk ob T len parts nid
  | .load t x => aLK P lk ob t x
  | .store ty x v => match o.dst with
   | none => aEI P lk ob ty x v
   | some _ => none
  | .call { callee := .builtin .append,args := ⟨[s,x]⟩,argTypes := ⟨[T,T']⟩ } => if T == T' then (match r with
   | [pp] => appF P lk ob T s x pp
   | _ => appD P lk ob T s x) else none
  | _ => none
 | _ => none
theorem opK_ok (m : Mem fr own w pl) (hl : aX a w pl own p lk) (hp : Eng.Holds a p) {ob : Own} {nid : Nat} {hint : Hint} {e : Eff} (h : opK P lk ob o nid hint = some e) (hob : ∀ i ∈ e.touch,own i = ob i) (ho : conj e.obl) : Does P fr own a w pl o e := by
 unfold opK at h
 split at h
 ·split at h
  case h_1 => rename_i hop; exact bslF_ok m hl hp hop h hob
  case h_2 => rename_i hop; exact aLJ m hl hp hop h hob ho
  case h_3 =>
   rename_i hop
   split at h
   ·rename_i hd; exact aH6 m hl hp hop hd h hob ho
   ·cases h
  case h_4 =>
   rename_i s x T T' hop
   split at h
   ·rename_i hT
    simp only [beq_iff_eq] at hT
    subst hT
    split at h
    ·exact appF_ok m hl hp hop h hob ho
    ·exact appD_ok m hl hp hop h hob ho
   ·cases h
  case h_5 => cases h
 ·cases h
end
end Go.V
