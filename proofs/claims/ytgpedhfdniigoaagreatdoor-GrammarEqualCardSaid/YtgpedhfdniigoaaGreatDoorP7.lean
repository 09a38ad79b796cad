/- Part 7 of the proof. -/
import Derived.Test.YtgpedhfdniigoaaGreatDoorP6
set_option linter.all false
namespace Go.V
open Go.RowKit
section
variable {P : Program} {fr : Fr} {own : Own} {a : Act} {w w' : World} {pl : Pl} {o : Oper} {p : Path} {lk : Lk}
def kD : SV -> Option (List C)
 | .c x => some [x]
 | .agg xs => some xs
 | .tup _ => none
theorem cells_one {v : Value} (h : v.oneCell' = true) : v.cells.toList = [v] := by
 cases v <;> first | rfl | (simp [Value.oneCell'] at h)
theorem gI {s : SV} {cs : List C} {v : Value} (h : kD s = some cs) (hv : aV w pl own s v) : All2 (COk w pl own) cs v.cells.toList := by
 unfold kD at h
 split at h
 simp only [oIQ] at h; subst h
 have hv : COk w pl own _ v := hv
 rw [cells_one hv.one]; exact All2.one hv
 simp only [oIQ] at h; subst h
 obtain ⟨vs,rfl,h2⟩ := hv
 simpa [Value.cells] using h2
 cases h
theorem iP {cs : List C} {vs : List Value} (h : All2 (COk w pl own) cs vs) : ∀ u ∈ vs,u.oneCell' = true := by
 intro u hu
 obtain ⟨j,hj⟩ := List.getElem?_of_mem hu
 have hlt := (gsQ.1 hj).1
 have hlt2 : j < cs.length := by have := h.1; omega
 exact (h.2 j _ u (ge hlt2) hj).one
def newE (P : Program) (lk : Lk) (ob : Own) (op : Op) (nid : Nat) : Option Eff :=
 match ob nid with
 | some _ => none
 | none => match op with
  | .box ty x => match lk [] x with
   | some s => match kD s with
    | some cs => some ⟨.c (.bx nid 0),[(nid,.box ty cs)],[nid],[]⟩
    | none => none
   | none => none
  | .alloc ty => match P.info? ty with
   | some i => match i.zero with
    | some z => match eF z.cells.toList with
     | some cs => some ⟨.c (.bx nid 0),[(nid,.box ty cs)],[nid],[]⟩
     | none => none
    | none => none
   | none => none
  | _ => none
theorem aDY (m : Mem fr own w pl) {nid : Nat} {ty : TypeId} {cs : List C} {vs : List Value} (hn : own nid = none) (hc : All2 (COk w pl own) cs vs)
  (hr : (execOp a.eval o).run P w = .ok (.value (.pointer (some ⟨w.heap.size,0,none⟩))) (w.alloc (.cells vs.toArray ty))) {t : List Nat} {c : List Obl} : Does P fr own a w pl o ⟨.c (.bx nid 0),[(nid,.box ty cs)],t,c⟩ := by
 intro K Q hK
 obtain ⟨pl',m',L,hb⟩ := m.newBox hn (ty : BT) (fun b hb => by cases hb) hc
 unfold Oper.wp
 rw [hr,Oper.upon_value]
 exact hK _ _ pl' m' L (.inr ⟨⟨_,cs,upd_same _ _ _⟩,by rw [hb]⟩)
theorem aG5 (m : Mem fr own w pl) (hl : aX a w pl own p lk) (hp : Eng.Holds a p) {ob : Own} {nid : Nat} {e : Eff} (h : newE P lk ob o.op nid = some e) (hob : ∀ i ∈ e.touch,own i = ob i) : Does P fr own a w pl o e := by
 unfold newE at h
 split at h
 cases h
 rename_i hnone
 split at h
 rename_i ty x hop
 split at h
 rename_i s hs
 split at h
 rename_i cs hcs
 simp only [oIQ] at h
 subst h
 refine aDY (vs := (a.eval x).cells.toList) m (by rw [hob nid (by simp),hnone]) (gI hcs (hl [] x s hs holds_nil hp)) ?_
 unfold execOp
 simp only [hop]
 simp [Instr.box,newVar,newRow,newObj]
 rfl
 cases h
 cases h
 rename_i ty hop
 split at h
 rename_i i hi
 split at h
 rename_i z hz
 split at h
 rename_i cs hcs
 simp only [oIQ] at h
 subst h
 refine aDY (vs := z.cells.toList) m (by rw [hob nid (by simp),hnone]) (c9 hcs) ?_
 unfold execOp
 simp only [hop]
 simp [Instr.alloc,zeroValue,typeInfo,hi,hz,newVar,newRow,newObj]
 rfl
 cases h
 cases h
 cases h
 cases h
def aI {α : Type} (cells : List α) (off : Nat) (vs : List α) : List α := cells.take off ++ vs ++ cells.drop (off + vs.length)
theorem fQ {α β : Type} {R : α -> β -> Prop} {xs cs : List α} {ys vs : List β} (h : All2 R xs ys) (h' : All2 R cs vs) (off : Nat) : All2 R (aI xs off cs) (aI ys off vs) := by
 unfold aI
 rw [h'.1]
 exact ((h.take off).append h').append (h.drop _)
def aEL (P : Program) (lk : Lk) (ob : Own) (ty : TypeId) (x v : Operand) : Option Eff :=
 match lk [] x,lk [] v,P.info? ty with
 | some (.c (.bx i off)),some s,some ti => match ob i,kD s with
  | some (.box ⟨.c t,q⟩ cells),some cs => if cs.length = ti.size && decide (off + cs.length <= cells.length) then some ⟨.c .any,[(i,.box ⟨.c t,q⟩ (aI cells off cs))],[i],[]⟩ else none
  | _,_ => none
 | _,_,_ => none
theorem aH9 (m : Mem fr own w pl) (hl : aX a w pl own p lk) (hp : Eng.Holds a p) {ty : TypeId} {x v : Operand} (hop : o.op = .store ty x v) (hd : o.dst = none) {ob : Own} {e : Eff} (h : aEL P lk ob ty x v = some e) (hob : ∀ i ∈ e.touch,own i = ob i) : Does P fr own a w pl o e := by
 unfold aEL at h
 split at h
 rename_i i off s ti hx hs hti
 split at h
 rename_i t q cells cs hbx hcs
 split at h
 rename_i hc
 simp only [bIQ,decide_eq_true_eq] at hc
 simp only [oIQ] at h
 subst h
 have hi : own i = some (.box ⟨.c t,q⟩ cells) := by rw [hob i (by simp),hbx]
 obtain ⟨_,hv⟩ := hl [] x _ hx holds_nil hp
 have hcv := gI hcs (hl [] v s hs holds_nil hp)
 obtain ⟨vs,hb,hcells⟩ := m.obj i _ hi
 have hlen1 : (a.eval v).cells.size = ti.size := by have := hcv.1; simp at this; omega
 have hlen2 : off + (a.eval v).cells.toList.length <= vs.length := by have := hcv.1; have := hcells.1; omega
 intro K Q hK
 obtain ⟨m',L⟩ := m.turnBox hi hb (fQ hcells hcv off)
 have hrun : (execOp a.eval o).run P w = .ok .skip (w.setRow (pl.blk i) (aI vs off (a.eval v).cells.toList).toArray) := by
  unfold execOp
  simp only [hop,hv]
  have := run_storeCells_at (P := P) (pl.blk i) off t (a.eval v).cells.toList 0 vs.toArray w hb (by simpa using hlen2) (iP hcv)
  simp only [Nat.add_zero] at this
  simp only [Instr.storeAt,Instr.sureAddr,storeVar,sizeOf,typeInfo]
  simp [hti,hlen1,this,aI]
 unfold Oper.wp
 rw [hrun,Oper.upon_skip]
 exact hK undef _ pl m' L (.inl hd)
 cases h
 cases h
 cases h
def k7 (place : Nat -> Option (Nat × Nat)) (cells : List C) : List (Nat × List C) -> Option (List C)
 | [] => some cells
 | (i,v) :: rest => match place i with
  | none => none
  | some (off,size) => if v.length = size && decide (off + v.length <= cells.length) then k7 place (aI cells off v) rest else none
theorem foldl_set (off : Nat) : ∀ (vs : List Value) (k : Nat) (cells : Array Value),off + k + vs.length <= cells.size ->
  ((vs.zipIdx k).foldl (fun cs (x : Value × Nat) => cs.setIfInBounds (off + x.2) x.1) cells).toList = aI cells.toList (off + k) vs
 | [],k,cells,_ => by simp [aI]
 | v :: r,k,cells,h => by
  simp only [List.zipIdx_cons,List.foldl_cons]
  simp only [lc] at h
  rw [foldl_set off r (k + 1) _ (by simp; omega)]
  simp only [aI,Array.toList_setIfInBounds,lc]
  have hlt : off + k < cells.toList.length := by simp; omega
  have e1 : off + (k + 1) = off + k + 1 := by omega
  rw [e1,List.take_set,List.drop_set_of_lt (by omega),List.take_add_one]
  rw [ge hlt]
  have e2 : off + k + 1 + r.length = off + k + (r.length + 1) := by omega
  rw [e2]
  have : ((cells.toList.take (off + k) ++ (some cells.toList[off + k]).toList).set (off + k) v) = cells.toList.take (off + k) ++ [v] := by
   rw [List.set_append_right _ _ (by simp; omega)]
   have : off + k - (cells.toList.take (off + k)).length = 0 := by simp; omega
   rw [this]; rfl
  rw [this]
  simp
theorem fX {place : Nat -> Option (Nat × Nat)} : ∀ {ps : List (Nat × List C)} {qs : List (Nat × Value)} {cs cs' : List C} {cells : Array Value},k7 place cs ps = some cs' -> All2 (COk w pl own) cs cells.toList ->
  All2 (fun (x : Nat × List C) (y : Nat × Value) => x.1 = y.1 /\ All2 (COk w pl own) x.2 y.2.cells.toList) ps qs -> ∃ cells',Instr.fill place cells qs = some cells' /\ All2 (COk w pl own) cs' cells'.toList
 | [],qs,cs,cs',cells,h,hc,hq => by
  simp only [k7,oIQ] at h
  subst h
  rw [hq.unnil]
  exact ⟨cells,rfl,hc⟩
 | (i,v) :: ps,qs,cs,cs',cells,h,hc,hq => by
  obtain ⟨⟨j,u⟩,r,rfl,⟨he,hu⟩,hr⟩ := hq.uncons
  simp only at he hu
  subst he
  simp only [k7] at h
  split at h
  cases h
  rename_i off size hpl
  split at h
  rename_i hcond
  simp only [bIQ,decide_eq_true_eq] at hcond
  have e1 : u.cells.size = v.length := by have := hu.1; simp at this; omega
  have e2 : cells.size = cs.length := by have := hc.1; simp at this; omega
  have hs := foldl_set off u.cells.toList 0 cells (by simp; omega)
  rw [Nat.add_zero] at hs
  have hz : (u.cells.zipIdx.foldl (fun cs (x : Value × Nat) => cs.setIfInBounds (off + x.2) x.1) cells) = ((u.cells.toList.zipIdx 0).foldl (fun cs (x : Value × Nat) => cs.setIfInBounds (off + x.2) x.1) cells) := by
   rw [<- Array.foldl_toList]; simp
  obtain ⟨cells',h1,h2⟩ := fX (cells := u.cells.zipIdx.foldl (fun cs (x : Value × Nat) => cs.setIfInBounds (off + x.2) x.1) cells) h (by rw [hz,hs]; exact fQ hc hu off) hr
  refine ⟨cells',?_,h2⟩
  simp only [Instr.fill,hpl]
  have hn : ¬ (u.cells.size ≠ size \/ off + u.cells.size > cells.size) := by omega
  have hn' : (decide (u.cells.size ≠ size) || decide (off + u.cells.size > cells.size)) = false := by simp; omega
  rw [if_neg (by simpa using hn)]
  exact h1
  cases h
def iV (lk : Lk) : List (Nat × Operand) -> Option (List (Nat × List C))
 | [] => some []
 | (k,x) :: r => match lk [] x with
  | some s => match kD s,iV lk r with
   | some cs,some l => some ((k,cs) :: l)
   | _,_ => none
  | none => none
theorem gG (hl : aX a w pl own p lk) (hp : Eng.Holds a p) : ∀ {ps : List (Nat × Operand)} {l : List (Nat × List C)},iV lk ps = some l ->
  All2 (fun (x : Nat × List C) (y : Nat × Value) => x.1 = y.1 /\ All2 (COk w pl own) x.2 y.2.cells.toList) l (ps.map fun x => (x.1,a.eval x.2))
 | [],l,h => by simp only [iV,oIQ] at h; subst h; exact All2.nil
 | (k,x) :: r,l,h => by
  simp only [iV] at h
  split at h
  rename_i s hs
  split at h
  rename_i cs l' hcs hl'
  simp only [oIQ] at h
  subst h
  exact All2.cons ⟨rfl,gI hcs (hl [] x s hs holds_nil hp)⟩ (gG hl hp hl')
  cases h
  cases h
def placesOf (fields : Array Field) : Sem (Array (Nat × Nat)) := fields.mapM fun f => Functor.map (Prod.mk f.offset) (sizeOf f.type)
def aGF (P : Program) (lk : Lk) (t : TypeId) (parts : Array (Nat × Operand)) : Option Eff :=
 match P.info? t,iV lk parts.toList with
 | some i,some ps => match i.zero,P.underlying t with
  | some z,some (.struct fields) => match Eng.red P (placesOf fields),eF z.cells.toList with
   | some places,some zc => match k7 (places[·]?) zc ps with
    | some cs => some ⟨.agg cs,[],[],[]⟩
    | none => none
   | _,_ => none
  | some z,some (.array _ el) => match P.info? el,eF z.cells.toList with
   | some ti,some zc => match k7 (fun i => some (i * ti.size,ti.size)) zc ps with
    | some cs => some ⟨.agg cs,[],[],[]⟩
    | none => none
   | _,_ => none
  | _,_ => none
 | _,_ => none
theorem aJF (m : Mem fr own w pl) (hl : aX a w pl own p lk) (hp : Eng.Holds a p) {t : TypeId} {parts : Array (Nat × Operand)} (hop : o.op = .build t parts) {e : Eff} (h : aGF P lk t parts = some e) : Does P fr own a w pl o e := by
 unfold aGF at h
 split at h
 rename_i i ps hi hps
 have hparts := gG hl hp hps
 split at h
 rename_i z fields hz hu
 split at h
 rename_i places zc hpl hzc
 split at h
 rename_i cs hf
 simp only [oIQ] at h
 subst h
 obtain ⟨cells',h1,h2⟩ := fX hf (c9 hzc) hparts
 refine aJ (v := .agg cells') m ?_ ⟨cells'.toList,by simp,h2⟩
 have hrun := Eng.red_run (w := w) hpl
 unfold placesOf at hrun
 unfold execOp
 simp only [hop]
 simp only [Instr.build,zeroValue,typeInfo]
 simp [hi,hz,run_underlying hu,hrun,h1]
 cases h
 cases h
 rename_i z len el hz hu
 split at h
 rename_i ti zc hti hzc
 split at h
 rename_i cs hf
 simp only [oIQ] at h
 subst h
 obtain ⟨cells',h1,h2⟩ := fX hf (c9 hzc) hparts
 refine aJ (v := .agg cells') m ?_ ⟨cells'.toList,by simp,h2⟩
 unfold execOp
 simp only [hop]
 simp only [Instr.build,zeroValue,typeInfo]
 simp [hi,hz,run_underlying hu,sizeOf,typeInfo,hti,h1]
 cases h
 cases h
 cases h
 cases h
end
end Go.V
