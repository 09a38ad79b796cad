/- Part 17 of the proof. -/
import Derived.Test.YtgpedhfdniigoaaGreatDoorP16
import Derived.Sort.Grow
set_option linter.all false
namespace Go.V
open Go.RowKit
def gL : Nat -> List C -> Option (List D × List (Nat × C))
 | _,[] => some ([],[])
 | k,.d x :: r => match gL (k + 1) r with
  | some (ds,ov) => some (x :: ds,ov)
  | none => none
 | k,.bx i off :: r => match gL (k + 1) r with
  | some (ds,ov) => some (.v undef :: ds,(k,.bx i off) :: ov)
  | none => none
 | k,.mp i :: r => match gL (k + 1) r with
  | some (ds,ov) => some (.v undef :: ds,(k,.mp i) :: ov)
  | none => none
 | _,_ => none
def bslO (P : Program) (lk : Lk) (ob : Own) (T : TypeId) (len : Nat) (parts : Array (Nat × Operand)) (nid : Nat) (hint : Hint) : Option Eff :=
 match ob nid,iV lk parts.toList,P.underlying T,hint with
 | none,some ps,some (.slice e),.call (.tup []) [] [] => match P.info? e with
  | some i => match i.zero with
   | some z => if len <= 1000 && i.size == 1 && (z.cells.size == 1) then
     match eF ((Array.range (len * i.size)).map ((if len * i.size = 0 then #[] else z.cells)[· % (if len * i.size = 0 then #[] else z.cells).size]!)).toList with
     | some zc => match k7 (fun k => some (k * i.size,i.size)) zc ps with
      | some cs => match gL 0 cs with
       | some (ds,ov) => if ds.length == len && !(mkd ov) then some ⟨.c (.ar nid 0),[(nid,.arr 0 ⟨e,ov⟩ 1 (ds.map fun d => [d]))],[nid],[]⟩ else none
       | none => none
      | none => none
     | none => none
    else none
   | none => none
  | none => none
 | _,_,_,_ => none
theorem aDU : ∀ ds : List D,(ds.map fun d => [d]).flatten = ds
 | [] => rfl
 | d :: r => by
  have := aDU r
  simp only [mp1,List.flatten_cons,this]; rfl
section
variable {P : Program} {fr : Fr} {own : Own} {a : Act} {w w' : World} {pl : Pl} {o : Oper} {p : Path} {lk : Lk}
theorem u3 : ∀ {k : Nat} {cs : List C} {ds : List D} {ov : List (Nat × C)} {xs : List Value},gL k cs = some (ds,ov) -> All2 (COk w pl own) cs xs ->
  ds.length = xs.length /\ (∀ y,y ∈ ov -> k <= y.1) /\ ∀ (j : Nat) (d : D) (x : Value),ds[j]? = some d -> xs[j]? = some x -> aGJ w pl own d x (ov.lookup (k + j))
 | k,[],ds,ov,xs,h,hc => by
  simp only [gL,oIQ,pIQ] at h
  obtain ⟨rfl,rfl⟩ := h
  rw [hc.unnil]
  exact ⟨rfl,by simp,fun j d x hd => by simp at hd⟩
 | k,c :: r,ds,ov,xs,h,hc => by
  obtain ⟨v,r',rfl,h1,h2⟩ := hc.uncons
  have fin : ∀ {ds0 : List D} {ov0 : List (Nat × C)} {d0 : D} {ov1 : List (Nat × C)},gL (k + 1) r = some (ds0,ov0) -> ds = d0 :: ds0 -> (ov = ov0 /\ Rd w (Sh pl own) d0 v \/ ∃ c0,ov = (k,c0) :: ov0 /\ COk w pl own c0 v) ->
    ds.length = (v :: r').length /\ (∀ y,y ∈ ov -> k <= y.1) /\ ∀ (j : Nat) (d : D) (x : Value),ds[j]? = some d -> (v :: r')[j]? = some x -> aGJ w pl own d x (ov.lookup (k + j)) := by
   intro ds0 ov0 d0 ov1 hs hds hov
   obtain ⟨g1,g2,g3⟩ := u3 hs h2
   have hno : ov0.lookup k = none := by
    cases hl : ov0.lookup k with
    | none => rfl
    | some c =>
     have : ∃ y,y ∈ ov0 /\ y.1 = k := by
      clear g2 g3 hov hs
      induction ov0 with
      | nil => simp at hl
      | cons y t ih =>
       simp only [List.lookup] at hl
       split at hl
       rename_i hb; exact ⟨y,by simp,(by simpa using hb : k = y.1).symm⟩
       obtain ⟨z,hz,hz2⟩ := ih hl; exact ⟨z,by simp [hz],hz2⟩
     obtain ⟨y,hy,hy2⟩ := this
     have := g2 y hy
     omega
   subst hds
   refine ⟨by simp [g1],fun y hy => ?_,fun j d x hd hx => ?_⟩
   rcases hov with ⟨rfl,_⟩ | ⟨c0,rfl,_⟩
   have := g2 y hy; omega
   rcases mc.1 hy with rfl | hy
   exact lr _
   have := g2 y hy; omega
   cases j with
   | zero =>
    simp at hd hx
    subst hd; subst hx
    rcases hov with ⟨rfl,hr⟩ | ⟨c0,rfl,hr⟩
    rw [Nat.add_zero,hno]; exact hr
    rw [Nat.add_zero]
    simp only [List.lookup,beq_self_eq_true]
    exact hr
   | succ j =>
    simp at hd hx
    have := g3 j d x hd hx
    have hk : k + 1 + j = k + (j + 1) := by omega
    rw [hk] at this
    rcases hov with ⟨rfl,_⟩ | ⟨c0,rfl,_⟩
    exact this
    have hne : (k + (j + 1) == k) = false := by rw [beq_eq_false_iff_ne]; omega
    simp only [List.lookup,hne]
    exact this
  cases c with
  | d x0 =>
   simp only [gL] at h
   split at h
   rename_i ds0 ov0 hs
   simp only [oIQ,pIQ] at h
   exact fin (ov1 := []) hs h.1.symm (.inl ⟨h.2.symm,h1⟩)
   cases h
  | bx i off =>
   simp only [gL] at h
   split at h
   rename_i ds0 ov0 hs
   simp only [oIQ,pIQ] at h
   exact fin (ov1 := []) hs h.1.symm (.inr ⟨_,h.2.symm,h1⟩)
   cases h
  | mp i =>
   simp only [gL] at h
   split at h
   rename_i ds0 ov0 hs
   simp only [oIQ,pIQ] at h
   exact fin (ov1 := []) hs h.1.symm (.inr ⟨_,h.2.symm,h1⟩)
   cases h
  | _ => simp [gL] at h
theorem bslO_ok (m : Mem fr own w pl) (hl : aX a w pl own p lk) (hp : Eng.Holds a p) {T : TypeId} {len : Nat} {parts : Array (Nat × Operand)} (hop : o.op = .buildSlice T len parts) {ob : Own} {nid : Nat} {hint : Hint} {e : Eff} (h : bslO P lk ob T len parts nid hint = some e) (hob : ∀ i ∈ e.touch,own i = ob i) : Does P fr own a w pl o e := by
 unfold bslO at h
 split at h
 rename_i ps el hnone hps hu
 have hparts := gG hl hp hps
 split at h
 rename_i i hi
 split at h
 rename_i z hz
 split at h
 rename_i hc
 simp only [bIQ,decide_eq_true_eq,beq_iff_eq] at hc
 obtain ⟨⟨hc1,hc2⟩,hc3⟩ := hc
 split at h
 rename_i zc hzc
 split at h
 rename_i cs hf
 split at h
 rename_i ds ov hds
 split at h
 rename_i hdl
 simp only [bIQ,beq_iff_eq,Bool.not_eq_true'] at hdl
 obtain ⟨hdl,hmk⟩ := hdl
 simp only [oIQ] at h
 subst h
 obtain ⟨cells',h1,h2⟩ := fX hf (c9 hzc) hparts
 obtain ⟨g1,g2,g3⟩ := u3 hds h2
 have hcs : cells'.size = len := by simp at g1; omega
 have hlen : len <= maxLen := by unfold maxLen; omega
 have hg : w.grownBy (w.alloc (.cells cells' el)) none := ⟨rfl,rfl,rfl,by simp,fun k hk _ => Below.heap_alloc _ _ _ hk⟩
 have hr : (execOp a.eval o).run P w = .ok (.value (.slice (some ⟨w.heap.size,0,none⟩) len len)) (w.alloc (.cells cells' el)) := by
  unfold execOp
  simp only [hop,Instr.buildSlice]
  have hsz2 : ¬ len * i.size > 2 ^ 24 := by rw [hc2]; omega
  by_cases h0 : len * i.size = 0
  simp only [h0,if_true] at h1 hsz2 ⊢
  simp at h1
  simp [run_underlying hu,sizeOf,typeInfo,hi,h0,h1,newRow,newObj]
  rfl
  simp only [h0,if_false] at h1
  simp [run_underlying hu,sizeOf,typeInfo,hi,h0,h1,newRow,newObj,zeroValue,hz,hsz2]
  rfl
 have hdm : (ds.map fun d => [d]).length = len := by rw [lm]; exact hdl
 intro K Q hK
 obtain ⟨pl',m',L,hA⟩ := m.newArr (i := nid) (e := ⟨el,ov⟩) (sz := 1) (es := ds.map fun d => [d]) (xs := cells'.toList) (A := some ⟨w.heap.size,0,none⟩) (cap := len) (by rw [hob nid (by simp),hnone]) hg
  (by rw [show mkd (AT.mk el ov).ov = false from hmk]; exact ⟨by rw [hdm]; simp [hcs],.inr ⟨w.heap.size,len,cells',by rw [hdm],zl _,heap_alloc_new w _,by omega,hlen,by rw [hcs,Nat.mul_one],by rw [hdm,Nat.mul_one,tl (by simp [hcs])]⟩⟩)
  (fun ad h => by injection h with h; rw [<- h]; exact lr _) (by rw [aDU]; exact ⟨by simpa using g1,fun j d x hd hx => by have := g3 j d x hd hx; rwa [Nat.zero_add] at this⟩) (fun dd hdd => by obtain ⟨d,_,rfl⟩ := mmQ.1 hdd; rfl)
 unfold Oper.wp
 rw [hr,Oper.upon_value]
 exact hK _ _ pl' m' L (.inr ⟨0,⟨el,ov⟩,1,_,upd_same _ _ _,lr _,fun _ => by rw [hA,hdm],rfl⟩)
 cases h
 cases h
 cases h
 cases h
 cases h
 cases h
 cases h
 cases h
def roP (ob : Own) : List (Nat × Ob) -> Prop
 | [] => True
 | x :: r => ob x.1 = some x.2 /\ roP ob r
def roE (ob : Own) : Option Eff -> Option Eff
 | some e => some ⟨e.sv,[],e.touch,.un (roP ob e.upd /\ (e.upd.all fun x => e.touch.contains x.1) = true) :: e.obs⟩
 | none => none
theorem aGT {own ob : Own} : ∀ {l : List (Nat × Ob)},roP ob l -> (∀ x ∈ l,own x.1 = ob x.1) -> aY own l = own
 | [],_,_ => rfl
 | x :: r,h,hs => by
  have h1 : upd own x.1 x.2 = own := by
   funext j
   by_cases hj : j = x.1
   subst hj; rw [upd_same,hs x (by simp),h.1]
   exact upd_ne _ _ hj
  show aY (upd own x.1 x.2) r = own
  rw [h1]
  exact aGT h.2 fun y hy => hs y (by simp [hy])
theorem roE_ok {ob : Own} {e0 : Option Eff} {e : Eff} (h : roE ob e0 = some e) (hob : ∀ i ∈ e.touch,own i = ob i) (ho : conj e.obl) (hd : ∀ e1,e0 = some e1 -> (∀ i ∈ e1.touch,own i = ob i) -> conj e1.obl -> fN P fr own a w pl o e1) : fN P fr own a w pl o e := by
 unfold roE at h
 split at h
 rename_i e1
 simp only [oIQ] at h
 subst h
 obtain ⟨⟨h1,h2⟩,h3⟩ := eZ ho
 have := hd e1 rfl hob h3
 have e2 : aY own e1.upd = own := aGT h1 fun x hx => hob x.1 (by simpa using at1.1 h2 x hx)
 intro K hK
 refine this K fun v w' pl' m' L hv => ?_
 rw [e2] at m' L hv
 exact hK v w' pl' m' L hv
 cases h
def opN (P : Program) (G : List (Nat × List Value)) (lk : Lk) (ob : Own) (o : Oper) (nid : Nat) (hint : Hint) : Option Eff := match o.op with
 | .buildSlice T len parts => bslO P lk ob T len parts nid hint
 | .call { callee := .value (.func f),args := xs,argTypes := _ } => match hint,xs with
  | .callG out rs ((99999,_) :: post),xs => if enters P f then roE ob (tG P G ob f (eK (xs.toList.map (lk []))) nid (.callG out rs post)) else none
  | _,_ => none
 | _ => none
theorem opN_ok (m : Mem fr own w pl) (hl : aX a w pl own p lk) (hp : Eng.Holds a p) {ob : Own} {nid : Nat} {hint : Hint} {e : Eff} (h : opN P fr.G lk ob o nid hint = some e) (hob : ∀ i ∈ e.touch,own i = ob i) (ho : conj e.obl) : fN P fr own a w pl o e := by
 unfold opN at h
 split at h
 case h_1 => rename_i T len parts hop; exact (bslO_ok m hl hp hop h hob).x
 case h_2 =>
  rename_i f xs ats hop
  split at h
  ·rename_i out rs k0 post
   split at h
   ·rename_i he
    exact roE_ok h hob ho fun e1 h1 hob1 ho1 => kE m (fun svs hs => dL hl hp hs) (nR hop he) h1 hob1 ho1
   ·cases h
  ·cases h
 case h_3 => cases h
end
end Go.V
