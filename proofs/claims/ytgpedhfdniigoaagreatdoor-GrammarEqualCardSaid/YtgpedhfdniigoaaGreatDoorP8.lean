/- Part 8 of the proof. -/
import Derived.Test.YtgpedhfdniigoaaGreatDoorP7
set_option linter.all false
namespace Go.V
open Go.RowKit
section
variable {P : Program} {fr : Fr} {own : Own} {a : Act} {w w' : World} {pl : Pl} {o : Oper} {p : Path} {lk : Lk}
def hV : List C -> Option (List D)
 | [] => some []
 | .d x :: r => match hV r with
  | some l => some (x :: l)
  | none => none
 | _ :: _ => none
theorem i8 : ∀ {cs : List C} {ds : List D} {vs : List Value},hV cs = some ds -> All2 (COk w pl own) cs vs -> All2 (Rd w (Sh pl own)) ds vs
 | [],ds,vs,h,hv => by simp only [hV,oIQ] at h; subst h; rw [hv.unnil]; exact All2.nil
 | .d x :: r,ds,vs,h,hv => by
  simp only [hV] at h
  split at h
  rename_i l hl
  simp only [oIQ] at h
  subst h
  obtain ⟨y,r',rfl,h1,h2⟩ := hv.uncons
  exact All2.cons h1 (i8 hl h2)
  cases h
 | .bx .. :: _,_,_,h,_ => by simp [hV] at h
 | .ar .. :: _,_,_,h,_ => by simp [hV] at h
 | .pe .. :: _,_,_,h,_ => by simp [hV] at h
 | .ea .. :: _,_,_,h,_ => by simp [hV] at h
 | .pg .. :: _,_,_,h,_ => by simp [hV] at h
 | .any :: _,_,_,h,_ => by simp [hV] at h
def chunks {α : Type} (sz : Nat) : Nat -> List α -> List (List α)
 | 0,_ => []
 | n + 1,l => l.take sz :: chunks sz n (l.drop sz)
theorem chunks_flatten {α : Type} (sz : Nat) : ∀ (n : Nat) (l : List α),l.length = n * sz -> (chunks sz n l).flatten = l /\ (chunks sz n l).length = n /\ ∀ ds,ds ∈ chunks sz n l -> ds.length = sz
 | 0,l,h => by simp at h; simp [chunks,h]
 | n + 1,l,h => by
  rw [Nat.succ_mul] at h
  obtain ⟨h1,h2,h3⟩ := chunks_flatten sz n (l.drop sz) (by simp; omega)
  refine ⟨by simp [chunks,h1],by simp [chunks,h2],fun ds hd => ?_⟩
  simp only [chunks,mc] at hd
  rcases hd with rfl | hd
  simp; omega
  exact h3 ds hd
def aDI : Option Nat -> C -> C
 | some sz,.d (.v (.slice none 0 0)) => .d (.sl sz [])
 | _,c => c
def jY : List (Option Nat) -> List C -> List C
 | m :: ms,c :: cs => aDI m c :: jY ms cs
 | _,cs => cs
theorem sP {own : Own} {w : World} {pl : Pl} {m : Option Nat} {c : C} {v : Value} (h : COk w pl own c v) : COk w pl own (aDI m c) v := by
 unfold aDI
 split
 rename_i sz; have := Rd.exact h; subst this; exact Rd.nil sz
 exact h
theorem iF {own : Own} {w : World} {pl : Pl} : ∀ {ms : List (Option Nat)} {cs : List C} {vs : List Value},All2 (COk w pl own) cs vs -> All2 (COk w pl own) (jY ms cs) vs
 | [],cs,vs,h => by cases cs <;> exact h
 | m :: ms,[],vs,h => h
 | m :: ms,c :: cs,vs,h => by
  obtain ⟨y,r,rfl,h1,h2⟩ := h.uncons
  exact All2.cons (sP h1) (iF h2)
def bslE (P : Program) (lk : Lk) (ob : Own) (T : TypeId) (len : Nat) (parts : Array (Nat × Operand)) (nid : Nat) (hint : Hint) : Option Eff :=
 match ob nid,iV lk parts.toList,P.underlying T with
 | none,some ps,some (.slice e) => match P.info? e with
  | some i => match i.zero with
   | some z => if len * i.size <= 2 ^ 24 && decide (0 < i.size) && (z.cells.size == i.size) then
     match eF ((Array.range (len * i.size)).map ((if len * i.size = 0 then #[] else z.cells)[· % (if len * i.size = 0 then #[] else z.cells).size]!)).toList with
     | some zc => match k7 (fun k => some (k * i.size,i.size)) zc ps with
      | some cs => match hV (jY hint.ms cs) with
       | some ds => if ds.length == len * i.size then some (if hint.fz then ⟨.c (.d (.sl i.size (chunks i.size len ds))),[],[],[]⟩ else ⟨.c (.ar nid 0),[(nid,.arr 0 e i.size (chunks i.size len ds))],[nid],[]⟩) else none
       | none => match cs with
        | [c] => if len == 1 && i.size == 1 then some ⟨.c (.ar nid 0),[(nid,.arr 0 ⟨e,[(0,c)]⟩ 1 [[.v undef]])],[nid],[]⟩ else none
        | _ => none
      | none => none
     | none => none
    else none
   | none => none
  | none => none
 | _,_,_ => none
theorem aED {own : Own} {w : World} {pl : Pl} {c : C} {d : D} {u : Value} (h : COk w pl own c u) : AllO w pl own [(0,c)] [d] [u] := by
 refine ⟨rfl,fun j d' x hd hx => ?_⟩
 cases j with
 | zero => simp at hx; subst hx; exact h
 | succ j => simp at hx
theorem bslE_ok (m : Mem fr own w pl) (hl : aX a w pl own p lk) (hp : Eng.Holds a p) {T : TypeId} {len : Nat} {parts : Array (Nat × Operand)} (hop : o.op = .buildSlice T len parts) {ob : Own} {nid : Nat} {hint : Hint} {e : Eff} (h : bslE P lk ob T len parts nid hint = some e) (hob : ∀ i ∈ e.touch,own i = ob i) : Does P fr own a w pl o e := by
 unfold bslE at h
 split at h
 rename_i ps el hnone hps hu
 have hparts := gG hl hp hps
 split at h
 rename_i i hi
 split at h
 rename_i z hz
 split at h
 rename_i hc
 simp only [bIQ,decide_eq_true_eq,beq_iff_eq] at hc
 obtain ⟨⟨hc1,hc2⟩,hc3⟩ := hc
 split at h
 rename_i zc hzc
 split at h
 rename_i cs hf
 split at h
 rename_i ds hds
 split at h
 rename_i hdl
 simp only [beq_iff_eq] at hdl
 simp only [oIQ] at h
 obtain ⟨cells',h1,h2⟩ := fX hf (c9 hzc) hparts
 have hrd := i8 hds (iF h2)
 obtain ⟨hfl,hln,hsz⟩ := chunks_flatten i.size len ds hdl
 have hcs : cells'.size = len * i.size := by have := hrd.1; simp at this; omega
 have hlen : len <= maxLen := by
  have : len <= len * i.size := Nat.le_mul_of_pos_right len hc2
  unfold maxLen; omega
 have hg : w.grownBy (w.alloc (.cells cells' el)) none := ⟨rfl,rfl,rfl,by simp,fun k hk _ => Below.heap_alloc _ _ _ hk⟩
 have hr : (execOp a.eval o).run P w = .ok (.value (.slice (some ⟨w.heap.size,0,none⟩) len len)) (w.alloc (.cells cells' el)) := by
  unfold execOp
  simp only [hop,Instr.buildSlice]
  have hsz2 : ¬ len * i.size > 2 ^ 24 := by omega
  by_cases h0 : len * i.size = 0
  simp only [h0,if_true] at h1 hsz2 ⊢
  simp at h1
  simp [run_underlying hu,sizeOf,typeInfo,hi,h0,h1,newRow,newObj]
  rfl
  simp only [h0,if_false] at h1
  simp [run_underlying hu,sizeOf,typeInfo,hi,h0,h1,newRow,newObj,zeroValue,hz,hsz2]
  rfl
 cases hfz : hint.fz with
 | true =>
  rw [hfz,if_pos rfl] at h
  subst h
  intro K Q hK
  obtain ⟨m',L⟩ := m.ext hg
  unfold Oper.wp
  rw [hr,Oper.upon_value]
  have key : ∀ (x y : Nat) (dd : List D) (d : D),(chunks i.size len ds)[x]? = some dd -> dd[y]? = some d -> ∃ u,cells'.toList[x * i.size + y]? = some u /\ Rd w (Sh pl own) d u := fun x y dd d hx hy => by
   have := dK hsz hx hy
   rw [hfl] at this
   exact hrd.get this
  have hRd : Rd (w.alloc (.cells cells' el)) (Sh pl own) (.sl i.size (chunks i.size len ds)) (.slice (some ⟨w.heap.size,0,none⟩) (chunks i.size len ds).length len) :=
   Rd.sl (fun x y => cells'.toList.getD (x * i.size + y) undef) ⟨(m.hS _).2 (.inr m.grow),fun j hj => absurd (m.blk_lt hj) (Nat.lt_irrefl _)⟩ (heap_alloc_new w _) (by rw [hln]; exact lr _) hlen hsz
    (fun x y dd d hx hy => by
     obtain ⟨u,hu1,_⟩ := key x y dd d hx hy
     rw [Nat.zero_add,gd,hu1]
     rw [Array.getElem?_toList] at hu1
     exact hu1)
    (fun x y dd d hx hy => by
     obtain ⟨u,hu1,hu2⟩ := key x y dd d hx hy
     rw [gd,hu1]
     exact L.rd hu2)
  rw [hln] at hRd
  exact hK _ _ pl m' L (.inr hRd)
 | false =>
  rw [hfz,if_neg (by decide)] at h
  subst h
  intro K Q hK
  obtain ⟨pl',m',L,hA⟩ := m.newArr (i := nid) (e := el) (sz := i.size) (es := chunks i.size len ds) (xs := cells'.toList) (A := some ⟨w.heap.size,0,none⟩) (cap := len) (by rw [hob nid (by simp),hnone]) hg
   ⟨by rw [hln]; simp [hcs],.inr ⟨w.heap.size,len,cells',by rw [hln],zl _,heap_alloc_new w _,by omega,hlen,hcs,by rw [hln,tl (by simp [hcs])]⟩⟩
   (fun ad h => by injection h with h; rw [<- h]; exact lr _) (by rw [hfl]; exact AllO.of hrd) hsz
  unfold Oper.wp
  rw [hr,Oper.upon_value]
  exact hK _ _ pl' m' L (.inr ⟨0,el,i.size,_,upd_same _ _ _,lr _,fun _ => by rw [hA,hln],rfl⟩)
 cases h
 split at h
 rename_i c hds0
 split at h
 rename_i hc1'
 simp only [bIQ,beq_iff_eq] at hc1'
 simp only [oIQ] at h
 obtain ⟨cells',h1,h2⟩ := fX hf (c9 hzc) hparts
 have hlen : len <= maxLen := by
  have : len <= len * i.size := Nat.le_mul_of_pos_right len hc2
  unfold maxLen; omega
 have hg : w.grownBy (w.alloc (.cells cells' el)) none := ⟨rfl,rfl,rfl,by simp,fun k hk _ => Below.heap_alloc _ _ _ hk⟩
 have hr : (execOp a.eval o).run P w = .ok (.value (.slice (some ⟨w.heap.size,0,none⟩) len len)) (w.alloc (.cells cells' el)) := by
  unfold execOp
  simp only [hop,Instr.buildSlice]
  have hsz2 : ¬ len * i.size > 2 ^ 24 := by omega
  by_cases h0 : len * i.size = 0
  simp only [h0,if_true] at h1 hsz2 ⊢
  simp at h1
  simp [run_underlying hu,sizeOf,typeInfo,hi,h0,h1,newRow,newObj]
  rfl
  simp only [h0,if_false] at h1
  simp [run_underlying hu,sizeOf,typeInfo,hi,h0,h1,newRow,newObj,zeroValue,hz,hsz2]
  rfl
 obtain ⟨rfl,hi1⟩ := hc1'
 subst h
 obtain ⟨u,r,hcl,hcu,hnil⟩ := h2.uncons
 have hr0 := hnil.unnil
 subst hr0
 intro K Q hK
 obtain ⟨pl',m',L,hA⟩ := m.newArr (i := nid) (e := ⟨el,[(0,c)]⟩) (sz := 1) (es := [[.v undef]]) (xs := cells'.toList) (A := some ⟨w.heap.size,0,none⟩) (cap := 1) (by rw [hob nid (by simp),hnone]) hg
  ⟨by rw [hcl]; rfl,.inr ⟨w.heap.size,1,cells',rfl,zl _,heap_alloc_new w _,by decide,hlen,by have := congrArg List.length hcl; simpa using this,by rw [hcl]; rfl⟩⟩
  (fun ad h => by injection h with h; rw [<- h]; exact lr _) (by rw [hcl]; exact aED hcu) (fun ds hd => by simp only [mc,List.not_mem_nil,or_false] at hd; rw [hd]; rfl)
 unfold Oper.wp
 rw [hr,Oper.upon_value]
 exact hK _ _ pl' m' L (.inr ⟨0,⟨el,[(0,c)]⟩,1,_,upd_same _ _ _,lr _,fun _ => by rw [hA]; rfl,rfl⟩)
 cases h
 cases h
 cases h
 cases h
 cases h
 cases h
 cases h
 cases h
theorem tM {j k l n : Nat} {e : AT} {sz : Nat} {es : LD} {v : Value} (h : COk w pl own (.av j k l n) v) (hi : own j = some (.arr k e sz es)) : l + n <= es.length /\ v = .slice (if (pl.sl j).2 = l then (pl.sl j).1 else (pl.sl j).1.map (·.add (l * sz))) n ((pl.sl j).2 - l) := by
 obtain ⟨k2,e2,sz2,es2,hi2,_,hv,_⟩ := h
 rw [hi] at hi2
 injection hi2 with hi2
 injection hi2 with h4 h5 h6 h7
 subst h4; subst h5; subst h6; subst h7
 exact hv rfl
theorem nF {α : Type} {sz : Nat} : ∀ {es : List (List α)} (_ : ∀ ds,ds ∈ es -> ds.length = sz) (l : Nat),(es.drop l).flatten = es.flatten.drop (l * sz)
 | [],_,l => by simp
 | x :: r,_,0 => by simp
 | x :: r,h,l + 1 => by
  have hx : x.length = sz := h x (by simp)
  rw [List.drop_succ_cons,List.flatten_cons,nF (fun ds hd => h ds (by simp [hd])) l,List.drop_append,List.drop_of_length_le (l := x) (by rw [hx,Nat.succ_mul]; omega),List.nil_append,hx,show (l + 1) * sz - sz = l * sz by rw [Nat.succ_mul]; omega]
theorem dG {α : Type} {sz : Nat} : ∀ {es : List (List α)} (_ : ∀ ds,ds ∈ es -> ds.length = sz) (n : Nat),(es.take n).flatten = es.flatten.take (n * sz)
 | [],_,n => by simp
 | x :: r,_,0 => by simp
 | x :: r,h,n + 1 => by
  have hx : x.length = sz := h x (by simp)
  rw [List.take_succ_cons,List.flatten_cons,List.flatten_cons,dG (fun ds hd => h ds (by simp [hd])) n,List.take_append,tl (l := x) (by rw [hx,Nat.succ_mul]; omega),hx,show (n + 1) * sz - sz = n * sz by rw [Nat.succ_mul]; omega]
theorem wW {α : Type} {sz : Nat} {es : List (List α)} (h : ∀ ds,ds ∈ es -> ds.length = sz) (l n : Nat) : ((es.drop l).take n).flatten = (es.flatten.drop (l * sz)).take (n * sz) := by
 rw [dG (fun ds hd => h ds (List.mem_of_mem_drop hd)),nF h]
def rN (lk : Lk) (ob : Own) (x : Operand) : Option (Nat × LD × List Nat) :=
 match lk [] x with
 | some (.c (.d (.sl sz es))) => some (sz,es,[])
 | some (.c (.ar i k)) => match ob i with
  | some (.arr k' ⟨_,[]⟩ sz es) => if k' == k then some (sz,es,[i]) else none
  | _ => none
 | some (.c (.av i k l n)) => match ob i with
  | some (.arr k' ⟨_,[]⟩ sz es) => if k' == k then some (sz,(es.drop l).take n,[i]) else none
  | _ => none
 | _ => none
theorem jS (m : Mem fr own w pl) (hl : aX a w pl own p lk) (hp : Eng.Holds a p) {ob : Own} {x : Operand} {sz : Nat} {es : LD} {t : List Nat} (h : rN lk ob x = some (sz,es,t)) (hob : ∀ i ∈ t,own i = ob i) :
  ∃ A c xs,a.eval x = .slice A es.length c /\ All2 (Rd w (Sh pl own)) es.flatten xs /\ (∀ ds,ds ∈ es -> ds.length = sz) /\ es.length <= maxLen /\ ((es = [] /\ c = 0) \/ ∃ b off,A = some ⟨b,off,none⟩ /\ ∀ (j : Nat) (u : Value),xs[j]? = some u -> w.cell? ⟨b,off + j,none⟩ = some u) := by
 unfold rN at h
 split at h
 ·rename_i sz' es' hx
  simp only [oIQ,pIQ] at h
  obtain ⟨rfl,rfl,rfl⟩ := h
  have hv : Rd _ _ _ _ := hl [] x _ hx holds_nil hp
  generalize a.eval x = v at hv
  cases hv with
  | nil => exact ⟨none,0,[],rfl,All2.nil,by simp,by simp,.inl ⟨rfl,rfl⟩⟩
  | far _ ad => exact ⟨some ad,0,[],rfl,All2.nil,by simp,by simp,.inl ⟨rfl,rfl⟩⟩
  | sl us hF hb hc hm hs hu hr =>
   rename_i b off c cs e fz
   have hfl := a8 hs
   refine ⟨_,_,(List.range es'.flatten.length).map fun j => us (j / sz') (j % sz'),rfl,⟨by simp,fun j d u hd hu' => ?_⟩,hs,by omega,.inr ⟨b,off,rfl,fun j u hju => ?_⟩⟩
   ·have hlt := (gsQ.1 hd).1
    rw [List.getElem?_map,List.getElem?_range hlt] at hu'
    simp only [Option.map_some,oIQ] at hu'
    subst hu'
    rw [hfl] at hlt
    have hpos : 0 < sz' := by rcases Nat.eq_zero_or_pos sz' with h0 | h0; (· simp [h0] at hlt); exact h0
    have hq : j / sz' < es'.length := Nat.div_lt_of_lt_mul (by rw [Nat.mul_comm]; exact hlt)
    have hdd : (es'[j / sz']).length = sz' := hs _ (List.getElem_mem hq)
    have hm' : j % sz' < sz' := Nat.mod_lt _ hpos
    have hj : (j / sz') * sz' + j % sz' = j := Nat.div_add_mod' j sz'
    have hget : (es'[j / sz'])[j % sz']? = some ((es'[j / sz'])[j % sz']'(by omega)) := ge (by omega)
    have := dK hs (ge hq) hget
    rw [hj,hd] at this
    injection this with this
    rw [this]
    exact hr _ _ _ _ (ge hq) hget
   ·have hlt : j < es'.flatten.length := by have := (gsQ.1 hju).1; simpa using this
    rw [List.getElem?_map,List.getElem?_range hlt] at hju
    simp only [Option.map_some,oIQ] at hju
    subst hju
    rw [hfl] at hlt
    have hpos : 0 < sz' := by rcases Nat.eq_zero_or_pos sz' with h0 | h0; (· simp [h0] at hlt); exact h0
    have hq : j / sz' < es'.length := Nat.div_lt_of_lt_mul (by rw [Nat.mul_comm]; exact hlt)
    have hdd : (es'[j / sz']).length = sz' := hs _ (List.getElem_mem hq)
    have hm' : j % sz' < sz' := Nat.mod_lt _ hpos
    have hj : (j / sz') * sz' + j % sz' = j := Nat.div_add_mod' j sz'
    have hget : (es'[j / sz'])[j % sz']? = some ((es'[j / sz'])[j % sz']'(by omega)) := ge (by omega)
    have := hu _ _ _ _ (ge hq) hget
    rw [cell_of_row w b _ cs e fz hb]
    rw [Nat.add_assoc,hj] at this
    exact this
 ·rename_i i k hx
  split at h
  ·rename_i k' e' sz' es' hbx
   split at h
   ·rename_i hk
    simp only [beq_iff_eq] at hk
    subst hk
    simp only [oIQ,pIQ] at h
    obtain ⟨rfl,rfl,rfl⟩ := h
    have hj : own i = some (.arr k' ⟨e',[]⟩ sz' es') := by rw [hob i (by simp),hbx]
    have hv := cD (w := w) (hl [] x _ hx holds_nil hp) hj
    obtain ⟨xs,hxs,hr,hs⟩ := m.obj i _ hj
    rcases hxs.2 with ⟨hA,h0⟩ | ⟨g,cap,cur,hA,hB,hg,hn,hc,hsz,htk⟩
    ·injection hA with h1 h2 h3
     have : es' = [] := List.eq_nil_of_length_eq_zero h0
     subst this
     exact ⟨none,0,xs,by rw [hv,h1,h3],hr,hs,by simp,.inl ⟨rfl,rfl⟩⟩
    ·injection hA with h1 h2 h3
     refine ⟨some ⟨g,0,none⟩,cap,xs,by rw [hv,h1,h3],hr,hs,by omega,.inr ⟨g,0,rfl,fun j u hju => ?_⟩⟩
     rw [cell_of_row w g _ cur e' (0,0) hg]
     rw [<- htk,List.getElem?_take] at hju
     split at hju
     ·simpa using hju
     ·cases hju
   ·cases h
  ·cases h
 ·rename_i i k l n hx
  split at h
  ·rename_i k' e' sz' es' hbx
   split at h
   ·rename_i hk
    simp only [beq_iff_eq] at hk
    subst hk
    simp only [oIQ,pIQ] at h
    obtain ⟨rfl,rfl,rfl⟩ := h
    have hj : own i = some (.arr k' ⟨e',[]⟩ sz' es') := by rw [hob i (by simp),hbx]
    obtain ⟨hln,hv⟩ := tM (w := w) (hl [] x _ hx holds_nil hp) hj
    obtain ⟨xs,hxs,hr,hs⟩ := m.obj i _ hj
    have hr : All2 (Rd w (Sh pl own)) es'.flatten xs := hr
    have hlen : ((es'.drop l).take n).length = n := by simp; omega
    have hs' : ∀ ds,ds ∈ (es'.drop l).take n -> ds.length = sz' := fun ds hd => hs ds (List.mem_of_mem_drop (List.mem_of_mem_take hd))
    have hR : All2 (Rd w (Sh pl own)) ((es'.drop l).take n).flatten ((xs.drop (l * sz')).take (n * sz')) := by rw [wW hs]; exact (hr.drop _).take _
    rcases hxs.2 with ⟨hA,h0⟩ | ⟨g,cap,cur,hA,hB,hg,hn,hc,hsz,htk⟩
    ·injection hA with h1 h2 h3
     have : es' = [] := List.eq_nil_of_length_eq_zero h0
     subst this
     simp only [lnQ] at hln
     obtain rfl : l = 0 := by omega
     obtain rfl : n = 0 := by omega
     refine ⟨none,0,_,?_,hR,hs',by simp,.inl ⟨by simp,rfl⟩⟩
     rw [hv,h1,h3]; simp
    ·injection hA with h1 h2 h3
     by_cases hcl : cap = l
     ·obtain rfl : n = 0 := by omega
      refine ⟨some ⟨g,0,none⟩,cap - l,_,?_,hR,hs',by omega,.inr ⟨g,0,rfl,fun j u hju => ?_⟩⟩
      ·rw [hv,h1,h3,if_pos hcl,hlen]
      ·simp at hju
     ·refine ⟨some ⟨g,l * sz',none⟩,cap - l,_,?_,hR,hs',by omega,.inr ⟨g,l * sz',rfl,fun j u hju => ?_⟩⟩
      ·rw [hv,h1,h3,if_neg hcl,hlen]; simp [addr_add]
      ·rw [cell_of_row w g _ cur e' (0,0) hg]
       rw [List.getElem?_take] at hju
       split at hju
       ·rw [List.getElem?_drop,<- htk,List.getElem?_take] at hju
        split at hju
        ·simpa using hju
        ·cases hju
       ·cases hju
   ·cases h
  ·cases h
 ·cases h
def ovIn (es : LD) : List (Nat × C) -> Bool
 | [] => true
 | ov => match es with
  | ds :: _ => ov.all fun x => decide (x.1 < ds.length)
  | [] => false
def appE (P : Program) (lk : Lk) (ob : Own) (T : TypeId) (s x : Operand) (nid : Nat) : Option Eff :=
 match P.underlying T,rN lk ob x with
 | some (.slice e),some (szx,news,tx) => match P.info? e with
  | some i => match i.zero with
   | some z => if z.cells.size == i.size && decide (0 < i.size) && szx == i.size then
     match lk [] s with
     | some (.c (.ar j k)) => match ob j with
      | some (.arr k' ⟨e',ov⟩ sz es) => if k' == k && e' == e && sz == i.size && ovIn es ov && !(mkd ov) then some ⟨.c (.ar j (k + 1)),[(j,.arr (k + 1) ⟨e,ov⟩ sz (es ++ news))],j :: tx,[(es.length + news.length) * (i.bytes + 1) <= 140737488355328]⟩ else none
      | _ => none
     | some (.c (.d (.v (.slice none 0 0)))) => match ob nid with
      | none => some ⟨.c (.ar nid 0),[(nid,.arr 0 e i.size news)],nid :: tx,[news.length * (i.bytes + 1) <= 140737488355328]⟩
      | some _ => none
     | _ => none
    else none
   | none => none
  | none => none
 | _,_ => none
theorem dI (B : Nat) (T ty e : TypeId) (i : TypeInfo) (z : Value) (ht : P.underlying T = some (.slice e)) (hi : P.info? e = some i) (hz : i.zero = some z) (hzs : z.cells.size = i.size) (hsz : 0 < i.size)
  {A : Option Addr} {n c : Nat} {xs : List Value} (hown : w.ownsRow B e i.size (.slice A n c) n xs) {A2 : Option Addr} {m c2 : Nat} {news : List Value} (hl : news.length = m * i.size) (h1 : ∀ u ∈ news,u.oneCell' = true)
  (hA2 : (m = 0 /\ c2 = 0) \/ ∃ b off,A2 = some ⟨b,off,none⟩ /\ ∀ (j : Nat) (u : Value),news[j]? = some u -> w.cell? ⟨b,off + j,none⟩ = some u)
  (hb : (n + m) * (i.bytes + 1) <= 140737488355328) (hbase : B <= w.heap.size) :
  ∃ A' c' w',(Builtin.append_ #[T,T] ty #[.slice A n c,.slice A2 m c2]).run P w = .ok (.slice A' (n + m) c') w' /\ w'.ownsRow B e i.size (.slice A' (n + m) c') (n + m) (xs ++ news) /\ w.grownBy w' (A.map (·.block)) /\
   (A'.map (·.block) = A.map (·.block) \/ A'.map (·.block) = some w.heap.size) := by
 have ob : ∀ (A : Option Addr) (n c : Nat),(Value.slice A n c).ownBlock = A.map (·.block) := fun A n c => by cases A <;> rfl
 have hle : (n + m) <= (n + m) * (i.bytes + 1) := Nat.le_mul_of_pos_right _ (by omega)
 have hle2 : (n + m) * i.bytes <= (n + m) * (i.bytes + 1) := Nat.mul_le_mul_left _ (by omega)
 rcases hA2 with ⟨rfl,rfl⟩ | ⟨b,off,rfl,hcell⟩
 ·have hn : news = [] := List.eq_nil_of_length_eq_zero (by simpa using hl)
  subst hn
  refine ⟨A,c,w,?_,by simpa using hown,⟨rfl,rfl,rfl,lr _,fun _ _ _ => rfl⟩,.inl rfl⟩
  rcases hown.2 with ⟨hv,h0⟩ | ⟨g,cap,cur,hv,_,_,hnc,_⟩
  ·injection hv with e1 e2 e3
   subst e1; subst e2; subst e3
   cases A2 <;> simp [Builtin.append_,run_underlying ht,sizeOf,typeInfo,hi,Builtin.lenOf,Builtin.firstCells,loadCells,loadCellsFrom]
  ·injection hv with e1 e2 e3
   subst e1; subst e3
   cases A2 <;> simp [Builtin.append_,run_underlying ht,sizeOf,typeInfo,hi,Builtin.lenOf,Builtin.firstCells,loadCells,loadCellsFrom,hnc,storeCells]
 ·obtain ⟨v',w',hrun,h2,h3,_,h5⟩ := run_append_own_at (P := P) w B T ty e i z i.size i.bytes ht hi hz rfl rfl hzs hsz _ n xs hown ⟨b,off,none⟩ m c2 news hl (fun j u hu => by rw [addr_add]; exact hcell j u hu) h1 (by unfold maxLen; omega) (by omega) hbase
  obtain ⟨A',c',rfl⟩ : ∃ A' c',v' = .slice A' (n + m) c' := by
   rcases h2.2 with ⟨rfl,h0⟩ | ⟨g,cap,_,rfl,_⟩
   ·exact ⟨_,_,by rw [h0]⟩
   ·exact ⟨_,_,rfl⟩
  rw [ob] at h3
  rw [ob,ob] at h5
  exact ⟨A',c',w',hrun,h2,h3,h5⟩
theorem hO {F : Nat -> Prop} {ds : List D} {vs : List Value} (h : All2 (Rd w F) ds vs) : ∀ u ∈ vs,u.oneCell' = true := by
 intro u hu
 obtain ⟨j,hj⟩ := List.getElem?_of_mem hu
 have hlt := (gsQ.1 hj).1
 have hlt2 : j < ds.length := by have := h.1; omega
 exact (h.2 j _ u (ge hlt2) hj).one
theorem AllO.append {ov : List (Nat × C)} {ds ds' : List D} {xs xs' : List Value} (h : AllO w pl own ov ds xs) (h' : AllO w pl own [] ds' xs') (hov : ∀ x,x ∈ ov -> x.1 < ds.length) : AllO w pl own ov (ds ++ ds') (xs ++ xs') := by
 refine ⟨by simp [h.1,h'.1],fun j d x hd hx => ?_⟩
 rw [List.getElem?_append] at hd hx
 split at hd
 rename_i hj; rw [if_pos (by have := h.1; omega)] at hx; exact h.2 j d x hd hx
 rename_i hj
 rw [if_neg (by have := h.1; omega)] at hx
 rw [h.1] at hd
 have hn : ov.lookup j = none := by
  rw [List.lookup_eq_none_iff]
  intro p hp
  have := hov p hp
  have hne : j ≠ p.1 := by omega
  simpa using hne
 rw [hn]
 exact h'.2 _ d x hd hx
theorem ovIn_lt {es : LD} {ov : List (Nat × C)} (h : ovIn es ov = true) : ∀ x,x ∈ ov -> x.1 < es.flatten.length := by
 intro x hx
 cases ov with
 | nil => cases hx
 | cons y r =>
  cases es with
  | nil => simp [ovIn] at h
  | cons ds t =>
   simp only [ovIn,at1,decide_eq_true_eq] at h
   have := h x hx
   simp only [List.flatten_cons,la]
   omega
theorem appE_ok (m : Mem fr own w pl) (hl : aX a w pl own p lk) (hp : Eng.Holds a p) {T : TypeId} {s x : Operand} (hop : o.op = .call { callee := .builtin .append,args := #[s,x],argTypes := #[T,T] }) {ob : Own} {nid : Nat} {e : Eff} (h : appE P lk ob T s x nid = some e) (hob : ∀ i ∈ e.touch,own i = ob i) (ho : conj e.obl) : Does P fr own a w pl o e := by
 unfold appE at h
 have hrun : ∀ {v w'},(Builtin.append_ #[T,T] o.type #[a.eval s,a.eval x]).run P w = .ok v w' -> (execOp a.eval o).run P w = .ok (.value v) w' := by
  intro v w' hr
  unfold execOp
  simp only [hop,resolve,invoke,builtin,Sem.run_bind,Sem.run_pure,an,List.map_toArray,mp1,List.map_nil,hr]
 split at h
 rename_i el szx news tx hu hrx
 split at h
 rename_i i hi
 split at h
 rename_i z hz
 split at h
 rename_i hc
 simp only [bIQ,decide_eq_true_eq,beq_iff_eq] at hc
 obtain ⟨⟨hc1,hc2⟩,rfl⟩ := hc
 split at h
 rename_i j k hs
 split at h
 rename_i k' e' ov sz es hbx
 split at h
 rename_i hk
 simp only [bIQ,beq_iff_eq] at hk
 obtain ⟨⟨⟨⟨rfl,rfl⟩,rfl⟩,hov⟩,hmk⟩ := hk
 have hmk : mkd ov = false := by simpa using hmk
 simp only [oIQ] at h
 subst h
 have ho : (es.length + news.length) * (i.bytes + 1) <= 140737488355328 := ho
 have hj : own j = some (.arr k' ⟨e',ov⟩ i.size es) := by rw [hob j (by simp),hbx]
 have hv := cD (w := w) (hl [] s _ hs holds_nil hp) hj
 obtain ⟨A2,c2,xs2,hx2,hr2,hs2,_,hA2⟩ := jS m hl hp hrx (fun i hi => hob i (by simp [hi]))
 obtain ⟨xs,hxs,hr,hss⟩ := m.obj j _ hj
 rw [show mkd (AT.mk e' ov).ov = false from hmk] at hxs
 have hl2 : xs2.length = news.length * i.size := by rw [<- hr2.1,a8 hs2]
 obtain ⟨A',c',w',h1,h2,h3,h4⟩ := dI (P := P) (w := w) 0 T o.type e' i z hu hi hz hc1 hc2 hxs hl2 (hO hr2) (hA2.imp (fun h => ⟨by rw [h.1]; rfl,h.2⟩) id) ho (zl _)
 intro K Q hK
 have hlen : (es ++ news).length = es.length + news.length := by simp
 obtain ⟨pl',m',L,hA⟩ := m.turnArr (k' := k' + 1) (es' := es ++ news) (A := A') (cap := c') (xs := xs ++ xs2) hj h3 (by rw [hlen,show mkd (AT.mk e' ov).ov = false from hmk]; exact h2)
  (h4.imp id (fun h ad had => by rw [had] at h; simp only [Option.map_some,oIQ] at h; omega))
  (by rw [List.flatten_append]; exact AllO.append hr (AllO.of hr2) (ovIn_lt hov)) (fun ds hd => by exact (List.mem_append.1 hd).elim (hss ds) (hs2 ds)) (.inl (by omega))
 have := hrun (v := .slice A' (es.length + news.length) c') (w' := w') (by rw [hv,hx2]; exact h1)
 unfold Oper.wp
 rw [this,Oper.upon_value]
 exact hK _ _ pl' m' L (.inr ⟨k' + 1,⟨e',ov⟩,i.size,es ++ news,upd_same _ _ _,lr _,fun _ => by rw [hA,hlen],rfl⟩)
 cases h
 cases h
 rename_i hs
 split at h
 rename_i hnone
 simp only [oIQ] at h
 subst h
 have ho : news.length * (i.bytes + 1) <= 140737488355328 := ho
 have hv : a.eval s = .slice none 0 0 := Rd.exact (hl [] s _ hs holds_nil hp)
 obtain ⟨A2,c2,xs2,hx2,hr2,hs2,_,hA2⟩ := jS m hl hp hrx (fun i hi => hob i (by simp [hi]))
 have hl2 : xs2.length = news.length * i.size := by rw [<- hr2.1,a8 hs2]
 obtain ⟨A',c',w',h1,h2,h3,h4⟩ := dI (P := P) (w := w) 0 T o.type el i z hu hi hz hc1 hc2 (World.ownsRow_nil w _ _ _) hl2 (hO hr2) (hA2.imp (fun h => ⟨by rw [h.1]; rfl,h.2⟩) id) (by rw [Nat.zero_add]; exact ho) (zl _)
 rw [Nat.zero_add] at h1 h2
 intro K Q hK
 obtain ⟨pl',m',L,hA⟩ := m.newArr (i := nid) (e := el) (sz := i.size) (es := news) (xs := xs2) (A := A') (cap := c') (by rw [hob nid (by simp),hnone]) h3 (by show w'.ownsRow 0 _ _ _ _ _; simpa using h2)
  (fun ad had => by
   rw [had] at h4
   rcases h4 with h | h
   simp at h
   simp only [Option.map_some,oIQ] at h; omega) (AllO.of hr2) hs2
 have := hrun (v := .slice A' news.length c') (w' := w') (by rw [hv,hx2]; exact h1)
 unfold Oper.wp
 rw [this,Oper.upon_value]
 exact hK _ _ pl' m' L (.inr ⟨0,el,i.size,news,upd_same _ _ _,lr _,fun _ => by rw [hA],rfl⟩)
 cases h
 cases h
 cases h
 cases h
 cases h
 cases h
def appV (P : Program) (lk : Lk) (ob : Own) (T : TypeId) (s x : Operand) (nid : Nat) : Option Eff :=
 match P.underlying T,lk [] x,lk [] s with
 | some (.slice e),some (.c (.ar j k)),some (.c (.d (.v (.slice none 0 0)))) => match P.info? e,ob j,ob nid with
  | some i,some (.arr k' ⟨_,[(0,c)]⟩ 1 [[d]]),none => match i.zero with
   | some z => if k' == k && z.cells.size == i.size && i.size == 1 then some ⟨.c (.ar nid 0),[(nid,.arr 0 ⟨e,[(0,c)]⟩ 1 [[d]])],[nid,j],[i.bytes + 1 <= 140737488355328]⟩ else none
   | none => none
  | _,_,_ => none
 | _,_,_ => none
theorem appV_ok (m : Mem fr own w pl) (hl : aX a w pl own p lk) (hp : Eng.Holds a p) {T : TypeId} {s x : Operand} (hop : o.op = .call { callee := .builtin .append,args := #[s,x],argTypes := #[T,T] }) {ob : Own} {nid : Nat} {e : Eff} (h : appV P lk ob T s x nid = some e) (hob : ∀ i ∈ e.touch,own i = ob i) (ho : conj e.obl) : Does P fr own a w pl o e := by
 unfold appV at h
 split at h
 rename_i el j k hu hx hs
 split at h
 rename_i i k' e' c d hi hbx hnone
 split at h
 rename_i z hz
 split at h
 rename_i hc
 simp only [bIQ,beq_iff_eq] at hc
 obtain ⟨⟨rfl,hc1⟩,hc2⟩ := hc
 simp only [oIQ] at h
 subst h
 have ho : i.bytes + 1 <= 140737488355328 := ho
 have hj : own j = some (.arr k' ⟨e',[(0,c)]⟩ 1 [[d]]) := by rw [hob j (by simp),hbx]
 have hv := cD (w := w) (hl [] x _ hx holds_nil hp) hj
 have hvs : a.eval s = .slice none 0 0 := Rd.exact (hl [] s _ hs holds_nil hp)
 obtain ⟨xs,hxs,hr,_⟩ := m.obj j _ hj
 have hxl : xs.length = 1 := hr.1.symm
 match xs,hxl,hxs,hr with
 | [u],_,hxs,hr =>
  have hcu : COk w pl own c u := hr.2 0 d u rfl rfl
  rcases hxs.2 with ⟨_,h0⟩ | ⟨g,cap,cur,hvv,hB,hg,hn,hcap,hsz,htk⟩
  simp at h0
  injection hvv with hA1 hA2 hA3
  have hcell : ∀ (q : Nat) (y : Value),[u][q]? = some y -> w.cell? ⟨g,0 + q,none⟩ = some y := by
   intro q y hq
   rw [cell_of_row w g _ cur e' (0,0) hg]
   rw [<- htk,List.getElem?_take] at hq
   split at hq
   simpa using hq
   cases hq
  obtain ⟨A',c',w',h1,h2,h3,h4⟩ := dI (P := P) (w := w) 0 T o.type el i z hu hi hz hc1 (by omega) (World.ownsRow_nil w _ _ _) (A2 := some ⟨g,0,none⟩) (m := 1) (c2 := cap) (news := [u]) (by simp [hc2]) (fun y hy => by simp only [mc,List.not_mem_nil,or_false] at hy; rw [hy]; exact hcu.one)
   (.inr ⟨g,0,rfl,hcell⟩) (by rw [Nat.zero_add,Nat.one_mul]; exact ho) (zl _)
  rw [Nat.zero_add] at h1 h2
  intro K Q hK
  obtain ⟨pl',m',L,hA⟩ := m.newArr (i := nid) (e := ⟨el,[(0,c)]⟩) (sz := 1) (es := [[d]]) (xs := [u]) (A := A') (cap := c') (by rw [hob nid (by simp),hnone]) h3 (by show w'.ownsRow 0 _ _ _ _ _; rw [hc2] at h2; simpa using h2)
   (fun ad had => by
    rw [had] at h4
    rcases h4 with h | h
    simp at h
    simp only [Option.map_some,oIQ] at h; omega) (aED hcu) (fun ds hd => by simp only [mc,List.not_mem_nil,or_false] at hd; rw [hd]; rfl)
  have : (execOp a.eval o).run P w = .ok (.value (.slice A' 1 c')) w' := by
   unfold execOp
   have h1' : (Builtin.append_ #[T,T] o.type #[a.eval s,a.eval x]).run P w = .ok (.slice A' 1 c') w' := by
    rw [hvs,hv,hA1,hA3]; exact h1
   simp only [hop,resolve,invoke,builtin,Sem.run_bind,Sem.run_pure,an,List.map_toArray,mp1,List.map_nil,h1']
  unfold Oper.wp
  rw [this,Oper.upon_value]
  exact hK _ _ pl' m' L (.inr ⟨0,⟨el,[(0,c)]⟩,1,[[d]],upd_same _ _ _,lr _,fun _ => by rw [hA]; rfl,rfl⟩)
 cases h
 cases h
 cases h
 cases h
def aEM (P : Program) (lk : Lk) (ob : Own) (ty : TypeId) (x v : Operand) (hint : Hint) : Option Eff :=
 match lk [] x,lk [] v,P.info? ty with
 | some (.c (.ea i k idx 0)),some s,some ti => match ob i,kD s with
  | some (.arr k' ⟨e,[]⟩ sz es),some cs => match hV (jY hint.ms cs) with
   | some ds => if k' == k && cs.length == ti.size && ds.length == sz then some ⟨.c .any,[(i,.arr k ⟨e,[]⟩ sz (es.set idx ds))],[i],[]⟩ else none
   | none => none
  | _,_ => none
 | _,_,_ => none
theorem pA {α : Type} {sz : Nat} : ∀ {es : List (List α)} (_ : ∀ ds,ds ∈ es -> ds.length = sz) {idx : Nat} {ds : List α},ds.length = sz -> idx < es.length -> (es.set idx ds).flatten = aI es.flatten (idx * sz) ds
 | [],_,idx,ds,_,h => by simp at h
 | x :: r,hs,0,ds,hd,h => by
  have hx := hs x (by simp)
  simp only [List.set_cons_zero,List.flatten_cons,aI,Nat.zero_mul,List.take_zero,List.nil_append,Nat.zero_add]
  rw [List.drop_append_of_le_length (by omega),List.drop_of_length_le (by omega),List.nil_append]
 | x :: r,hs,idx + 1,ds,hd,h => by
  have hx := hs x (by simp)
  simp only [List.set_cons_succ,List.flatten_cons]
  rw [pA (fun ds hd => hs ds (by simp [hd])) hd (by simpa using h)]
  unfold aI
  have e1 : (idx + 1) * sz = x.length + idx * sz := by rw [Nat.succ_mul,hx]; omega
  rw [e1,List.take_length_add_append,show x.length + idx * sz + ds.length = x.length + (idx * sz + ds.length) by omega,List.drop_length_add_append]
  simp
theorem aIA (m : Mem fr own w pl) (hl : aX a w pl own p lk) (hp : Eng.Holds a p) {ty : TypeId} {x v : Operand} (hop : o.op = .store ty x v) (hd : o.dst = none) {ob : Own} {hint : Hint} {e : Eff} (h : aEM P lk ob ty x v hint = some e) (hob : ∀ i ∈ e.touch,own i = ob i) : Does P fr own a w pl o e := by
 unfold aEM at h
 split at h
 ·rename_i i k idx s ti hx hs hti
  split at h
  ·rename_i k' el sz es cs hbx hcs
   split at h
   ·rename_i ds hds
    split at h
    ·rename_i hc
     simp only [bIQ,beq_iff_eq] at hc
     obtain ⟨⟨rfl,hc1⟩,hc2⟩ := hc
     simp only [oIQ] at h
     subst h
     have hi : own i = some (.arr k' ⟨el,[]⟩ sz es) := by rw [hob i (by simp),hbx]
     obtain ⟨k2,e2,sz2,es2,hi2,_,hv,_⟩ := hl [] x _ hx holds_nil hp
     rw [hi] at hi2
     injection hi2 with hi2
     injection hi2 with h1 h2 h3 h4
     subst h1; subst h2; subst h3; subst h4
     obtain ⟨hlt,b,hA,hv⟩ := hv rfl
     have hcv := gI hcs (hl [] v s hs holds_nil hp)
     have hrd := i8 hds (iF hcv)
     obtain ⟨xs,hxs,hr,hss⟩ := m.obj i _ hi
     have hr : All2 (Rd w (Sh pl own)) es.flatten xs := hr
     have hfl := a8 hss
     have hvl : (a.eval v).cells.toList.length = sz := by rw [<- hrd.1]; exact hc2
     have hlen1 : (a.eval v).cells.size = ti.size := by have := hcv.1; simp at this; omega
     have hbound : (idx + 1) * sz <= es.length * sz := Nat.mul_le_mul_right _ hlt
     rw [Nat.succ_mul] at hbound
     rcases hxs.2 with ⟨_,h0⟩ | ⟨g,cap,cur,hvv,hB,hg,hn,hcap,hsz,htk⟩
     ·omega
     ·injection hvv with hA1 hA2 hA3
      rw [hA] at hA1
      simp only [oIQ,Addr.mk.injEq,and_true] at hA1
      subst hA1
      have hcl : es.length * sz <= cur.size := by rw [hsz]; exact Nat.mul_le_mul_right _ hn
      have hsp : (aI cur.toList (idx * sz) (a.eval v).cells.toList).take (es.length * sz) = aI xs (idx * sz) (a.eval v).cells.toList := by
       have e1 : (cur.toList.take (idx * sz)).length = idx * sz := by rw [lt1,Array.length_toList]; omega
       have e2 : (cur.toList.take (idx * sz) ++ (a.eval v).cells.toList).length = idx * sz + sz := by rw [la,e1,hvl]
       have e3 : (cur.toList.take (idx * sz) ++ (a.eval v).cells.toList).take (es.length * sz) = cur.toList.take (idx * sz) ++ (a.eval v).cells.toList := tl (by rw [e2]; exact hbound)
       have e4 : xs.take (idx * sz) = cur.toList.take (idx * sz) := by rw [<- htk,List.take_take,Nat.min_eq_left (by omega)]
       have e5 : xs.drop (idx * sz + sz) = (cur.toList.drop (idx * sz + sz)).take (es.length * sz - (idx * sz + sz)) := by rw [<- htk,List.drop_take]
       unfold aI
       rw [List.take_append,e3,e2,hvl,e4,e5]
      have hsl : (aI cur.toList (idx * sz) (a.eval v).cells.toList).length = cur.size := by
       unfold aI
       simp only [la,lt1,List.length_drop,hvl,Array.length_toList]
       omega
      have hrun : (execOp a.eval o).run P w = .ok .skip (w.setRow b (aI cur.toList (idx * sz) (a.eval v).cells.toList).toArray) := by
       unfold execOp
       simp only [hop,hv]
       have := run_storeCells_at (P := P) b (idx * sz) el (a.eval v).cells.toList 0 cur w hg (by rw [hvl]; omega) (iP hcv)
       simp only [Nat.add_zero] at this ⊢
       simp only [Instr.storeAt,Instr.sureAddr,storeVar,sizeOf,typeInfo]
       simp [hti,hlen1,this,aI]
      have hgr : w.grownBy (w.setRow b (aI cur.toList (idx * sz) (a.eval v).cells.toList).toArray) ((pl.sl i).1.map (·.block)) := by
       refine ⟨rfl,rfl,rfl,by simp [World.setRow],fun q hq hne => dQ _ _ _ (fun he => hne ?_)⟩
       rw [hA,he]; rfl
      intro K Q hK
      obtain ⟨pl',m',L,hA'⟩ := m.turnArr (k' := k') (es' := es.set idx ds) (A := some ⟨b,0,none⟩) (cap := cap) (xs := aI xs (idx * sz) (a.eval v).cells.toList) hi hgr
       ⟨by rw [<- hsp]; simp only [lt1,List.length_set,hsl]; omega,.inr ⟨b,cap,(aI cur.toList (idx * sz) (a.eval v).cells.toList).toArray,by simp,hB,setRow_heap w _ cur _ el (0,0) hg,by simpa using hn,hcap,by simp [hsl,hsz],by simp only [List.length_set]; exact hsp⟩⟩
       (.inl (by rw [hA])) (by rw [pA hss hc2 hlt]; exact AllO.of (fQ hr hrd _)) (fun dd hdd => (List.mem_or_eq_of_mem_set hdd).elim (hss dd) (fun he => by rw [he]; exact hc2)) (.inr ⟨rfl,by simp,by rw [<- hA3,<- hA]⟩)
      unfold Oper.wp
      rw [hrun,Oper.upon_skip]
      exact hK undef _ pl' m' L (.inl hd)
    ·cases h
   ·cases h
  ·cases h
 ·cases h
end
end Go.V
