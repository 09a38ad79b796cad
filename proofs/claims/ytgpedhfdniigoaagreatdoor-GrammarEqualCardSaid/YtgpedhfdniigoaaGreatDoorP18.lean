/- Part 18 of the proof. -/
import Derived.Test.YtgpedhfdniigoaaGreatDoorP17
set_option linter.all false
namespace Go.V
open Go.RowKit
def aAE (P : Program) (t : TypeId) (name : String) : Option (FuncId × Bool × TypeId) := match P.info? t,P.underlying t with
 | some ti,some (.pointer e) => match ti.methods.find? (·.name == name) with
  | some m => match m.func with
   | some (f,b) => if m.path.isEmpty then some (f,b,e) else none
   | none => none
  | none => none
 | _,_ => none
def rcvE (P : Program) (ob : Own) (i : Nat) (e : TypeId) : Bool -> Option SV
 | true => some (.c (.bx i 0))
 | false => match ob i with
  | some (.box ⟨.c _,_⟩ cells) => j0 P e cells 0
  | _ => none
def invE (P : Program) (G : List (Nat × List Value)) (lk : Lk) (ob : Own) (x : Operand) (name : String) (xs : Array Operand) (nid : Nat) (hint : Hint) : Option Eff := match lk [] x with
 | some (.c (.ib t i)) => match aAE P t name with
  | some (f,b,e) => match rcvE P ob i e b with
   | some s => if enters P f then (match tG P G ob f ((eK (xs.toList.map (lk []))).map fun l => s :: l) nid hint with
    | some e => some ⟨e.sv,e.upd,i :: e.touch,e.obs⟩
    | none => none) else none
   | none => none
  | none => none
 | _ => none
def mkiE (P : Program) (lk : Lk) (t : TypeId) (x : Operand) : Option Eff := match lk [] x,P.underlying t with
 | some (.c (.bx i 0)),some (.pointer _) => some ⟨.c (.ib t i),[],[],[]⟩
 | _,_ => none
def ibE (P : Program) (lk : Lk) (op : BinOp) (t : TypeId) (x y : Operand) : Option Eff :=
 if ifT P t then
  match op,lk [] x,lk [] y with
  | .eql,some (.c (.ib _ _)),some (.c (.d (.v .nilIface))) => some ⟨.c (.d (.v (.bool false))),[],[],[]⟩
  | .neq,some (.c (.ib _ _)),some (.c (.d (.v .nilIface))) => some ⟨.c (.d (.v (.bool true))),[],[],[]⟩
  | _,_,_ => none
 else none
def apnE (P : Program) (lk : Lk) (ob : Own) (T : TypeId) (s x : Operand) : Option Eff := match P.underlying T,lk [] s,lk [] x with
 | some (.slice e),some (.c (.ar j k)),some (.c (.d (.v (.slice (some _) 0 _)))) => match ob j,P.info? e with
  | some (.arr k' _ _ _),some _ => if k' == k then some ⟨.c (.ar j k),[],[j],[]⟩ else none
  | _,_ => none
 | _,_,_ => none
section
variable {P : Program} {fr : Fr} {own : Own} {a : Act} {w w' : World} {pl pl' : Pl} {o : Oper} {p : Path} {lk : Lk}
def aNA (P : Program) (w : World) (e : TypeId) (ad : Addr) (rv : Value) : Bool -> Prop
 | true => rv = .pointer (some ad)
 | false => (Instr.loadAt e (.pointer (some ad))).run P w = .ok rv w
theorem aET (t ty : TypeId) (ad : Addr) (s n : String) : (Builtin.ssaWrapNilChk_ #[t] ty #[.pointer (some ad),strVal s,strVal n]).run P w = .ok (.pointer (some ad)) w := rfl
theorem aJ3 {t e : TypeId} {name : String} {f : FuncId} {b : Bool} {ad : Addr} {rv : Value} (hm : aAE P t name = some (f,b,e)) (hr : aNA P w e ad rv b) (n : Nat) :
  (method (n + 1) t (.pointer (some ad)) name).run P w = .ok (f,rv) w := by
 unfold aAE at hm
 split at hm
 rename_i ti e' hi hu
 split at hm
 rename_i m hfind
 split at hm
 rename_i f' b' hf
 split at hm
 rename_i hpath
 simp only [oIQ,pIQ] at hm
 obtain ⟨rfl,rfl,rfl⟩ := hm
 have hp : m.path.toList = [] := by
  have := Array.isEmpty_iff.1 hpath
  rw [this]
 cases b' with
 | true =>
  have hr : rv = _ := hr
  subst hr
  simp [method,typeInfo,hi,hfind,hp,follow,hf,receiverAt,run_underlying hu,Place.get]
 | false =>
  have hr : (Instr.loadAt e' (.pointer (some ad))).run P w = .ok rv w := hr
  simp [Instr.loadAt,Instr.sureAddr] at hr
  simp [method,typeInfo,hi,hfind,hp,hpath,follow,hf,receiverAt,run_underlying hu,Place.get]
  rw [if_pos (Array.isEmpty_iff.1 hpath)]
  simp [aET,asAddr,hr]
 cases hm
 cases hm
 cases hm
 cases hm
theorem run_inv {t e : TypeId} {name : String} {f : FuncId} {b : Bool} {ad : Addr} {rv : Value} {x : Operand} {xs : Array Operand} {ats : Array TypeId} (hop : o.op = .call { callee := .invoke x name,args := xs,argTypes := ats }) (hx : a.eval x = .iface t (.pointer (some ad))) (hm : aAE P t name = some (f,b,e))
  (hr : aNA P w e ad rv b) (hent : enters P f = true) : (execOp a.eval o).run P w = .ok (.enter f (rv :: xs.toList.map a.eval).toArray) w := by
 have hmeth := aJ3 (w := w) (rv := rv) hm hr (P.types.size + (Made.depth - 1))
 have e1 : P.types.size + Made.depth = P.types.size + (Made.depth - 1) + 1 := by
  have : 0 < Made.depth := by decide
  omega
 unfold execOp
 simp only [hop,resolve,invoke,Sem.run_bind,Sem.run_pure,an,hx]
 generalize hys : Array.map a.eval xs = ys
 have e2 : (#[Value.iface t (.pointer (some ad))] ++ ys).extract 1 (#[Value.iface t (.pointer (some ad))] ++ ys).size = ys := by
  apply Array.ext'
  simp
 have e3 : (#[Value.iface t (.pointer (some ad))] ++ ys)[0]? = some (Value.iface t (.pointer (some ad))) := by
  rw [Array.getElem?_append_left (by simp)]
  rfl
 simp only [e3,e2,callMethod,Sem.run_bind,program,Sem.run,an,e1,hmeth]
 rw [iC hent,<- hys]
 congr 2
 apply Array.ext'
 simp
theorem invE_ok (m : Mem fr own w pl) (hl : aX a w pl own p lk) (hp : Eng.Holds a p) {x : Operand} {name : String} {xs : Array Operand} {ats : Array TypeId} (hop : o.op = .call { callee := .invoke x name,args := xs,argTypes := ats }) {ob : Own} {nid : Nat} {hint : Hint} {e : Eff}
  (h : invE P fr.G lk ob x name xs nid hint = some e) (hob : ∀ i ∈ e.touch,own i = ob i) (ho : conj e.obl) : fN P fr own a w pl o e := by
 unfold invE at h
 split at h
 rename_i t i hx
 obtain ⟨hbx,hvx⟩ := hl [] x _ hx holds_nil hp
 split at h
 rename_i f b te hm
 split at h
 rename_i s hs
 split at h
 rename_i hent
 split at h
 rename_i e1 hc
 simp only [oIQ] at h
 subst h
 have hi : own i = ob i := hob i (by simp)
 have hrv : ∃ rv,aV w pl own s rv /\ aNA P w te ⟨pl.blk i,0,none⟩ rv b := by
  cases b with
  | true =>
   simp only [rcvE,oIQ] at hs
   subst hs
   exact ⟨_,⟨hbx,rfl⟩,rfl⟩
  | false =>
   simp only [rcvE] at hs
   split at hs
   rename_i ty q cells hb
   obtain ⟨vs,hv,hcl⟩ := m.obj i _ (hi.trans hb)
   have hv : w.heap[pl.blk i]? = some (.cells vs.toArray ty (0,0)) := hv
   obtain ⟨v,h1,h2⟩ := fG hs (iH hcl)
   rw [Nat.zero_add] at h1
   exact ⟨v,h2,Eng.run_loadB h1 hv⟩
   cases hs
 obtain ⟨rv,h1,h2⟩ := hrv
 have hrun := run_inv (w := w) hop hvx hm h2 hent
 have := kE (vals := rv :: xs.toList.map a.eval) m (fun svs hsv => by
  simp only [me] at hsv
  obtain ⟨l,hl',rfl⟩ := hsv
  exact All2.cons h1 (dL hl hp hl')) hrun hc (fun j hj => hob j (by simp [hj])) ho
 exact this
 cases h
 cases h
 cases h
 cases h
 cases h
theorem mkiE_ok (m : Mem fr own w pl) (hl : aX a w pl own p lk) (hp : Eng.Holds a p) {t : TypeId} {x : Operand} (hop : o.op = .makeInterface t x) {e : Eff} (h : mkiE P lk t x = some e) : Does P fr own a w pl o e := by
 unfold mkiE at h
 split at h
 rename_i i te hx hu
 simp only [oIQ] at h
 subst h
 obtain ⟨hbx,hvx⟩ := hl [] x _ hx holds_nil hp
 refine aJ (v := .iface t (.pointer (some ⟨pl.blk i,0,none⟩))) m ?_ ⟨hbx,rfl⟩
 unfold execOp
 simp only [hop,hvx]
 simp [Instr.makeInterface,run_underlying hu]
 cases h
theorem ibE_ok (m : Mem fr own w pl) (hl : aX a w pl own p lk) (hp : Eng.Holds a p) {op : BinOp} {t : TypeId} {x y : Operand} {ty : TypeId} (hop : o.op = .binOp op t x y ty) {e : Eff} (h : ibE P lk op t x y = some e) : Does P fr own a w pl o e := by
 unfold ibE at h
 split at h
 rename_i hT
 unfold ifT at hT
 split at hT
 rename_i ms hu
 split at h
 rename_i hx hy
 simp only [oIQ] at h
 subst h
 obtain ⟨_,hvx⟩ := hl [] x _ hx holds_nil hp
 have hvy : a.eval y = .nilIface := Rd.exact (hl [] y _ hy holds_nil hp)
 refine aJ (v := .bool _) m ?_ (Rd.v _ rfl)
 unfold execOp
 simp only [hop,hvx,hvy]
 simp [eqGuard,binOp,iR hu]
 rename_i hx hy
 simp only [oIQ] at h
 subst h
 obtain ⟨_,hvx⟩ := hl [] x _ hx holds_nil hp
 have hvy : a.eval y = .nilIface := Rd.exact (hl [] y _ hy holds_nil hp)
 refine aJ (v := .bool _) m ?_ (Rd.v _ rfl)
 unfold execOp
 simp only [hop,hvx,hvy]
 simp [eqGuard,binOp,iR hu]
 cases h
 cases hT
 cases h
theorem aJ9 (w : World) {T ty e : TypeId} {i : TypeInfo} (ht : P.underlying T = some (.slice e)) (hi : P.info? e = some i) (A : Option Addr) (n c : Nat) (hle : n <= c) (ad : Addr) (c2 : Nat) : (Builtin.append_ #[T,T] ty #[.slice A n c,.slice (some ad) 0 c2]).run P w = .ok (.slice A n c) w := by
 cases A <;> simp [Builtin.append_,run_underlying ht,sizeOf,typeInfo,hi,Builtin.lenOf,Builtin.firstCells,loadCells,loadCellsFrom,hle,storeCells]
theorem apnE_ok (m : Mem fr own w pl) (hl : aX a w pl own p lk) (hp : Eng.Holds a p) {T : TypeId} {s x : Operand} (hop : o.op = .call { callee := .builtin .append,args := #[s,x],argTypes := #[T,T] }) {ob : Own} {e : Eff} (h : apnE P lk ob T s x = some e) (hob : ∀ i ∈ e.touch,own i = ob i) : Does P fr own a w pl o e := by
 unfold apnE at h
 split at h
 rename_i el j k ad c2 hu hs hx
 split at h
 rename_i k' e' sz es ti hbx hti
 split at h
 rename_i hk
 simp only [beq_iff_eq] at hk
 subst hk
 simp only [oIQ] at h
 subst h
 have hj : own j = some (.arr k' e' sz es) := by rw [hob j (by simp),hbx]
 have hc := hl [] s _ hs holds_nil hp
 have hv := cD (w := w) hc hj
 have hxv : a.eval x = .slice (some ad) 0 c2 := Rd.exact (hl [] x _ hx holds_nil hp)
 have hcap : es.length <= (pl.sl j).2 := by
  obtain ⟨xs,ho,_⟩ := m.obj j _ hj
  rcases ho.all.2 with ⟨h0,h5⟩ | ⟨g,cap,cur,fz,h0,_,_,h5,_⟩
  omega
  injection h0 with _ _ h0; rw [h0]; exact h5
 refine aJ (v := a.eval s) m ?_ hc
 unfold execOp
 simp only [hop,resolve,invoke,builtin,Sem.run_bind,Sem.run_pure,an,List.map_toArray,mp1,List.map_nil,hv,hxv]
 rw [aJ9 w hu hti _ _ _ hcap]
 rfl
 cases h
 cases h
 cases h
def aEK (P : Program) (lk : Lk) (ob : Own) (ty : TypeId) (x v : Operand) (hint : Hint) : Option Eff :=
 match lk [] x,lk [] v,P.info? ty with
 | some (.c (.ea i k idx off)),some s,some ti => match ob i,kD s,hint with
  | some (.arr k' ⟨e,[]⟩ sz es),some cs,.elem ds => match hV cs with
   | some us => if k' == k && cs.length == ti.size && decide (off + us.length <= sz) then some ⟨.c .any,[(i,.arr k ⟨e,[]⟩ sz (es.set idx (aI ds off us)))],[i],[.un (es[idx]? = some ds)]⟩ else none
   | none => none
  | _,_,_ => none
 | _,_,_ => none
theorem nD {α : Type} {sz : Nat} {es : List (List α)} (hs : ∀ ds,ds ∈ es -> ds.length = sz) {idx off : Nat} {ds us : List α} (hd : es[idx]? = some ds) (ho : off + us.length <= sz) : (es.set idx (aI ds off us)).flatten = aI es.flatten (idx * sz + off) us := by
 have hlt := (gsQ.1 hd).1
 have e0 : es = es.take idx ++ ds :: es.drop (idx + 1) := by
  have : es.drop idx = ds :: es.drop (idx + 1) := by
   rw [List.drop_eq_getElem_cons hlt,(gsQ.1 hd).2]
  rw [<- this,List.take_append_drop]
 have eA : ((es.take idx).flatten).length = idx * sz := by
  rw [a8 (fun d h => hs d (List.mem_of_mem_take h)),lt1,Nat.min_eq_left (by omega)]
 have e1 : ∀ X,(es.set idx X).flatten = (es.take idx).flatten ++ (X ++ (es.drop (idx + 1)).flatten) := by
  intro X
  rw [List.set_eq_take_append_cons_drop,if_pos hlt]
  simp
 have e2 : es.flatten = (es.take idx).flatten ++ (ds ++ (es.drop (idx + 1)).flatten) := by
  conv => lhs; rw [e0]
  simp
 have hdl : ds.length = sz := hs ds (List.mem_of_getElem? hd)
 rw [e1,e2]
 generalize (es.take idx).flatten = A at *
 generalize (es.drop (idx + 1)).flatten = B at *
 unfold aI
 rw [<- eA,List.take_length_add_append,Nat.add_assoc,List.drop_length_add_append,List.take_append_of_le_length (by omega),List.drop_append_of_le_length (by omega)]
 simp [List.append_assoc]
theorem oO {α : Type} {xs us : List α} {off : Nat} (h : off + us.length <= xs.length) : (aI xs off us).length = xs.length := by
 unfold aI
 simp only [la,lt1,List.length_drop]
 omega
theorem aH8 (m : Mem fr own w pl) (hl : aX a w pl own p lk) (hp : Eng.Holds a p) {ty : TypeId} {x v : Operand} (hop : o.op = .store ty x v) (hd : o.dst = none) {ob : Own} {hint : Hint} {e : Eff} (h : aEK P lk ob ty x v hint = some e) (hob : ∀ i ∈ e.touch,own i = ob i) (ho : conj e.obl) : Does P fr own a w pl o e := by
 unfold aEK at h
 split at h
 ·rename_i i k idx off s ti hx hs hti
  split at h
  ·rename_i k' el sz es cs ds hbx hcs
   split at h
   ·rename_i us hus
    split at h
    ·rename_i hc
     simp only [bIQ,beq_iff_eq,decide_eq_true_eq] at hc
     obtain ⟨⟨rfl,hc1⟩,hc2⟩ := hc
     simp only [oIQ] at h
     subst h
     have hds : es[idx]? = some ds := ho
     have hi : own i = some (.arr k' ⟨el,[]⟩ sz es) := by rw [hob i (by simp),hbx]
     obtain ⟨k2,e2,sz2,es2,hi2,_,hv,_⟩ := hl [] x _ hx holds_nil hp
     rw [hi] at hi2
     injection hi2 with hi2
     injection hi2 with h1 h2 h3 h4
     subst h1; subst h2; subst h3; subst h4
     obtain ⟨hlt,b,hA,hv⟩ := hv rfl
     have hcv := gI hcs (hl [] v s hs holds_nil hp)
     have hrd := i8 hus hcv
     obtain ⟨xs,hxs,hr,hss⟩ := m.obj i _ hi
     have hr : All2 (Rd w (Sh pl own)) es.flatten xs := hr
     have hfl := a8 hss
     have hvl : (a.eval v).cells.toList.length = us.length := hrd.1.symm
     have hlen1 : (a.eval v).cells.size = ti.size := by have := hcv.1; simp at this; omega
     have hbound : (idx + 1) * sz <= es.length * sz := Nat.mul_le_mul_right _ hlt
     rw [Nat.succ_mul] at hbound
     have hdl : ds.length = sz := hss ds (List.mem_of_getElem? hds)
     rcases hxs.2 with ⟨_,h0⟩ | ⟨g,cap,cur,hvv,hB,hg,hn,hcap,hsz,htk⟩
     ·omega
     ·injection hvv with hA1 hA2 hA3
      rw [hA] at hA1
      simp only [oIQ,Addr.mk.injEq,and_true] at hA1
      subst hA1
      have hcl : es.length * sz <= cur.size := by rw [hsz]; exact Nat.mul_le_mul_right _ hn
      have hxl : xs.length = es.length * sz := hxs.1
      have hsp : (aI cur.toList (idx * sz + off) (a.eval v).cells.toList).take (es.length * sz) = aI xs (idx * sz + off) (a.eval v).cells.toList := by
       have e1 : (cur.toList.take (idx * sz + off)).length = idx * sz + off := by rw [lt1,Array.length_toList]; omega
       have e2 : (cur.toList.take (idx * sz + off) ++ (a.eval v).cells.toList).length = idx * sz + off + us.length := by rw [la,e1,hvl]
       have e3 : (cur.toList.take (idx * sz + off) ++ (a.eval v).cells.toList).take (es.length * sz) = cur.toList.take (idx * sz + off) ++ (a.eval v).cells.toList := tl (by rw [e2]; omega)
       have e4 : xs.take (idx * sz + off) = cur.toList.take (idx * sz + off) := by rw [<- htk,List.take_take,Nat.min_eq_left (by omega)]
       have e5 : xs.drop (idx * sz + off + us.length) = (cur.toList.drop (idx * sz + off + us.length)).take (es.length * sz - (idx * sz + off + us.length)) := by rw [<- htk,List.drop_take]
       unfold aI
       rw [List.take_append,e3,e2,hvl,e4,e5]
      have hsl : (aI cur.toList (idx * sz + off) (a.eval v).cells.toList).length = cur.size := by
       have hcz : cur.toList.length = cur.size := Array.length_toList
       rw [oO (by rw [hvl]; omega),hcz]
      have hrun : (execOp a.eval o).run P w = .ok .skip (w.setRow b (aI cur.toList (idx * sz + off) (a.eval v).cells.toList).toArray) := by
       unfold execOp
       simp only [hop,hv]
       have := run_storeCells_at (P := P) b (idx * sz + off) el (a.eval v).cells.toList 0 cur w hg (by rw [hvl]; omega) (iP hcv)
       simp only [Nat.add_zero] at this ⊢
       simp only [Instr.storeAt,Instr.sureAddr,storeVar,sizeOf,typeInfo]
       simp [hti,hlen1,this,aI]
      have hgr : w.grownBy (w.setRow b (aI cur.toList (idx * sz + off) (a.eval v).cells.toList).toArray) ((pl.sl i).1.map (·.block)) := by
       refine ⟨rfl,rfl,rfl,by simp [World.setRow],fun q hq hne => dQ _ _ _ (fun he => hne ?_)⟩
       rw [hA,he]; rfl
      have hnl : (aI ds off us).length = sz := by rw [oO (by omega),hdl]
      intro K Q hK
      obtain ⟨pl',m',L,hA'⟩ := m.turnArr (k' := k') (es' := es.set idx (aI ds off us)) (A := some ⟨b,0,none⟩) (cap := cap) (xs := aI xs (idx * sz + off) (a.eval v).cells.toList) hi hgr
       ⟨by rw [<- hsp]; simp only [lt1,List.length_set,hsl]; omega,.inr ⟨b,cap,(aI cur.toList (idx * sz + off) (a.eval v).cells.toList).toArray,by simp,hB,setRow_heap w _ cur _ el (0,0) hg,by simpa using hn,hcap,by simp [hsl,hsz],by simp only [List.length_set]; exact hsp⟩⟩
       (.inl (by rw [hA])) (by rw [nD hss hds hc2]; exact AllO.of (fQ hr hrd _)) (fun dd hdd => (List.mem_or_eq_of_mem_set hdd).elim (hss dd) (fun he => by rw [he]; exact hnl)) (.inr ⟨rfl,by simp,by rw [<- hA3,<- hA]⟩)
      unfold Oper.wp
      rw [hrun,Oper.upon_skip]
      exact hK undef _ pl' m' L (.inl hd)
    ·cases h
   ·cases h
  ·cases h
 ·cases h
theorem v8 {v : Value} {s : SV} {i : Nat} {ob : Ob} {t : List Nat} {c : List Obl} (m : Mem fr (upd own i ob) w pl') (L : Later w pl own w pl' (upd own i ob)) (hr : (execOp a.eval o).run P w = .ok (.value v) w) (hs : aV w pl' (upd own i ob) s v) : Does P fr own a w pl o ⟨s,[(i,ob)],t,c⟩ := by
 intro K Q hK
 unfold Oper.wp
 rw [hr,Oper.upon_value]
 exact hK v w pl' m L (.inr hs)
theorem l9 {t el : TypeId} {x : Operand} {lo hi : Option Operand} {ti : TypeInfo} {A : Option Addr} {n c : Nat} {l h : Int} {v1 v2 : Option Value} (hop : o.op = .slice t x lo hi none) (hu : P.underlying t = some (.slice el)) (hti : P.info? el = some ti) (hx : a.eval x = .slice A n c)
  (hl : aX a w pl own p lk) (hp : Eng.Holds a p) (hb1 : kF lk lo 0 = some (v1,l)) (hb2 : kF lk hi (n : Int) = some (v2,h)) (hb : 0 <= l /\ l <= h /\ h <= (c : Int)) :
  (execOp a.eval o).run P w = .ok (.value (.slice (if c = l.toNat then A else A.map (·.add (l.toNat * ti.size))) (h.toNat - l.toNat) (c - l.toNat))) w := by
 obtain ⟨e1,k1⟩ := gJ hl hp hb1
 obtain ⟨e2,k2⟩ := gJ hl hp hb2
 unfold execOp
 simp only [hop,hx,e1,e2,Option.map_none]
 have := lF (P := P) (w := w) (isS := true) (len := n) (cap := c) k1 k2 hb
 simp [Instr.sliceAt,run_underlying hu,Instr.slice,this,sizeOf,typeInfo,hti]
theorem ownsQ.take {B : Nat} {e : TypeId} {sz n c : Nat} {A : Option Addr} {xs : List Value} (h : ownsQ false w B e sz (.slice A n c) n xs) {k : Nat} (hk : k <= n) : ownsQ false w B e sz (.slice A k c) k (xs.take (k * sz)) := by
 obtain ⟨h1,h2⟩ := h
 have hle : k * sz <= n * sz := Nat.mul_le_mul_right _ hk
 refine ⟨by rw [lt1,h1]; omega,?_⟩
 rcases h2 with ⟨hv,h0⟩ | ⟨g,cap,cur,hv,hB,hg,hn,hc,hs,ht⟩
 injection hv with e1 e2 e3
 obtain rfl : k = 0 := by omega
 exact .inl ⟨by rw [e1,e3],rfl⟩
 injection hv with e1 e2 e3
 exact .inr ⟨g,cap,cur,by rw [e1,e3],hB,hg,by omega,hc,hs,by rw [<- ht,List.take_take,Nat.min_eq_left hle]⟩
def cutI (P : Program) (lk : Lk) (ob : Own) (t : TypeId) (x hi : Operand) : Option Eff :=
 match P.underlying t,lk [] x with
 | some (.slice e),some (.c (.ar i k)) => match ob i,P.info? e,exO lk [] hi with
  | some (.arr k' ⟨e',[]⟩ sz es),some ti,some (.int _ h) => if k' == k && ti.size == sz then some ⟨.c (.ar i (k' + 1)),[(i,.arr (k' + 1) ⟨e',[]⟩ sz (es.take h.toNat))],[i],[0 <= h /\ h <= (es.length : Int)]⟩ else none
  | _,_,_ => none
 | _,_ => none
theorem cutI_ok (m : Mem fr own w pl) (hl : aX a w pl own p lk) (hp : Eng.Holds a p) {t : TypeId} {x hi : Operand} (hop : o.op = .slice t x none (some hi) none) {ob : Own} {e : Eff} (h : cutI P lk ob t x hi = some e) (hob : ∀ i ∈ e.touch,own i = ob i) (ho : conj e.obl) : Does P fr own a w pl o e := by
 unfold cutI at h
 split at h
 rename_i el i k hu hx
 split at h
 rename_i k' e' sz es ti kd hh hi' hti hx2
 split at h
 rename_i hc
 simp only [bIQ,beq_iff_eq] at hc
 obtain ⟨rfl,e2⟩ := hc
 simp only [oIQ] at h
 subst h
 have hd : 0 <= hh /\ hh <= (es.length : Int) := ho
 have hj : own i = some (.arr k' ⟨e',[]⟩ sz es) := by rw [hob i (by simp)]; exact hi'
 have hv := cD (w := w) (hl [] x _ hx holds_nil hp) hj
 obtain ⟨xs,hxs,hr,hs⟩ := m.obj i _ hj
 have hcap : es.length <= (pl.sl i).2 := by
  rcases hxs.2 with ⟨hA,h0⟩ | ⟨g,cap,cur,hA,hB,hg,hn,_⟩
  omega
  injection hA with _ _ h3; omega
 have hlen : (es.take hh.toNat).length = hh.toNat := by rw [lt1]; omega
 obtain ⟨pl',m',L,hsl⟩ := m.turnArrO (k' := k' + 1) (e' := ⟨e',[]⟩) (es' := es.take hh.toNat) (A := (pl.sl i).1) (cap := (pl.sl i).2) hj (w' := w) (World.grownBy.refl _ _) (by rw [hlen]; exact ownsQ.take hxs (by omega)) (.inl rfl)
  ⟨by rw [dG hs,lt1,lt1,hr.1],fun j d y hd' hy => by
   rw [dG hs,List.getElem?_take] at hd'
   rw [List.getElem?_take] at hy
   split at hd'
   rename_i hj; rw [if_pos hj] at hy; exact hr.2 j d y hd' hy
   cases hd'⟩ (fun ds hd' => hs ds (List.mem_of_mem_take hd')) (.inl (by omega))
 have hb2 : kF lk (some hi) (es.length : Int) = some (some (.int kd hh),hh) := by simp only [kF,hx2]
 have hrun := l9 (lo := none) (hi := some hi) hop hu hti hv hl hp rfl hb2 ⟨by omega,by omega,by omega⟩
 refine v8 (pl' := pl') m' L hrun ⟨k' + 1,_,sz,_,upd_same _ _ _,lr _,fun _ => ?_,rfl⟩
 rw [hsl,hlen]
 simp only [Int.toNat_zero,Nat.zero_mul,Nat.sub_zero]
 split
 rfl
 cases (pl.sl i).1 <;> simp [Addr.add]
 cases h
 cases h
 cases h
def notIf : TypeDesc -> Bool
 | .interface _ => false
 | _ => true
def taE (P : Program) (lk : Lk) (x : Operand) (t : TypeId) (ok : Bool) : Option Eff := match lk [] x,P.underlying t with
 | some (.c (.d (.v (.iface t' v)))),some d => if t' == t && ok && notIf d then (match ofV v with
   | some (.agg cs) => some ⟨.tup [(true,cs),(false,[.d (.v (.bool true))])],[],[],[]⟩
   | some (.c c) => some ⟨.tup [(false,[c]),(false,[.d (.v (.bool true))])],[],[],[]⟩
   | _ => none) else none
 | _,_ => none
theorem taE_ok (m : Mem fr own w pl) (hl : aX a w pl own p lk) (hp : Eng.Holds a p) {x : Operand} {xt t : TypeId} {ok : Bool} (hop : o.op = .typeAssert x xt t ok) {e : Eff} (h : taE P lk x t ok = some e) : Does P fr own a w pl o e := by
 unfold taE at h
 split at h
 rename_i t' v d hx hu
 split at h
 rename_i hc
 simp only [bIQ,beq_iff_eq] at hc
 obtain ⟨⟨rfl,rfl⟩,hd⟩ := hc
 have hv : a.eval x = .iface t' v := Rd.exact (hl [] x _ hx holds_nil hp)
 have hrun : (execOp a.eval o).run P w = .ok (.value (.tuple #[v,.bool true])) w := by
  unfold execOp
  simp only [hop,hv]
  cases d <;> first | (simp [notIf] at hd; done) | simp [Instr.typeAssert,run_underlying hu]
 split at h
 rename_i cs hs
 simp only [oIQ] at h
 subst h
 exact aJ m hrun ⟨[v,.bool true],rfl,All2.cons (lM hs) (All2.one (Rd.v _ rfl))⟩
 rename_i c hs
 simp only [oIQ] at h
 subst h
 exact aJ m hrun ⟨[v,.bool true],rfl,All2.cons (lM hs) (All2.one (Rd.v _ rfl))⟩
 cases h
 cases h
 cases h
def opI (P : Program) (G : List (Nat × List Value)) (lk : Lk) (ob : Own) (o : Oper) (nid : Nat) (hint : Hint) : Option Eff := match o.op with
 | .makeInterface t x => mkiE P lk t x
 | .slice t x none (some hi) none => cutI P lk ob t x hi
 | .typeAssert x _ t ok => taE P lk x t ok
 | .store ty x v => match o.dst with
  | none => aEK P lk ob ty x v hint
  | some _ => none
 | .binOp op t x y _ => ibE P lk op t x y
 | .call { callee := .invoke x name,args := xs,argTypes := _ } => invE P G lk ob x name xs nid hint
 | .call { callee := .builtin .append,args := ⟨[s,x]⟩,argTypes := ⟨[T,T']⟩ } => if T == T' then apnE P lk ob T s x else none
 | _ => none
theorem sJ (m : Mem fr own w pl) (hl : aX a w pl own p lk) (hp : Eng.Holds a p) {ob : Own} {nid : Nat} {hint : Hint} {e : Eff} (h : opI P fr.G lk ob o nid hint = some e) (hob : ∀ i ∈ e.touch,own i = ob i) (ho : conj e.obl) : fN P fr own a w pl o e := by
 unfold opI at h
 split at h
 case h_1 => rename_i hop; exact (mkiE_ok m hl hp hop h).x
 case h_2 => rename_i hop; exact (cutI_ok m hl hp hop h hob ho).x
 case h_3 => rename_i hop; exact (taE_ok m hl hp hop h).x
 case h_4 =>
  rename_i hop
  split at h
  ·rename_i hd; exact (aH8 m hl hp hop hd h hob ho).x
  ·cases h
 case h_5 => rename_i hop; exact (ibE_ok m hl hp hop h).x
 case h_6 => rename_i hop; exact invE_ok m hl hp hop h hob ho
 case h_7 =>
  rename_i s x T T' hop
  split at h
  ·rename_i hT
   simp only [beq_iff_eq] at hT
   subst hT
   exact (apnE_ok m hl hp hop h hob).x
  ·cases h
 case h_8 => cases h
end
end Go.V
