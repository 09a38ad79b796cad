/- Part 39 of the proof. -/
import Derived.Test.YtgpedhfdniigoaaGreatDoorP34
import Derived.Test.YtgpedhfdniigoaaGreatDoorP37
import Derived.Test.YtgpedhfdniigoaaGreatDoorP38
import Derived.RecoverIn
import Derived.WalkKit
set_option linter.all false
namespace Go.V
open Go.RowKit
structure OpP where
 v : Value
 upd : List (Nat × Ob)
 touch : List Nat
 own : Tr Ob
 k : Nat
 cs : List Prop
abbrev lB := List Nat -> Nat -> FuncId -> List SV -> Tr Ob -> Option OpP
def pnOf (o : Oper) : Option Operand := match o.op with
 | .panic x => some x
 | _ => none
def aHE (k : Nat) (l : List Oper) : Bool := l.all fun o => match o.guard with
 | some (j,_) => Nat.blt j k
 | none => true
def regP {P : Program} {G : List (Nat × List Value)} (E : Exe P G) (C : lB) (n : Nat) (ops : Array Oper) (p : List Nat) (st : XS) : Option (Value × XS) :=
 match ops.back? with
 | some o => bif d3 ops.pop && o.guard.isNone && aHE ops.pop.size ops.pop.toList then (match aEU E n ops.pop false st with
  | some st1 => match pnOf o with
   | some x => match gW (bE [] st1.env) [] [] x with
    | some (.c (.d (.v (.iface t y)))) => some (.iface t y,st1)
    | _ => none
   | none => match who P (gW (bE [] st1.env) []) o with
    | .fn f svs => match C p st1.k f svs st1.own with
     | some r => some (r.v,⟨st1.env,r.own,r.k,r.touch ++ st1.T,r.upd.reverse ++ st1.U,r.cs ++ st1.cs,st1.mks⟩)
     | none => none
    | _ => none
  | none => none) else none
 | none => none
def aKC {P : Program} {G : List (Nat × List Value)} (E : Exe P G) (n F : Nat) (x : Code) : Nat -> XS -> Option XS
 | 0,st => some st
 | k + 1,st => match evC E none n F x st with
  | some (.normal,st1) => aKC E n F x k st1
  | _ => none
def evP {P : Program} {G : List (Nat × List Value)} (E : Exe P G) (C : lB) (n F : Nat) : Code -> List Nat -> XS -> Option (Value × XS)
 | .region _ ops false,p,st => regP E C n ops p st
 | .seq x _,0 :: p,st => evP E C n F x p st
 | .seq x y,1 :: p,st => match evC E none n F x st with
  | some (.normal,st1) => evP E C n F y p st1
  | _ => none
 | .cond c x y,p,st => match gW (bE [] st.env) [] [] c with
  | some (.c (.d (.v (.bool true)))) => evP E C n F x p st
  | some (.c (.d (.v (.bool false)))) => evP E C n F y p st
  | _ => none
 | .block _ x,p,st => evP E C n F x p st
 | .loop x,k :: p,st => match aKC E n F x k st with
  | some st1 => evP E C n F x p st1
  | none => none
 | _,_,_ => none
def chP (v : Value) : List PanicEntry := [{ v := v,recovered := false }]
def kT (P : Program) (G : List (Nat × List Value)) (C : lB) : Prop :=
 ∀ (p : List Nat) (k : Nat) (f : FuncId) (svs : List SV) (own : Tr Ob) (r : OpP),C p k f svs own = some r -> r.own.get = aY own.get r.upd /\ (∀ x ∈ keys r.upd,x ∈ r.touch) /\
  ∀ (fr : Fr) (own0 : Own) (w : World) (pl : Pl) (vals : List Value),fr.G = G -> conj r.cs -> (∀ i ∈ r.touch,own0 i = own.get i) -> Mem fr own0 w pl -> All2 (aV w pl own0) svs vals ->
   Calls P f vals.toArray w fun e w' => ∃ pl',e = .panicked (chP r.v) /\ Mem fr (aY own0 r.upd) w' pl' /\ Later w pl own0 w' pl' (aY own0 r.upd)
structure GoesP (P : Program) (G : List (Nat × List Value)) (n : Nat) (V : (Exit -> Act -> World -> Prop) -> Act -> World -> Prop) (v : Value) (st st' : XS) : Prop where
 dl : ∃ (dT : List Nat) (dU : List (Nat × Ob)) (dC : List Prop),st'.T = dT ++ st.T /\ st'.U = dU ++ st.U /\ st'.cs = dC ++ st.cs /\ st'.own.get = bF dU st.own.get /\ (∀ x ∈ keys dU,x ∈ dT) /\
  ∀ (fr : Fr) (own0 : Own) (a : Act) (w : World) (pl : Pl) (Q : Exit -> Act -> World -> Prop),fr.G = G -> conj dC -> (∀ i ∈ dT,own0 i = st.own.get i) -> OkM fr n (bE [] st.env) own0 st.mks a w pl ->
   (∀ a' w' pl',OkM fr n (bE [] st'.env) (bF dU own0) st'.mks a' w' pl' -> Q (.panic (chP v)) a' w') -> V Q a w
section
variable {P : Program} {G : List (Nat × List Value)} {E : Exe P G} {C : lB} {n : Nat}
theorem GoesP.trans {V1 : Wp P -> (Exit -> Act -> World -> Prop) -> Act -> World -> Prop} {V2 V : (Exit -> Act -> World -> Prop) -> Act -> World -> Prop} {e1 : Ex} {v : Value} {st st1 st2 : XS} (h1 : Goes P G none n V1 e1 st st1) (h2 : GoesP P G n V2 v st1 st2)
  (h : ∀ (Q : Exit -> Act -> World -> Prop) (a : Act) (w : World),V1 (bB P) (fun e a w => e = e1.to /\ V2 Q a w) a w -> V Q a w) : GoesP P G n V v st st2 := by
 obtain ⟨T1,U1,C1,a1,a2,a3,a4,a5,a6⟩ := h1.dl
 obtain ⟨T2,U2,C2,b1,b2,b3,b4,b5,b6⟩ := h2.dl
 refine ⟨T2 ++ T1,U2 ++ U1,C2 ++ C1,by rw [b1,a1,List.append_assoc],by rw [b2,a2,List.append_assoc],by rw [b3,a3,List.append_assoc],by rw [b4,a4,bP],fun x hx => ?_,fun fr own0 a w pl Q hG hc ht hok hQ => ?_⟩
 simp only [keys,List.map_append,List.mem_append] at hx ⊢
 exact hx.imp (b5 x) (a5 x)
 obtain ⟨hc2,hc1⟩ := c6 hc
 refine h Q a w (a6 (bB P) fr own0 a w pl _ rfl hG hc1 (fun i hi => ht i (by simp [hi])) hok fun a' w' pl' hok' => ⟨rfl,?_⟩)
 refine b6 fr _ a' w' pl' _ hG hc2 (fun i hi => ?_) hok' fun a2 w2 pl2 hok2 => ?_
 rw [a4]; exact eR U1 (ht i (by simp [hi]))
 rw [<- bP] at hok2
 exact hQ a2 w2 pl2 hok2
theorem GoesP.one {V1 V : (Exit -> Act -> World -> Prop) -> Act -> World -> Prop} {v : Value} {st st1 : XS} (h1 : GoesP P G n V1 v st st1)
  (h : ∀ (Q : Exit -> Act -> World -> Prop) (a : Act) (w : World),V1 (fun e a w => e = .panic (chP v) /\ Q (.panic (chP v)) a w) a w -> V Q a w) : GoesP P G n V v st st1 := by
 obtain ⟨T1,U1,C1,a1,a2,a3,a4,a5,a6⟩ := h1.dl
 refine ⟨T1,U1,C1,a1,a2,a3,a4,a5,fun fr own0 a w pl Q hG hc ht hok hQ => ?_⟩
 exact h Q a w (a6 fr own0 a w pl _ hG hc ht hok fun a' w' pl' hok' => ⟨rfl,hQ a' w' pl' hok'⟩)
theorem regP_ok (hE : ExeOk E) (hC : kT P G C) {id : Nat} {ops : Array Oper} {p : List Nat} {v : Value} {st st' : XS} (h : regP E C n ops p st = some (v,st')) : GoesP P G n (fun Q => (bB P).wp (.region id ops false) Q) v st st' := by
 unfold regP at h
 split at h
 rename_i o hback
 cases hchk : (d3 ops.pop && o.guard.isNone && aHE ops.pop.size ops.pop.toList) with
 | false => rw [hchk] at h; cases h
 | true =>
  rw [hchk] at h
  simp only [cond_true] at h
  simp only [bIQ,Option.isNone_iff_eq_none] at hchk
  obtain ⟨⟨hnd,hgd⟩,hgs⟩ := hchk
  have hsz : ops.size = ops.pop.size + 1 := by
   have : ops.size ≠ 0 := by
    intro h0
    have : ops = #[] := Array.eq_empty_of_size_eq_zero h0
    rw [this] at hback
    simp at hback
   simp; omega
  have hlast : ops[ops.pop.size]? = some o := by
   rw [Array.back?_eq_getElem?] at hback
   rw [<- hback]; congr 1; omega
  have hsame : ∀ i ∈ List.range ops.pop.size,ops[i]? = ops.pop[i]? := fun i hi => by
   have := List.mem_range.1 hi
   rw [Array.getElem?_pop,if_pos (by simp at this; omega)]
  have hyw : ∀ i ∈ List.range ops.pop.size,∀ o',ops.pop[i]? = some o' -> ∀ tm : Array Value,Region.wanted o' (yielded ops tm) = Region.wanted o' (yielded ops.pop tm) := fun i hi o' ho' tm => by
   unfold Region.wanted
   cases hg : o'.guard with
   | none => rfl
   | some jw =>
    obtain ⟨j,want⟩ := jw
    simp only
    have hmem : o' ∈ ops.pop.toList := by
     rw [List.mem_iff_getElem?]
     exact ⟨i,by rw [<- ho',Array.getElem?_toList]⟩
    have hj := at1.1 hgs o' hmem
    rw [hg] at hj
    have hj : j < ops.pop.size := by simpa [Nat.blt_eq] using hj
    have : yielded ops tm j = yielded ops.pop tm j := by
     unfold yielded
     rw [Array.getElem?_pop,if_pos (by simp at hj; omega)]
    rw [this]
  split at h
  rename_i st1 hr
  obtain ⟨T1,U1,C1,a1,a2,a3,a4,a5,a6⟩ := (aBT (fl := none) hE hr).dl
  split at h
  rename_i x hpn
  split at h
  rename_i t y hx
  simp only [oIQ,pIQ] at h
  obtain ⟨rfl,rfl⟩ := h
  refine ⟨T1,U1,C1,a1,a2,a3,a4,a5,fun fr own0 a w pl Q hG hc hag hok hQ => ?_⟩
  show (Code.region id ops false).wp P Q a w
  refine wpIn_wide.1 (wpIn_region (n := 0) ?_)
  show wpOpsIn (dV none) 0 P ops Q (List.range ops.size) a w
  rw [hsz,List.range_succ]
  refine qU (K := fun a w => ∃ pl,OkM fr n (bE [] st1.env) (bF U1 own0) st1.mks a w pl) hnd (fun a1 w1 hk => ?_) hsame hyw (a6 (bB P) fr own0 a w pl (fun _ a w => ∃ pl,OkM fr n (bE [] st1.env) (bF U1 own0) st1.mks a w pl) rfl hG hc hag hok (fun a' w' pl' hok' => ⟨pl',hok'⟩))
  obtain ⟨pl1,hok1⟩ := hk
  simp only [wpOpsIn,hlast]
  have hwant : Region.wanted o (yielded ops a1.tmps) = true := by unfold Region.wanted; rw [hgd]
  rw [if_pos hwant]
  refine ⟨fun f _ => trivial,?_⟩
  have hop : o.op = .panic x := by
   unfold pnOf at hpn
   split at hpn
   rename_i x' hx'; simp only [oIQ] at hpn; rw [hx',hpn]
   cases hpn
  have hv : a1.eval x = .iface t y := Rd.exact (gN hok1.ok [] [] x _ hx holds_nil holds_nil)
  have hrun : (Oper.semAt (dV none).round a1.eval o).run P w1 = .halt (.panic (.iface t y)) w1 := by
   rw [gY,Oper.semAt_none]
   unfold execOp
   simp only [hop,hv,Instr.panic]
   rfl
  rw [hrun,Oper.uponIn_panic]
  exact hQ _ w1 pl1 hok1
  cases h
  rename_i hpn
  have hw := aJO (P := P) (lk := gW (bE [] st1.env) []) (p := []) (o := o)
  split at h
  rename_i f svs hwho
  rw [hwho] at hw
  split at h
  rename_i r hr2
  simp only [oIQ,pIQ] at h
  obtain ⟨rfl,rfl⟩ := h
  obtain ⟨c1,c2,c3⟩ := hC _ _ _ _ _ _ hr2
  refine ⟨r.touch ++ T1,r.upd.reverse ++ U1,r.cs ++ C1,by simp [a1],by simp [a2],by simp [a3],by rw [c1,bP,c7,a4],fun x hx => ?_,fun fr own0 a w pl Q hG hc hag hok hQ => ?_⟩
  simp only [keys,List.map_append,List.map_reverse,List.mem_append,List.mem_reverse] at hx ⊢
  exact hx.imp (c2 x) (a5 x)
  obtain ⟨hc2,hc1⟩ := c6 hc
  show (Code.region id ops false).wp P Q a w
  refine wpIn_wide.1 (wpIn_region (n := 0) ?_)
  show wpOpsIn (dV none) 0 P ops Q (List.range ops.size) a w
  rw [hsz,List.range_succ]
  refine qU (K := fun a w => ∃ pl,OkM fr n (bE [] st1.env) (bF U1 own0) st1.mks a w pl) hnd (fun a1 w1 hk => ?_) hsame hyw (a6 (bB P) fr own0 a w pl (fun _ a w => ∃ pl,OkM fr n (bE [] st1.env) (bF U1 own0) st1.mks a w pl) rfl hG hc1 (fun i hi => hag i (by simp [hi])) hok (fun a' w' pl' hok' => ⟨pl',hok'⟩))
  obtain ⟨pl1,hok1⟩ := hk
  simp only [wpOpsIn,hlast]
  have hwant : Region.wanted o (yielded ops a1.tmps) = true := by unfold Region.wanted; rw [hgd]
  rw [if_pos hwant]
  refine ⟨fun f _ => trivial,?_⟩
  obtain ⟨vals,hv,hrun⟩ := hw (bF U1 own0) a1 w1 pl1 (gN hok1.ok []) holds_nil
  have hrun' : (Oper.semAt (dV none).round a1.eval o).run P w1 = .ok (.enter f vals.toArray) w1 := by
   rw [gY,Oper.semAt_none]
   exact hrun
  rw [hrun',Oper.uponIn_enter]
  refine ⟨fun h => (by cases h),?_⟩
  have hcall := c3 { fr with ds := mkD pl1 st1.mks,free := false } (bF U1 own0) w1 pl1 vals hG hc2 (fun i hi => by rw [a4]; exact eR U1 (hag i (by simp [hi]))) hok1.ok.mem hv
  refine callsIn_wide.2 (hcall.mono ?_)
  rintro e w' ⟨pl',rfl,m',L⟩
  show Q (.panic (chP r.v)) a1 w'
  obtain ⟨e1,e2⟩ := nY L hok1.bx
  have ok' := hok1.ok.later m' L
  have hu : aY (bF U1 own0) r.upd = bF (r.upd.reverse ++ U1) own0 := by rw [bP,c7]
  rw [hu] at ok' e2
  refine hQ a1 w' pl' ⟨⟨ok'.mem.of.to _ _,fun _ => ?_,ok'.size,ok'.yes,ok'.no,⟨ok'.late.1,fun hf => by cases hf⟩⟩,e2⟩
  show a1.defers = mkD pl' st1.mks
  rw [e1]; exact hok1.ok.defers rfl
  cases h
  cases h
  cases h
 cases h
theorem aGU (hE : ExeOk E) (hm : P.follows .mixedOrders = true) {F : Nat} {x : Code} {V : (Exit -> Act -> World -> Prop) -> Act -> World -> Prop} : ∀ {k : Nat} {st st1 st2 : XS} {v : Value},aKC E n F x k st = some st1 -> GoesP P G n (fun Q => (bB P).wp x Q) v st1 st2 -> GoesP P G n (fun Q => fB (bB P) x Q (k + 1)) v st st2
 | 0,st,st1,st2,v,h,h2 => by
  simp only [aKC,oIQ] at h
  subst h
  refine GoesP.one h2 fun Q a w hq => ?_
  show (bB P).wp x (Exit.then (fB (bB P) x Q 0) Q) a w
  refine (bB P).mono hq fun e a w h => ?_
  obtain ⟨rfl,h⟩ := h
  exact h
 | k + 1,st,st1,st2,v,h,h2 => by
  simp only [aKC] at h
  split at h
  rename_i st3 hx
  refine GoesP.trans (s7 hE hm F x _ _ _ hx) (aGU hE hm (V := V) h h2) fun Q a w hq => ?_
  show (bB P).wp x (Exit.then (fB (bB P) x Q (k + 1)) Q) a w
  refine (bB P).mono (cU hq) fun e a w h => ?_
  obtain ⟨rfl,h⟩ := h
  exact h
  cases h
theorem j4 (hE : ExeOk E) (hC : kT P G C) (hm : P.follows .mixedOrders = true) (F : Nat) : ∀ (c : Code) (p : List Nat) (v : Value) (st st' : XS),evP E C n F c p st = some (v,st') -> GoesP P G n (fun Q => (bB P).wp c Q) v st st'
 | .region id ops false,p,v,st,st',h => regP_ok hE hC h
 | .seq x y,0 :: p,v,st,st',h => by
  simp only [evP] at h
  refine GoesP.one (j4 hE hC hm F x p v st st' h) fun Q a w hq => ?_
  refine (bB P).seq ((bB P).mono hq fun e a w h => ?_)
  obtain ⟨rfl,h⟩ := h
  exact h
 | .seq x y,1 :: p,v,st,st',h => by
  simp only [evP] at h
  split at h
  rename_i st1 hx
  refine GoesP.trans (s7 hE hm F x _ _ _ hx) (j4 hE hC hm F y p v st1 st' h) fun Q a w hq => ?_
  refine (bB P).seq ((bB P).mono (cU hq) fun e a w h => ?_)
  obtain ⟨rfl,h⟩ := h
  exact h
  cases h
 | .cond c x y,p,v,st,st',h => by
  simp only [evP] at h
  split at h
  rename_i hb
  obtain ⟨T1,U1,C1,a1,a2,a3,a4,a5,a6⟩ := (j4 hE hC hm F x p v st st' h).dl
  refine ⟨T1,U1,C1,a1,a2,a3,a4,a5,fun fr own0 a w pl Q hG hc ht hok hQ => ?_⟩
  exact (bB P).cond (fT hok.ok hb) (fun _ => a6 fr own0 a w pl Q hG hc ht hok hQ) (fun h => by cases h)
  rename_i hb
  obtain ⟨T1,U1,C1,a1,a2,a3,a4,a5,a6⟩ := (j4 hE hC hm F y p v st st' h).dl
  refine ⟨T1,U1,C1,a1,a2,a3,a4,a5,fun fr own0 a w pl Q hG hc ht hok hQ => ?_⟩
  exact (bB P).cond (fT hok.ok hb) (fun h => by cases h) (fun _ => a6 fr own0 a w pl Q hG hc ht hok hQ)
  cases h
 | .block id x,p,v,st,st',h => by
  simp only [evP] at h
  refine GoesP.one (j4 hE hC hm F x p v st st' h) fun Q a w hq => ?_
  refine (bB P).block ((bB P).mono hq fun e a w h => ?_)
  obtain ⟨rfl,h⟩ := h
  exact h
 | .loop x,k :: p,v,st,st',h => by
  simp only [evP] at h
  split at h
  rename_i st1 hx
  refine GoesP.one (aGU hE hm (V := fun _ _ _ => True) hx (j4 hE hC hm F x p v st1 st' h)) fun Q a w hq => ?_
  refine (bB P).mono (rI hq) fun e a w h => ?_
  obtain ⟨rfl,h⟩ := h
  exact h
  cases h
 | .skip,p,v,st,st',h => by simp [evP] at h
 | .region _ _ true,p,v,st,st',h => by simp [evP] at h
 | .seq _ _,[],v,st,st',h => by simp [evP] at h
 | .seq _ _,(_ + 2) :: _,v,st,st',h => by simp [evP] at h
 | .loop _,[],v,st,st',h => by simp [evP] at h
 | .rangeFunc _ _ _ _,p,v,st,st',h => by simp [evP] at h
 | .exit _,p,v,st,st',h => by simp [evP] at h
 | .ret,p,v,st,st',h => by simp [evP] at h
 | .goto _,p,v,st,st',h => by simp [evP] at h
 | .label _,p,v,st,st',h => by simp [evP] at h
 | .scope _,p,v,st,st',h => by simp [evP] at h
end
def runP {P : Program} {G : List (Nat × List Value)} (E : Exe P G) (F : Nat) (C : lB) : lB := fun p k f svs own =>
 match P.funcs[f]? with
 | some fn => match fn.body with
  | some c => bif Nat.ble svs.length fn.ntmps && few fn.ntmps then (match evP E C fn.ntmps F c p ⟨z8 0 svs,own,k,[],[],[],[]⟩ with
   | some (v,⟨_,own',k',T,U,cs,[]⟩) => some ⟨v,U.reverse,T,own',k',cs⟩
   | _ => none) else none
  | none => none
 | none => none
def exeP {P : Program} {G : List (Nat × List Value)} (E : Exe P G) (F : Nat) : Nat -> lB
 | 0 => fun _ _ _ _ _ => none
 | d + 1 => runP E F (exeP E F d)
section
variable {P : Program} {G : List (Nat × List Value)} {E : Exe P G} {C : lB}
theorem oG {fr : Fr} {own0 : Own} {w : World} {pl : Pl} {n : Nat} {svs : List SV} {vals : List Value} {lat : List (World × Pl × Own)} (m : Mem fr own0 w pl) (hlat : ∀ q ∈ lat,Later q.1 q.2.1 q.2.2 w pl own0) (hv : All2 (aV w pl own0) svs vals) (hle : svs.length <= n) (hfew : few n = true) :
  OkM { fr with lat := lat,free := false } n (bE [] (z8 0 svs)) own0 [] { tmps := vals.toArray ++ Array.replicate (n - vals.toArray.size) undef,defers := [] } w pl := by
 have hlen : vals.length = svs.length := hv.1.symm
 refine ⟨⟨m.to _ _,fun _ => rfl,?_,?_,?_,⟨hlat,fun hf => by cases hf⟩⟩,fun i hi => by cases hi⟩
 simp; omega
 intro t p sv hfd _
 simp only [bE,aL,me,pIQ] at hfd
 obtain ⟨s',hs',_,rfl⟩ := hfd
 obtain ⟨i,rfl,hi⟩ := sM (by
  simp only [few,Nat.ble_eq] at hfew ⊢
  omega) hs'
 obtain ⟨v,hvi,hok⟩ := hv.get hi
 have hlt := (gsQ.1 hvi).1
 simp only [Nat.zero_add,Array.getD_eq_getD_getElem?]
 rw [Array.getElem?_append_left (by simpa using hlt)]
 simp [hvi]
 exact hok
 intro t p sv hfd hh
 simp only [bE,aL,me,pIQ] at hfd
 obtain ⟨_,_,rfl,_⟩ := hfd
 exact absurd holds_nil hh
theorem runP_ok (hE : ExeOk E) (hC : kT P G C) (hm : P.follows .mixedOrders = true) (F : Nat) : kT P G (runP E F C) := by
 intro p k f svs own r h
 unfold runP at h
 split at h
 rename_i fn hfn
 split at h
 rename_i c hb
 cases hchk : (Nat.ble svs.length fn.ntmps && few fn.ntmps) with
 | false => rw [hchk] at h; cases h
 | true =>
  rw [hchk] at h
  simp only [cond_true] at h
  simp only [bIQ,Nat.ble_eq] at hchk
  obtain ⟨hle,hfew⟩ := hchk
  split at h
  rename_i v env own' k' T U cs hev
  simp only [oIQ] at h
  subst h
  obtain ⟨dT,dU,dC,a1,a2,a3,a4,a5,a6⟩ := (j4 hE hC hm F c p v _ _ hev).dl
  simp only [List.append_nil] at a1 a2 a3
  subst a1; subst a2; subst a3
  refine ⟨by rw [<- c7,List.reverse_reverse]; exact a4,fun x hx => ?_,fun fr own0 w pl vals hG hc ht m hv => ?_⟩
  simp only [keys,List.map_reverse,List.mem_reverse] at hx
  exact a5 x hx
  refine callsIn_wide.1 (callsIn_of_wp_marks (n := 0) hfn hb trivial (wpIn_wide.2 ?_))
  show (bB P).wp c _ _ w
  refine a6 { fr with lat := [(w,pl,own0)],free := false } own0 _ w pl (bodyPostM Fence.wide 0 P fn _) hG hc ht (oG m (fun q hq => by
   simp only [List.mem_singleton] at hq
   subst hq
   exact Later.refl _ _ _) hv hle hfew) fun a' w' pl' hok => ?_
  have hdd : a'.defers = [] := hok.ok.defers rfl
  show LeavesInM Fence.wide 0 P fn a'.tmps _ a'.defers (.panicking (chP v)) w'
  rw [hdd]
  refine ⟨pl',rfl,?_,?_⟩
  rw [<- c7,List.reverse_reverse]; exact Mem.of (fr := fr) (ds := fr.ds) hok.ok.mem.of
  rw [<- c7,List.reverse_reverse]; exact hok.ok.late.1 (w,pl,own0) (by simp)
  cases h
 cases h
 cases h
theorem aHH (hE : ExeOk E) (hm : P.follows .mixedOrders = true) (F : Nat) : ∀ d,kT P G (exeP E F d)
 | 0 => (by intro p k f svs own r h; cases h)
 | d + 1 => runP_ok hE (aHH hE hm F d) hm F
end
def aLU (ops : Array Oper) : Option (Tmp × Tmp) := match ops with
 | ⟨[o0,o1]⟩ => match o0.op,o0.dst,o0.guard,o1.op,o1.dst,o1.guard with
  | .call { callee := .builtin .recover,args := ⟨[]⟩,argTypes := ⟨[]⟩ },some d0,none,.assign (.tmp d),some d1,none => bif Nat.beq d d0 then some (d0,d1) else none
  | _,_,_,_,_,_ => none
 | _ => none
def runR {P : Program} {G : List (Nat × List Value)} (E : Exe P G) (F : Nat) (C : lB) (p : List Nat) (k : Nat) (f : FuncId) (svs : List SV) (own : Tr Ob) : Option OpR :=
 match P.funcs[f]? with
 | some fn => match fn.body with
  | some c => bif Nat.ble svs.length fn.ntmps && few fn.ntmps then (match evP E C fn.ntmps F c p ⟨z8 0 svs,own,k,[],[],[],[]⟩ with
   | some (v,⟨env1,own1,k1,T1,U1,cs1,[.df g cap]⟩) => match P.funcs[g]? with
    | some gn => match gn.body with
     | some (.seq (.region _ ops false) y) => match aLU ops with
      | some (d0,d1) => bif enters P g && (Nat.ble cap.length gn.ntmps && (few gn.ntmps && (Nat.blt d0 gn.ntmps && (Nat.blt d1 gn.ntmps && v.oneCell')))) then
        (match evC E none gn.ntmps F y ⟨aKQ [(d0,.c (.d (.v v))),(d1,.c (.d (.v v)))] (z8 0 (cap.map fun x => .c (.bx x.1 x.2))),own1,k1,[],[],[],[]⟩ with
        | some (e,⟨env2,own2,k2,T2,U2,cs2,[]⟩) => bif Ex.isEx e then none else (match jQ P (bE [] env2) own2.get gn,jQ P (bE [] env1) own2.get fn with
         | some _,some s => some ⟨s,(U2 ++ U1).reverse,cR (bE [] env2) gn.results.toList ++ (cR (bE [] env1) fn.results.toList ++ (T2 ++ T1)),own2,k2,cs2 ++ cs1⟩
         | _,_ => none)
        | _ => none) else none
      | none => none
     | _ => none
    | none => none
   | _ => none) else none
  | none => none
 | none => none
section
variable {P : Program} {G : List (Nat × List Value)} {E : Exe P G} {C : lB}
theorem aLT {ops : Array Oper} {d0 d1 : Tmp} (h : aLU ops = some (d0,d1)) {F : Fence} {Q : Exit -> Act -> List Frame -> World -> Prop} {a : Act} {cs cs' : List Frame} {w : World} {v : Value} (hr : recoverD cs = some (v,cs')) (hd0 : d0 < a.tmps.size) (hF : ∀ f,F.fn f)
  (hQ : Q .normal ((a.put (some d0) v).put (some d1) v) cs' w) : wpOpsSIn F 0 P ops Q (List.range ops.size) a cs w := by
 unfold aLU at h
 split at h
 rename_i o0 o1
 split at h
 rename_i d0' d d1' h1 h2 h3 h4 h5 h6
 cases hb : Nat.beq d d0' with
 | false => rw [hb] at h; cases h
 | true =>
  rw [hb] at h
  simp only [cond_true,oIQ,pIQ] at h
  obtain ⟨rfl,rfl⟩ := h
  have hdd := Nat.eq_of_beq_eq_true hb
  subst hdd
  show wpOpsSIn F 0 P (#[o0,o1]) Q [0,1] a cs w
  have w0 : ∀ tm : Array Value,Region.wanted o0 (yielded #[o0,o1] tm) = true := fun tm => by unfold Region.wanted; rw [h3]
  have w1 : ∀ tm : Array Value,Region.wanted o1 (yielded #[o0,o1] tm) = true := fun tm => by unfold Region.wanted; rw [h6]
  have r0 : (execOp a.eval o0).run P w = .ok .recover w := by
   unfold execOp
   simp only [h1]
   rfl
  have r1 : ∀ a' : Act,(execOp a'.eval o1).run P w = .ok (.value (a'.eval (.tmp d))) w := fun a' => by
   unfold execOp
   simp only [h4]
   rfl
  have g0 : (#[o0,o1] : Array Oper)[0]? = some o0 := rfl
  have g1 : (#[o0,o1] : Array Oper)[1]? = some o1 := rfl
  simp only [wpOpsSIn,g0,g1]
  refine ⟨fun f _ => hF f,?_⟩
  rw [if_pos (w0 _),r0]
  simp only [hr]
  refine ⟨fun f _ => hF f,?_⟩
  rw [if_pos (w1 _),r1]
  simp only [h2,h5]
  have he : ((a.put (some d) v).eval (.tmp d)) = v := by
   show (a.tmps.setIfInBounds d v).getD d undef = v
   have hd0 : d < a.tmps.size := hd0
   simp [Array.getD_eq_getD_getElem?,Array.getElem?_setIfInBounds,hd0]
  rw [he]
  exact hQ
 cases h
 cases h
theorem runR_ok (hE : ExeOk E) (hC : kT P G C) (hm : P.follows .mixedOrders = true) {F : Nat} {p : List Nat} {k : Nat} {f : FuncId} {svs : List SV} {own : Tr Ob} {r : OpR} (h : runR E F C p k f svs own = some r) : r.own.get = aY own.get r.upd /\ (∀ x ∈ keys r.upd,x ∈ r.touch) /\
  ∀ (fr : Fr) (own0 : Own) (w : World) (pl : Pl) (vals : List Value),fr.G = G -> conj r.cs -> (∀ i ∈ r.touch,own0 i = own.get i) -> Mem fr own0 w pl -> All2 (aV w pl own0) svs vals ->
   Calls P f vals.toArray w fun e w' => ∃ v pl',e = .returned v /\ Mem fr (aY own0 r.upd) w' pl' /\ Later w pl own0 w' pl' (aY own0 r.upd) /\ aV w' pl' (aY own0 r.upd) r.sv v := by
 unfold runR at h
 split at h
 rename_i fn hfn
 split at h
 rename_i c hb
 cases hchk : (Nat.ble svs.length fn.ntmps && few fn.ntmps) with
 | false => rw [hchk] at h; cases h
 | true =>
  rw [hchk] at h
  simp only [cond_true] at h
  simp only [bIQ,Nat.ble_eq] at hchk
  obtain ⟨hle,hfew⟩ := hchk
  split at h
  rename_i v env1 own1 k1 T1 U1 cs1 g cap hev
  split at h
  rename_i gn hgn
  split at h
  rename_i rid ops y hgb
  split at h
  rename_i d0 d1 hrec
  cases hchk2 : (enters P g && (Nat.ble cap.length gn.ntmps && (few gn.ntmps && (Nat.blt d0 gn.ntmps && (Nat.blt d1 gn.ntmps && v.oneCell'))))) with
  | false => rw [hchk2] at h; cases h
  | true =>
   rw [hchk2] at h
   simp only [cond_true] at h
   simp only [bIQ,Nat.ble_eq,Nat.blt_eq] at hchk2
   obtain ⟨hent,hle2,hfew2,hd0,hd1,hone⟩ := hchk2
   split at h
   rename_i e env2 own2 k2 T2 U2 cs2 hev2
   cases hex : Ex.isEx e with
   | true => rw [hex] at h; cases h
   | false =>
    rw [hex] at h
    simp only [cond_false] at h
    split at h
    rename_i s2 s hret2 hret
    simp only [oIQ] at h
    subst h
    obtain ⟨dT,dU,dC,a1,a2,a3,a4,a5,a6⟩ := (j4 hE hC hm F c p v _ _ hev).dl
    simp only [List.append_nil] at a1 a2 a3
    subst a1; subst a2; subst a3
    obtain ⟨eT,eU,eC,b1,b2,b3,b4,b5,b6⟩ := (s7 hE hm F y e _ _ hev2).dl
    simp only [List.append_nil] at b1 b2 b3
    subst b1; subst b2; subst b3
    have hUU : ∀ o : Own,aY o (U2 ++ U1).reverse = bF U2 (bF U1 o) := fun o => by rw [<- bP,<- c7,List.reverse_reverse]
    refine ⟨by rw [hUU]; show own2.get = _; rw [b4]; show bF U2 own1.get = _; rw [a4],fun x hx => ?_,fun fr own0 w pl vals hG hc ht m hv => ?_⟩
    simp only [keys,List.map_reverse,List.map_append,List.mem_reverse,List.mem_append] at hx ⊢
    rcases hx with hx | hx
    exact .inr (.inr (.inl (b5 x hx)))
    exact .inr (.inr (.inr (a5 x hx)))
    have ht : ∀ i,i ∈ cR (bE [] env2) gn.results.toList \/ i ∈ cR (bE [] env1) fn.results.toList \/ i ∈ T2 \/ i ∈ T1 -> own0 i = own.get i := fun i hi => ht i (by simpa using hi)
    obtain ⟨hc2,hc1⟩ := c6 hc
    simp only [hUU]
    refine callsIn_wide.1 (callsIn_of_wp_marks (n := 0) hfn hb trivial (wpIn_wide.2 ?_))
    show (bB P).wp c _ _ w
    refine a6 { fr with lat := [(w,pl,own0)],free := false } own0 _ w pl (bodyPostM Fence.wide 0 P fn _) hG hc1 (fun i hi => ht i (.inr (.inr (.inr hi)))) (oG m (fun q hq => by
     simp only [List.mem_singleton] at hq
     subst hq
     exact Later.refl _ _ _) hv hle hfew) fun a' w1 pl1 hok => ?_
    have hdd : a'.defers = mkD pl1 [.df g cap] := hok.ok.defers rfl
    show LeavesInM Fence.wide 0 P fn a'.tmps _ a'.defers (.panicking (chP v)) w1
    rw [hdd]
    refine ⟨by simp,.inr ⟨fun h => (by cases h),.func g,(cap.map (adV pl1)).toArray,g,(#[] ++ (cap.map (adV pl1)).toArray),rfl,by simp only [Mk.d,invoke]; exact iC hent _,fun _ _ => trivial,?_⟩⟩
    refine callsDIn_of_wpSIn hgn hgb trivial fun c₀ cs hu => ?_
    have hrc : recoverD (c₀ :: cs) = some (v,{ c₀ with mode := .panicking [{ v := v,recovered := true }] } :: cs) := by simp [recoverD,hu,chP]
    have hown1 : ∀ i,i ∈ cR (bE [] env2) gn.results.toList \/ i ∈ cR (bE [] env1) fn.results.toList \/ i ∈ T2 \/ i ∈ T1 -> bF U1 own0 i = own1.get i := fun i hi => by
     show _ = own1.get i
     rw [show own1.get = bF U1 own.get from a4]; exact eR _ (ht i hi)
    have hcapb : ∀ x ∈ cap,∃ ty cs,bF U1 own0 x.1 = some (.box ty cs) := fun x hx => hok.bx (.df g cap) (by simp) x hx
    have hcv : All2 (aV w1 pl1 (bF U1 own0)) (cap.map fun x => SV.c (.bx x.1 x.2)) (cap.map (adV pl1)) := tI hcapb
    have L01 : Later w pl own0 w1 pl1 (bF U1 own0) := hok.ok.late.1 (w,pl,own0) (by simp)
    have m1 : Mem fr (bF U1 own0) w1 pl1 := Mem.of (fr := fr) (ds := fr.ds) hok.ok.mem.of
    have okg := oG (lat := [(w1,pl1,bF U1 own0),(w,pl,own0)]) m1 (fun q hq => by
     rcases mc.1 hq with rfl | hq
     exact Later.refl _ _ _
     simp only [List.mem_singleton] at hq
     subst hq
     exact L01) hcv (by simpa using hle2) hfew2
    have hsz : (#[] ++ (cap.map (adV pl1)).toArray : Array Value) = (cap.map (adV pl1)).toArray := by simp
    rw [hsz]
    apply wpSIn_seq
    apply wpSIn_region
    refine aLT hrec hrc (Nat.lt_of_lt_of_eq hd0 okg.ok.size.symm) (fun _ => trivial) ?_
    show y.wpSIn Fence.wide 0 P _ _ _ _
    refine wpSIn_of_wpIn rfl (wpIn_wide.2 ?_)
    have hlt0 : few d0 = true /\ few d1 = true := by
     simp only [few,Nat.ble_eq] at hfew2 ⊢
     omega
    refine cU (b6 (bB P) { fr with lat := [(w1,pl1,bF U1 own0),(w,pl,own0)],free := false } (bF U1 own0) _ w1 pl1 _ rfl hG hc2 (fun i hi => hown1 i (.inr (.inr (.inl hi)))) ⟨⟨okg.ok.mem.of.to _ _,fun _ => rfl,?_,fun t q sv hfd _ => ?_,fun t q sv hfd hh => ?_,⟨okg.ok.late.1,fun hf => by cases hf⟩⟩,fun i hi => by cases hi⟩ ?_)
    have := okg.ok.size
    show ((Array.setIfInBounds _ d0 v).setIfInBounds d1 v).size = gn.ntmps
    simp only [Array.size_setIfInBounds]
    exact this
    simp only [bE,aL,me,pIQ] at hfd
    obtain ⟨s',hs',_,rfl⟩ := hfd
    have hsv : aV w1 pl1 (bF U1 own0) (.c (.d (.v v))) v := Rd.v v hone
    refine aBX (l := [(d0,.c (.d (.v v))),(d1,.c (.d (.v v)))]) (vals := [v,v]) (All2.cons hsv (All2.one hsv)) (fun x hx => ?_) (fun t s h => okg.ok.yes t [] s (by simp [bE,aL,h]) holds_nil) t s' hs'
    have hz := okg.ok.size
    simp only [mc,List.not_mem_nil,or_false] at hx
    rcases hx with rfl | rfl
    exact ⟨hlt0.1,by rw [hz]; exact hd0⟩
    exact ⟨hlt0.2,by rw [hz]; exact hd1⟩
    simp only [bE,aL,me,pIQ] at hfd
    obtain ⟨_,_,rfl,_⟩ := hfd
    exact absurd holds_nil hh
    intro a3 w3 pl3 hok3
    have L13 : Later w1 pl1 (bF U1 own0) w3 pl3 (bF U2 (bF U1 own0)) := hok3.ok.late.1 (w1,pl1,bF U1 own0) (by simp)
    have L03 : Later w pl own0 w3 pl3 (bF U2 (bF U1 own0)) := hok3.ok.late.1 (w,pl,own0) (by simp)
    have m3 : Mem fr (bF U2 (bF U1 own0)) w3 pl3 := Mem.of (fr := fr) (ds := fr.ds) hok3.ok.mem.of
    have ok3 := hok.ok.later (m3.to _ _) L13
    have hown2 : ∀ i,i ∈ cR (bE [] env2) gn.results.toList \/ i ∈ cR (bE [] env1) fn.results.toList \/ i ∈ T2 \/ i ∈ T1 -> bF U2 (bF U1 own0) i = own2.get i := fun i hi => by
     rw [show own2.get = bF U2 own1.get from b4]; exact eR _ (hown1 i hi)
    have e2 : jQ P (bE [] env2) (bF U2 (bF U1 own0)) gn = some s2 := by
     rw [<- hret2]; exact jP fun i hi => hown2 i (.inl hi)
    have e1 : jQ P (bE [] env1) (bF U2 (bF U1 own0)) fn = some s := by
     rw [<- hret]; exact jP fun i hi => hown2 i (.inr (.inl hi))
    obtain ⟨v2,r2,_⟩ := rJ hok3.ok e2
    obtain ⟨v1,r1,s1⟩ := rJ ok3 e1
    have hd3 : a3.defers = [] := hok3.ok.defers rfl
    have fin : bodyPostS P gn c₀ cs (fun e u' w' => match e with
     | .returned _ => LeavesInM Fence.wide 0 P fn a'.tmps (fun e w' => ∃ v pl',e = .returned v /\ Mem fr (bF U2 (bF U1 own0)) w' pl' /\ Later w pl own0 w' pl' (bF U2 (bF U1 own0)) /\ aV w' pl' (bF U2 (bF U1 own0)) s v) [] (settle u') w'
     | .panicked chain => LeavesInM Fence.wide 0 P fn a'.tmps (fun e w' => ∃ v pl',e = .returned v /\ Mem fr (bF U2 (bF U1 own0)) w' pl' /\ Later w pl own0 w' pl' (bF U2 (bF U1 own0)) /\ aV w' pl' (bF U2 (bF U1 own0)) s v) [] (raised u' chain) w'
     | .outgrown => ∃ v pl',Ending.outgrown = .returned v /\ Mem fr (bF U2 (bF U1 own0)) w' pl' /\ Later w pl own0 w' pl' (bF U2 (bF U1 own0)) /\ aV w' pl' (bF U2 (bF U1 own0)) s v) .ret a3 ({ c₀ with mode := .panicking [{ v := v,recovered := true }] } :: cs) w3 :=
     ⟨hd3,_,rfl,v2,r2,v1,r1,v1,pl3,rfl,m3,L03,s1⟩
    cases e with
    | normal => exact fin
    | exit id => cases hex
    | ret => exact fin
    cases h
   cases h
  cases h
  cases h
  cases h
  cases h
 cases h
 cases h
def topR (T : List (Ent P G)) (ne : List (NE P)) (df : List (EntD P)) (orc : Nat -> Option Bool) (lit : Nat -> Option Value) (F d : Nat) (p : List Nat) (f : FuncId) (ins : List SV) : Option (SV × List Prop) :=
 match runR (aF3 T ne df orc lit F nFQ (d + 1)) F (exeP (aF3 T ne df orc lit F nFQ (d + 1)) F d) p 100 f ins .e with
 | some r => some (uP r.own.get (fun _ => false) r.sv,r.cs)
 | none => none
theorem aEO {T : List (Ent P G)} {ne : List (NE P)} {df : List (EntD P)} (orc : Nat -> Option Bool) (lit : Nat -> Option Value) {F d : Nat} (p : List Nat) {f : FuncId} {ins : List SV} {out : SV} {cs : List Prop} (hm : P.follows .mixedOrders = true) (h : topR T ne df orc lit F d p f ins = some (out,cs)) (hc : conj cs) : Spec P G f ins [] out [] := by
 unfold topR at h
 split at h
 rename_i r hr
 simp only [oIQ,pIQ] at h
 obtain ⟨rfl,rfl⟩ := h
 have hE := qX (T := T) (ne := ne) (df := df) (orc := orc) (lit := lit) (F := F) (hnt := fun _ => none) hm (d + 1)
 obtain ⟨c1,c2,c3⟩ := runR_ok hE (aHH hE hm F d) hm hr
 intro fr w pl args hw hG m ha
 have hE : lookO [] = (Tr.e : Tr Ob).get := by funext i; rfl
 have hX : ∀ i b,(i,b) ∉ fr.X := by
  intro i b hib
  rcases m.bor i b hib with ⟨_,_,h,_⟩ | ⟨_,_,_,_,h⟩ <;> cases h
 refine (c3 fr (lookO []) w pl args hG.G hc (fun i _ => by rw [hE]) m ha).mono ?_
 rintro e w' ⟨v,pl',rfl,m',L,hs⟩
 rw [hE,<- c1] at m' hs
 have hk : bO r.own.get (fun _ => false) = lookO [] := by funext i; simp [bO,lookO]
 refine ⟨v,pl',rfl,?_,?_⟩
 rw [<- hk]; exact kN m' fun i b h => absurd h (hX i b)
 rw [<- hk]; exact tC m' (fun i b h => absurd h (hX i b)) hs
 cases h
end
end Go.V
namespace Go.Proofs.YtgpedhfdniigoaaGreatDoor
open Go.RowKit Go.V
section
variable {ops : Array Oper} {Q : Exit -> Act -> List Frame -> World -> Prop} {i : Nat} {rest : List Nat} {a : Act} {cs : List Frame} {w w' : World} {v : Value} {o : Oper}
theorem lK (ho : ops[i]? = some o) (hw : Region.wanted o (yielded ops a.tmps) = true) (hr : (execOp a.eval o).run Tryz.prog w = .ok (.value v) w') (h : wpOpsSIn Fence.wide 0 Tryz.prog ops Q rest (a.put o.dst v) cs w') : wpOpsSIn Fence.wide 0 Tryz.prog ops Q (i :: rest) a cs w := by
 simp only [wpOpsSIn,ho]
 refine ⟨fun _ _ => trivial,?_⟩
 rw [if_pos hw,hr]
 exact h
theorem zQ (ho : ops[i]? = some o) (hw : Region.wanted o (yielded ops a.tmps) = true) (hr : (execOp a.eval o).run Tryz.prog w = .ok .recover w') (hc : recoverD cs = none) (h : wpOpsSIn Fence.wide 0 Tryz.prog ops Q rest (a.put o.dst .nilIface) cs w') : wpOpsSIn Fence.wide 0 Tryz.prog ops Q (i :: rest) a cs w := by
 simp only [wpOpsSIn,ho]
 refine ⟨fun _ _ => trivial,?_⟩
 rw [if_pos hw,hr]
 simp only [hc]
 exact h
end
set_option maxRecDepth 100000 in
theorem aK0 (args : Array Value) (w : World) (ha : args.size = 2) : CallsDIn Fence.wide 0 Tryz.prog 50 args .returning w fun e u w' => ∃ v,e = .returned v /\ u = .returning /\ w.grownBy w' none := by
 obtain ⟨l⟩ := args
 match l,ha with
 | [x,y],_ =>
  refine callsDIn_of_wpSIn Tryz.func50 (c := tK Tryz.f50) (by kernel_rfl) trivial fun c₀ cs hu => ?_
  have hrec : recoverD (c₀ :: cs) = none := by simp [recoverD,hu]
  apply wpSIn_seq
  apply wpSIn_region
  refine zQ (w' := w) rfl rfl (by kernel_rfl) hrec ?_
  refine lK (v := .nilIface) (w' := w) rfl rfl (by kernel_rfl) ?_
  show (Code.seq _ _).wpSIn Fence.wide 0 Tryz.prog _ _ _ _
  apply wpSIn_seq
  apply wpSIn_region
  refine lK (v := .nilIface) (w' := w) rfl rfl (by kernel_rfl) ?_
  refine lK (v := .bool false) (w' := w) rfl rfl (by kernel_rfl) ?_
  show (Code.cond _ _ _).wpSIn Fence.wide 0 Tryz.prog _ _ _ _
  refine wpSIn_cond (t := false) (by kernel_rfl) ?_
  refine wpSIn_of_wpIn rfl (wpIn_skip ?_)
  refine ⟨rfl,.returning,?_,?_⟩
  cases c₀; simp_all
  exact ⟨.tuple #[],by kernel_rfl,_,rfl,rfl,World.grownBy.refl _ _⟩
def D0e : List (EntD Tryz.prog) := [⟨50,2,aK0⟩]
def nlD : D := .v (.slice none 0 0)
abbrev y31 : SV := .tup [(false,[cI 1]),(false,[cB true]),(false,[cB true])]
abbrev y32 : SV := .tup [(false,[cI 4]),(false,[cB true]),(false,[cB true])]
abbrev y33 : SV := .tup [(false,[cI 3]),(false,[cB true]),(false,[cB true])]
end Go.Proofs.YtgpedhfdniigoaaGreatDoor
