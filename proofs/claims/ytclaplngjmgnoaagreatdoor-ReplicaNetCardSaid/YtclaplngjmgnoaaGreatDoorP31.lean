/- Part 31 of the proof. -/
import Derived.Test.YtclaplngjmgnoaaGreatDoorP29
import Derived.Test.YtclaplngjmgnoaaGreatDoorP30
import Derived.Maps.RangeRun
set_option linter.all false
namespace Go.V
open Go.RowKit
def nextB (root : Code) (pos : List Nat) (n : Nat) : Option (Nat × Nat × Nat) := match dV root pos with
 | some (.region _ ⟨[o1,o2]⟩ false) => match o1.op,o1.dst,o1.guard,o2.op,o2.dst,o2.guard with
  | .next (.tmp it) false,some nx,none,.extract (.tmp nx') 0,some more,none => if nx == nx' && !(nx == more) && decide (nx < n) && decide (more < n) && fM #[o1,o2] then some (it,nx,more) else none
  | _,_,_,_,_,_ => none
 | _ => none
section
variable {P : Program} {R : Wp P} {fr : Fr} {n : Nat} {env : Env} {own : Own} {a : Act} {w w' : World} {pl : Pl} {root : Code} {Q : Exit -> Act -> World -> Prop}
theorem Ok.putN (h : Ok fr n env own a w pl) {t : Nat} (ht : t < n) (hn : env t = none) (hpl : ∀ u q sv,env u = some (q,sv) -> q = []) (v : Value) : Ok fr n env own (a.put (some t) v) w pl := by
 have hts : t < a.tmps.size := by rw [h.size]; exact ht
 refine ⟨h.mem,h.defers,by simp [Act.put,h.size],?_,?_,h.late⟩;intro u q sv hu hh;have hq := hpl u q sv hu;subst hq;have hne : u ≠ t := fun e => by rw [e,hn] at hu; cases hu
 rw [Eng.put_getD _ _ _ _ hts,if_neg hne];exact h.yes u [] sv hu holds_nil;intro u q sv hu hh;have hq := hpl u q sv hu;subst hq;exact absurd holds_nil hh
theorem pW {o : Oper} (h : o.guard = none) (y : Nat -> Option Bool) : Region.wanted o y = true := by simp [Region.wanted,h]
theorem aNR {pos : List Nat} {st : St} {it nx more i j since last clock : Nat} {seen : Array Nat} {ents : Array MapEntry} {q q2 : Option Nat} {cells : List C}
  (hcode : nextB root pos n = some (it,nx,more)) (hpl : m8 st.env = true) (hnx : aI st.env nx = none) (hit : aI st.env it = some ([],.c (.bx j 0)))
  (hj : lookO st.own j = some (.box ⟨.itr since seen last,q⟩ [.mp i])) (hi : lookO st.own i = some (.box ⟨.raw (.map ents clock),q2⟩ cells))
  (hb : ∀ x ∈ ents.toList,x.born < since) (hsc : since <= last)
  (hover : (∀ e ∈ ents.toList,seen.contains e.born = true) -> W R fr n root Q (.exit pos .normal) ⟨uY st.env more ([],.c (.d (.v (.bool false)))),st.own⟩)
  (hstep : ∀ e ∈ ents.toList,seen.contains e.born = false -> W R fr n root Q (.exit pos .normal) ⟨uY st.env more ([],.c (.d (.v (.bool true)))),dW st.own [(j,.box ⟨.itr since (seen.push e.born) clock,q⟩ [.mp i])]⟩) :
  W R fr n root Q (.code pos) st := by
 intro c hc a w hok;unfold nextB at hcode;rw [hc] at hcode;split at hcode
 ·rename_i rid o1 o2 hceq
  simp only [oIQ] at hceq;subst hceq;split at hcode
  ·rename_i it' nx' nx2 more' h1 h2 h3 h4 h5 h6
   split at hcode
   ·rename_i hch
    simp only [oIQ,pIQ] at hcode;obtain ⟨rfl,rfl,rfl⟩ := hcode;simp only [bIQ,beq_iff_eq,Bool.not_eq_true',beq_eq_false_iff_ne,decide_eq_true_eq] at hch;obtain ⟨⟨⟨⟨rfl,hne⟩,hnxn⟩,hmn⟩,hnd⟩ := hch;have hplain := qA hpl;obtain ⟨pl,ok⟩ := hok;have hv : COk w pl (lookO st.own) (.bx j 0) (a.eval (.tmp it')) := ok.yes it' [] _ hit holds_nil;have hv := hv.2;obtain ⟨vs,⟨qq,rfl,hjb⟩,hcj⟩ := ok.mem.obj j _ hj;obtain ⟨y,r,he,hmp,hr⟩ := hcj.uncons;simp only [List.cons.injEq] at he;obtain ⟨rfl,rfl⟩ := he;have hqq : qq = some (pl.blk i) := by have := hmp.2; injection this
    subst hqq;obtain ⟨vs2,hib,_⟩ := ok.mem.obj i _ hi;have hib : w.heap[pl.blk i]? = some (.map ents clock) := hib;have two : ∀ (b : Bool) (tl : List Value) (w1 : World) (st1 : St),(Instr.next (.pointer (some ⟨pl.blk j,0,none⟩)) false o1.type).run P w = .ok (.tuple (.bool b :: tl).toArray) w1 ->
      (∃ pl1,Ok fr n (aI st.env) (lookO st1.own) a w1 pl1) -> st1.env = uY st.env more' ([],.c (.d (.v (.bool b)))) -> W R fr n root Q (.exit pos .normal) st1 -> R.wp (.region rid #[o1,o2] false) (ctx R root Q pos) a w := by
     intro b tl w1 st1 hrun hok1 henv hW;obtain ⟨pl1,ok1⟩ := hok1;refine R.region hnd ?_;show eJ P #[o1,o2] 0 (eJ P #[o1,o2] 1 _) a w;unfold eJ;simp only [List.getElem?_toArray,cz,pW h3,if_true];refine .inl fun Q' => ?_;have hr1 : (execOp a.eval o1).run P w = .ok (.value (.tuple (.bool b :: tl).toArray)) w1 := by
      unfold execOp;simp only [h1,hv,Sem.run_bind,hrun,an];rfl
     unfold Oper.wp;rw [hr1,Oper.upon_value,h2];simp only [List.getElem?_cons_succ,cz,pW h6,if_true];refine .inl fun Q'' => ?_;have hsz : nx' < a.tmps.size := by rw [ok.size]; exact hnxn
     have hev : (a.put (some nx') (.tuple (.bool b :: tl).toArray)).eval (.tmp nx') = .tuple (.bool b :: tl).toArray := by
      show (a.put (some nx') _).tmps.getD nx' undef = _;rw [Eng.put_getD _ _ _ _ hsz,if_pos rfl]
     have hr2 : (execOp (a.put (some nx') (.tuple (.bool b :: tl).toArray)).eval o2).run P w1 = .ok (.value (.bool b)) w1 := by
      unfold execOp;simp only [h4,hev,Sem.run_bind,Instr.extract,List.getElem?_toArray,cz,Sem.run_pure,an]
     unfold Oper.wp;rw [hr2,Oper.upon_value,h5];refine hW _ _ ⟨pl1,?_⟩;rw [henv,mD];refine (ok1.putN hnxn hnx hplain _).put hmn (fun u q' sv hu hut x hx => ?_) (fun x hx => by cases hx) (fun _ => Rd.v _ rfl) (fun hh => absurd holds_nil hh);rw [hplain u q' sv hu] at hx; cases hx
    rcases run_next_at (P := P) w o1.type (pl.blk j) (pl.blk i) since last seen ents clock hjb hib hb hsc with ⟨h0,hrun⟩ | ⟨e,he,w1,hw1,hrun⟩
    ·have hall := all_seen ents seen h0
     exact two false [] w ⟨uY st.env more' ([],.c (.d (.v (.bool false)))),st.own⟩ hrun ⟨pl,ok⟩ rfl (hover hall)
    ·obtain ⟨hem,hes⟩ := mem_left he
     refine two true [e.key,e.val] _ ⟨uY st.env more' ([],.c (.d (.v (.bool true)))),dW st.own [(j,.box ⟨.itr since (seen.push e.born) clock,q⟩ [.mp i])]⟩ hrun ?_ rfl (hstep e hem hes);have hok1 : ∃ pl1,Ok fr n (aI st.env) (lookO st.own) a w1 pl1 /\ pl1 = pl := by
      rcases hw1 with rfl | rfl
      ·exact ⟨pl,ok,rfl⟩
      ·have hg : w.grownBy w.drew none := ⟨rfl,rfl,rfl,lr _,fun _ _ _ => rfl⟩
       obtain ⟨m',L⟩ := ok.mem.ext hg;exact ⟨pl,ok.later m' L,rfl⟩
     obtain ⟨pl1,ok1,rfl⟩ := hok1;obtain ⟨m',L⟩ := ok1.mem.turnObjO (ty' := ⟨.itr since (seen.push e.born) clock,q⟩) (cells' := [.mp i]) (vs' := [.map (some (pl1.blk i))]) hj rfl (All2.one ⟨hmp.1,rfl⟩) (x := .mapIter (some (pl1.blk i)) since (seen.push e.born) clock) ⟨_,rfl,rfl⟩;refine ⟨pl1,?_⟩;rw [bS];exact ok1.later m' L
   ·cases hcode
  ·cases hcode
 ·cases hcode
theorem aNK {now : Now} {st : St} {i : Nat} {es : List (List UInt8 × Bool)} {q : Option Nat} {cells : List C} (hi : lookO st.own i = some (.box ⟨.mpb es,q⟩ cells))
  (h : ∀ (ents : Array MapEntry) (clock : Nat),MapIs (kvB es) ents clock -> W R fr n root Q now ⟨st.env,dW st.own [(i,.box ⟨.raw (.map ents clock),q⟩ cells)]⟩) : W R fr n root Q now st := by
 have hall : ∀ a w,OkS fr n st a w -> ∃ ents clock,MapIs (kvB es) ents clock /\ OkS fr n ⟨st.env,dW st.own [(i,.box ⟨.raw (.map ents clock),q⟩ cells)]⟩ a w := by
  rintro a w ⟨pl,ok⟩;obtain ⟨vs,⟨ents,clock,hb,hM⟩,hc⟩ := ok.mem.obj i _ hi;refine ⟨ents,clock,hM,pl,?_⟩;obtain ⟨m',L⟩ := ok.mem.turnObjO (ty' := ⟨.raw (.map ents clock),q⟩) (cells' := cells) (vs' := vs) hi rfl hc (x := .map ents clock) rfl;have hsame : { w with heap := w.heap.setIfInBounds (pl.blk i) (.map ents clock) } = w := by
   have : w.heap.setIfInBounds (pl.blk i) (.map ents clock) = w.heap := by
    apply Array.ext_getElem?;intro j;rw [Array.getElem?_setIfInBounds];split;rename_i hj; subst hj;split;exact hb.symm;rename_i hlt; exact absurd (Array.getElem?_eq_some_iff.1 hb).1 hlt;rfl
   rw [this]
  rw [hsame] at m' L;rw [bS];exact ok.later m' L
 cases now with
 | code pos => intro c hc a w hok; obtain ⟨ents,clock,hM,hok'⟩ := hall a w hok; exact h ents clock hM c hc a w hok'
 | exit pos e => intro a w hok; obtain ⟨ents,clock,hM,hok'⟩ := hall a w hok; exact h ents clock hM a w hok'
theorem aML {now : Now} {st : St} {i : Nat} {ents : Array MapEntry} {clock : Nat} {es : List (List UInt8 × Bool)} {q : Option Nat} {cells : List C} (hi : lookO st.own i = some (.box ⟨.raw (.map ents clock),q⟩ cells)) (hM : MapIs (kvB es) ents clock)
  (h : W R fr n root Q now ⟨st.env,dW st.own [(i,.box ⟨.mpb es,q⟩ cells)]⟩) : W R fr n root Q now st := by
 have hall : ∀ a w,OkS fr n st a w -> OkS fr n ⟨st.env,dW st.own [(i,.box ⟨.mpb es,q⟩ cells)]⟩ a w := by
  rintro a w ⟨pl,ok⟩;obtain ⟨vs,hb,hc⟩ := ok.mem.obj i _ hi;have hb : w.heap[pl.blk i]? = some (.map ents clock) := hb;refine ⟨pl,?_⟩;obtain ⟨m',L⟩ := ok.mem.turnObjO (ty' := ⟨.mpb es,q⟩) (cells' := cells) (vs' := vs) hi rfl hc (x := .map ents clock) ⟨_,_,rfl,hM⟩;have hsame : { w with heap := w.heap.setIfInBounds (pl.blk i) (.map ents clock) } = w := by
   have : w.heap.setIfInBounds (pl.blk i) (.map ents clock) = w.heap := by
    apply Array.ext_getElem?;intro j;rw [Array.getElem?_setIfInBounds];split;rename_i hj; subst hj;split;exact hb.symm;rename_i hlt; exact absurd (Array.getElem?_eq_some_iff.1 hb).1 hlt;rfl
   rw [this]
  rw [hsame] at m' L;rw [bS];exact ok.later m' L
 cases now with
 | code pos => intro c hc a w hok; exact h c hc a w (hall a w hok)
 | exit pos e => intro a w hok; exact h a w (hall a w hok)
end
section
variable {P : Program} {R : Wp P} {fr : Fr} {n : Nat} {root : Code} {Q : Exit -> Act -> World -> Prop}
def desc (root : Code) : Nat -> List Nat -> Option (List Nat)
 | 0,pos => some pos
 | k + 1,pos => match dV root pos with
  | some (.seq _ _) => desc root k (0 :: pos)
  | some (.block _ _) => desc root k (0 :: pos)
  | _ => none
theorem iF (hm : P.follows .mixedOrders = true) {st : St} : ∀ (k : Nat) {pos pos' : List Nat},desc root k pos = some pos' -> W R fr n root Q (.code pos') st -> W R fr n root Q (.code pos) st
 | 0,pos,pos',h,hk => by simp only [desc,oIQ] at h; subst h; exact hk
 | k + 1,pos,pos',h,hk => by
  intro c hcode a w hok;simp only [desc,hcode] at h;cases c with
  | seq x y =>
   have := iF hm k (pos := 0 :: pos) h hk x (by simp [dV,hcode,child]) a w hok;simp only [ctx,hcode] at this;exact R.seq this
  | block id x =>
   have := iF hm k (pos := 0 :: pos) h hk x (by simp [dV,hcode,child]) a w hok;simp only [ctx,hcode] at this;exact R.block this
  | _ => simp at h
end
theorem pC {α : Type} : ∀ {l m : List α},l.Nodup -> (∀ x,x ∈ l -> x ∈ m) -> l.length <= m.length
 | [],m,_,_ => zl _
 | x :: l,m,hn,hs => by
  obtain ⟨a,b,rfl⟩ := List.append_of_mem (hs x (by simp));have hn := List.nodup_cons.1 hn;have := pC (l := l) (m := a ++ b) hn.2 fun y hy => by
   have h1 := hs y (by simp [hy]);have h2 : ¬ y = x := by rintro rfl; exact hn.1 hy
   simp only [List.mem_append,mc] at h1 ⊢;rcases h1 with h1 | h1 | h1;exact .inl h1;exact absurd h1 h2;exact .inr h1
  simp only [la,lc] at this ⊢;omega
theorem l6 {α : Type} : ∀ {l m : List α},l.Nodup -> m.Nodup -> (∀ x,x ∈ l ↔ x ∈ m) -> l.Perm m
 | [],m,_,_,h => by
  cases m with
  | nil => exact .refl _
  | cons y r => exact absurd ((h y).2 (by simp)) (by simp)
 | x :: l,m,hn,hm,h => by
  obtain ⟨a,b,rfl⟩ := List.append_of_mem ((h x).1 (by simp));have hn := List.nodup_cons.1 hn;have hm2 : (x :: (a ++ b)).Nodup := List.perm_middle.nodup_iff.1 hm;have hm3 := List.nodup_cons.1 hm2;have := l6 (l := l) (m := a ++ b) hn.2 hm3.2 fun y => by
   have hy := h y;simp only [mc,List.mem_append] at hy ⊢;constructor
   ·intro hl
    have h2 : ¬ y = x := by rintro rfl; exact hn.1 hl
    rcases hy.1 (.inr hl) with h3 | h3 | h3
    ·exact .inl h3
    ·exact absurd h3 h2
    ·exact .inr h3
   ·intro hl
    have h2 : ¬ y = x := by rintro rfl; exact hm3.1 (by simpa using hl)
    have : y = x \/ y ∈ l := hy.2 (by rcases hl with h3 | h3; (· exact .inl h3); exact .inr (.inr h3))
    exact this.resolve_left h2
  exact (List.Perm.cons x this).trans List.perm_middle.symm
theorem lO {α β : Type} {f : α -> β} : ∀ {l : List α},(l.map f).Nodup -> ∀ {x y : α},x ∈ l -> y ∈ l -> f x = f y -> x = y
 | z :: l,h,x,y,hx,hy,he => by
  rw [mp1] at h;have h := List.nodup_cons.1 h;rcases mc.1 hx with hxz | hx2;rcases mc.1 hy with hyz | hy2;rw [hxz,hyz];exact absurd (by rw [<- hxz,he]; exact List.mem_map_of_mem hy2) h.1;rcases mc.1 hy with hyz | hy2;exact absurd (by rw [<- hyz,<- he]; exact List.mem_map_of_mem hx2) h.1;exact lO h.2 hx2 hy2 he
def RngB (ents : Array MapEntry) (vis : List (List UInt8 × Bool)) (seen : Array Nat) : Prop :=
 ∃ done : List MapEntry,(∀ x ∈ done,x ∈ ents.toList) /\ done.Nodup /\ seen.toList = done.map (·.born) /\ done.map (fun e => (e.key,e.val)) = kvB vis
theorem RngB.nil (ents : Array MapEntry) : RngB ents [] #[] := ⟨[],by simp,List.nodup_nil,rfl,rfl⟩
theorem RngB.step {es vis : List (List UInt8 × Bool)} {ents : Array MapEntry} {clock : Nat} {seen : Array Nat} (hM : MapIs (kvB es) ents clock) (h : RngB ents vis seen) {e : MapEntry} (he : e ∈ ents.toList) (hn : seen.contains e.born = false) :
  ∃ (x : List UInt8) (b : Bool),e.key = .string ⟨x.toArray⟩ /\ e.val = .bool b /\ (x,b) ∈ es /\ RngB ents (vis ++ [(x,b)]) (seen.push e.born) /\ (vis ++ [(x,b)]).length <= es.length /\ aQR ents clock (seen.push e.born) clock (.string ⟨x.toArray⟩) (.bool b) := by
 obtain ⟨done,h1,h2,h3,h4⟩ := h;have hm : (e.key,e.val) ∈ kvB es := hM.kv.mem_iff.1 (mm.2 ⟨e,he,rfl⟩);obtain ⟨⟨x,b⟩,hx,hxe⟩ := mm.1 hm;simp only [pIQ] at hxe;have hnd : (done ++ [e]).Nodup := by
  rw [List.nodup_append];refine ⟨h2,by simp,fun a ha c hc => ?_⟩;simp only [List.mem_singleton] at hc;subst hc;rintro rfl;have : seen.toList.contains a.born = true := by
   rw [h3]; exact List.contains_iff_mem.2 (List.mem_map_of_mem ha)
  rw [<- Array.contains_toList] at hn;rw [this] at hn;cases hn
 have hsub : ∀ y ∈ done ++ [e],y ∈ ents.toList := by
  intro y hy;rcases List.mem_append.1 hy with hy | hy;exact h1 y hy;simp only [List.mem_singleton] at hy; subst hy; exact he
 have hkv : (done ++ [e]).map (fun e => (e.key,e.val)) = kvB (vis ++ [(x,b)]) := by
  rw [List.map_append,h4]; simp [kvB,hxe.1,hxe.2]
 refine ⟨x,b,hxe.1.symm,hxe.2.symm,hx,⟨done ++ [e],hsub,hnd,by simp [h3],hkv⟩,?_,⟨seen,e,rfl,he,hxe.1.symm,hxe.2.symm,rfl,hM.nd⟩⟩;have e1 : (vis ++ [(x,b)]).length = (done ++ [e]).length := by have := congrArg List.length hkv; simpa [kvB] using this.symm
 have e2 : es.length = ents.toList.length := by have := hM.kv.length_eq; simpa [kvB] using this.symm
 rw [e1,e2];exact pC hnd hsub
theorem kvB_inj {a b : List (List UInt8 × Bool)} (h : kvB a = kvB b) : a = b := by
 induction a generalizing b with
 | nil => cases b with
  | nil => rfl
  | cons y r => simp [kvB] at h
 | cons x l ih => cases b with
  | nil => simp [kvB] at h
  | cons y r =>
   have h0 : kvB (x :: l) = (Value.string ⟨x.1.toArray⟩,Value.bool x.2) :: kvB l := rfl;have h1 : kvB (y :: r) = (Value.string ⟨y.1.toArray⟩,Value.bool y.2) :: kvB r := rfl;rw [h0,h1] at h;injection h with h2 h3;rw [ih h3];injection h2 with h4 h5;injection h4 with h4;injection h4 with h4;injection h5 with h5;have h6 : x.1 = y.1 := by have := congrArg Array.toList h4; simpa using this
   obtain ⟨x1,x2⟩ := x;obtain ⟨y1,y2⟩ := y;simp only at h5 h6;rw [h5,h6]
theorem RngB.full {es vis : List (List UInt8 × Bool)} {ents : Array MapEntry} {clock : Nat} {seen : Array Nat} (hM : MapIs (kvB es) ents clock) (h : RngB ents vis seen) (hall : ∀ e ∈ ents.toList,seen.contains e.born = true) : vis.Perm es := by
 obtain ⟨done,h1,h2,h3,h4⟩ := h;have hn : ents.toList.Nodup := by
  have := hM.nd;rw [List.Nodup,List.pairwise_map] at this;exact this.imp fun h e => h (by rw [e])
 have hp : done.Perm ents.toList := l6 h2 hn fun x => ⟨h1 x,fun hx => by
  have hc := hall x hx;rw [<- Array.contains_toList,h3] at hc;obtain ⟨d,hd,hde⟩ := mm.1 (List.contains_iff_mem.1 hc);rwa [<- lO hM.nd (h1 d hd) hx hde]⟩
 have hk : (kvB vis).Perm (kvB es) := by
  rw [<- h4]; exact (hp.map _).trans hM.kv
 obtain ⟨es0,hp0,he⟩ := jY _ hk;rw [kvB_inj (b := es0) he];exact hp0
section
variable {P : Program} {G : List (Nat × List Value)} {n : Nat}
theorem hO {l iL p p2 : Nat} {r : Loop} {sv sv2 : SV} {refs : aZ} {out : SV} {post : aZ} {env0 : bR} (hL : lookO refs iL = some (.box ⟨.raw (.loop r),some l⟩ [])) (hps : r.params = #[p,p2]) (hn : r.tmps.size = n) (hp : p < n) (hp2 : p2 < n) (hpp : ¬ p = p2) (hT : tmE refs r.tmps env0)
  (h : ∀ fr : Fr,FrIs fr G [] -> W (mU P l) fr n r.assign (Exit.then (aQT P l r.body (lK fr out post)) (fun _ _ _ => False)) (.code []) ⟨(p,[],sv) :: (p2,[],sv2) :: env0,refs⟩) : eS P G l [sv,sv2] refs out post := by
 intro fr w pl args hw hG m ha;obtain ⟨v,t,rfl,hv,ht⟩ := ha.uncons;obtain ⟨v2,t2,rfl,hv2,ht2⟩ := ht.uncons;obtain rfl := ht2.unnil;obtain ⟨vs,hh,_⟩ := m.obj iL _ hL;rw [m.pin iL _ _ l hL rfl] at hh;have hh : w.heap[l]? = some (.loop r) := hh;refine ⟨r.fn,_,r.assign,r.body,run_yield hh (by rw [hps]; rfl),roundIn_of_wpIn trivial ?_⟩;have hfold : (r.params.zip [v,v2].toArray).foldl (fun tmps (t,a) => tmps.setIfInBounds t a) r.tmps = (r.tmps.setIfInBounds p v).setIfInBounds p2 v2 := by rw [hps]; simp
 rw [hfold];refine h fr hG r.assign rfl _ w ⟨pl,m,(hG.ds rfl).symm,?_,fun t q s hf _ => ?_,fun t q s hf hh => ?_,fun q hq => (by rw [hG.lat] at hq; cases hq)⟩;show ((r.tmps.setIfInBounds p v).setIfInBounds p2 v2).size = n;simp [hn];show bD w pl (lookO refs) s (((r.tmps.setIfInBounds p v).setIfInBounds p2 v2).getD t undef);simp only [aI] at hf;split at hf;rename_i hu;simp only [beq_iff_eq] at hu;simp only [oIQ,pIQ] at hf;obtain ⟨rfl,rfl⟩ := hf;subst hu;simp only [Array.getD_eq_getD_getElem?,Array.getElem?_setIfInBounds,if_neg (Ne.symm hpp),if_true];rw [if_pos (by omega)];exact hv;rename_i hu;have hne' : t ≠ p := fun e => hu (by simp [e]);split at hf;rename_i hu2;simp only [beq_iff_eq] at hu2;simp only [oIQ,pIQ] at hf;obtain ⟨rfl,rfl⟩ := hf;subst hu2;simp only [Array.getD_eq_getD_getElem?,Array.getElem?_setIfInBounds,if_true];rw [if_pos (by simp; omega)];exact hv2;rename_i hu2;have hne2 : t ≠ p2 := fun e => hu2 (by simp [e]);simp only [Array.getD_eq_getD_getElem?,Array.getElem?_setIfInBounds,if_neg (Ne.symm hne'),if_neg (Ne.symm hne2)];rw [<- Array.getD_eq_getD_getElem?];exact (aDS m hT t q s hf).2;simp only [aI] at hf;split at hf;simp only [oIQ,pIQ] at hf;rw [<- hf.1] at hh;exact absurd holds_nil hh;split at hf;simp only [oIQ,pIQ] at hf;rw [<- hf.1] at hh;exact absurd holds_nil hh;rw [(aDS m hT t q s hf).1] at hh;exact absurd holds_nil hh
end
def aIQ : Ob -> Ob
 | .box ty cells => .box ⟨ty.k,none⟩ cells
 | o => o
def qO (ids : List Nat) (own : aZ) : aZ := own.map fun e => (e.1,if ids.contains e.1 then aIQ e.2 else e.2)
theorem vX (ids : List Nat) : ∀ (own : aZ) (i : Nat),lookO (qO ids own) i = (lookO own i).map (fun o => if ids.contains i then aIQ o else o)
 | [],i => rfl
 | e :: r,i => by
  simp only [qO,mp1,lookO];by_cases h : e.1 = i;have h1 : (e.1 == i) = true := by simpa using h
  rw [h1,h]; rfl;have h1 : (e.1 == i) = false := by simpa using h
  rw [h1]; exact vX ids r i
section
variable {P : Program} {R : Wp P} {fr : Fr} {n : Nat} {root : Code} {Q : Exit -> Act -> World -> Prop} {w : World} {pl : Pl}
theorem Mem.unpinned {own : aZ} (ids : List Nat) (m : Mem fr (lookO own) w pl) : Mem fr (lookO (qO ids own)) w pl /\ Later w pl (lookO own) w pl (lookO (qO ids own)) := by
 have hlk := vX ids own;have hblk : ∀ i,aN pl (lookO (qO ids own)) i = aN pl (lookO own) i := by
  intro i;unfold aN;rw [hlk i];cases lookO own i with
  | none => rfl
  | some o =>
   simp only [Option.map_some];by_cases hc : ids.contains i = true;rw [if_pos hc]; cases o <;> rfl;rw [if_neg hc]
 have hinv : ∀ i ty cs,lookO (qO ids own) i = some (.box ty cs) -> ∃ ty',lookO own i = some (.box ty' cs) /\ ty.k = ty'.k /\ (ty.pin = none \/ ty.pin = ty'.pin) := by
  intro i ty cs h;rw [hlk i] at h;cases ho : lookO own i with
  | none => rw [ho] at h; cases h
  | some o =>
   rw [ho] at h;simp only [Option.map_some,oIQ] at h;cases o with
   | box ty' cs' =>
    split at h;simp only [aIQ,Ob.box.injEq] at h; exact ⟨ty',by rw [h.2],by rw [<- h.1],.inl (by rw [<- h.1])⟩;simp only [Ob.box.injEq] at h; exact ⟨ty',by rw [h.2],by rw [h.1],.inr (by rw [h.1])⟩
   | arr k e sz es => split at h <;> simp [aIQ] at h
 have hfw : ∀ i ty cs,lookO own i = some (.box ty cs) -> ∃ ty',lookO (qO ids own) i = some (.box ty' cs) := fun i ty cs h => by
  rw [hlk i,h]; simp only [Option.map_some]; split;exact ⟨_,rfl⟩;exact ⟨_,rfl⟩
 have har : ∀ i k e sz es,lookO own i = some (.arr k e sz es) -> lookO (qO ids own) i = some (.arr k e sz es) := fun i k e sz es h => by rw [hlk i,h]; simp only [Option.map_some]; split <;> rfl
 have hsh : ∀ b,Sh pl (lookO own) b -> Sh pl (lookO (qO ids own)) b := fun b h => ⟨h.1,fun i hi => h.2 i (by rw [<- hblk i]; exact hi)⟩
 have L : Later w pl (lookO own) w pl (lookO (qO ids own)) := ⟨fun b _ h => ⟨rfl,hsh b h⟩,fun i ty cs h => by obtain ⟨ty',h2⟩ := hfw i ty cs h; exact ⟨⟨_,_,h2⟩,rfl⟩,fun i k e sz es h => ⟨k,e,sz,es,har i k e sz es h,lr _,fun _ => ⟨rfl,rfl,rfl⟩⟩⟩
 refine ⟨⟨m.frOk,m.hS,fun i o ho => ?_,fun i j b hi hj => m.inj i j b (by rw [<- hblk i]; exact hi) (by rw [<- hblk j]; exact hj),fun i b hi => m.base i b (by rw [<- hblk i]; exact hi),fun i b hi => ?_,m.os,m.tape,m.output,m.grow,m.keep,fun i ty cs b ho hb => ?_⟩,L⟩;cases o with
 | box ty cs =>
  obtain ⟨ty',h1,h2,_⟩ := hinv i ty cs ho;obtain ⟨vs,h3,h4⟩ := m.obj i _ h1;exact ⟨vs,by rw [h2]; exact h3,h4.mono fun _ _ h => L.c h⟩
 | arr k e sz es =>
  have ho' : lookO own i = some (.arr k e sz es) := by
   rw [hlk i] at ho;cases hoo : lookO own i with
   | none => rw [hoo] at ho; cases ho
   | some o =>
    rw [hoo] at ho;simp only [Option.map_some,oIQ] at ho;cases o with
    | box ty' cs' => split at ho <;> simp [aIQ] at ho
    | arr k' e' sz' es' => split at ho <;> first | (simp only [aIQ] at ho; rw [ho]) | rw [ho]
  obtain ⟨xs,h1,h2,h3⟩ := m.obj i _ ho';exact ⟨xs,h1,h2.mono (fun h => L.c h) (fun h => L.rd h),h3⟩
 rcases m.bor i b hi with ⟨ty,cs,h1,h2⟩ | ⟨k,e,sz,es,h1⟩
 obtain ⟨ty',h3⟩ := hfw i ty cs h1;exact .inl ⟨ty',cs,h3,h2⟩;exact .inr ⟨k,e,sz,es,har i k e sz es h1⟩;obtain ⟨ty',h1,_,h3⟩ := hinv i ty cs ho;rcases h3 with h3 | h3;rw [h3] at hb; cases hb;exact m.pin i ty' cs b h1 (by rw [<- h3]; exact hb)
theorem jJ {now : Now} {st : St} (ids : List Nat) (st' : St) (h : (⟨st.env,qO ids st.own⟩ : St) = st') (hk : W R fr n root Q now st') : W R fr n root Q now st := by
 subst h;have hall : ∀ a w,OkS fr n st a w -> OkS fr n ⟨st.env,qO ids st.own⟩ a w := by
  rintro a w ⟨pl,ok⟩;obtain ⟨m',L⟩ := ok.mem.unpinned ids;exact ⟨pl,ok.later m' L⟩
 cases now with
 | code pos => intro c hc a w hok; exact hk c hc a w (hall a w hok)
 | exit pos e => intro a w hok; exact hk a w (hall a w hok)
end
end Go.V
