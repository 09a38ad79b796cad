/- Part 11 of the proof. -/
import Derived.Test.YtgpedhfdniigoaaGreatDoorP10
set_option linter.all false
namespace Go.V
open Go.RowKit
section
variable {P : Program} {fr : Fr} {own : Own} {a : Act} {w w' : World} {pl : Pl} {o : Oper} {p : Path} {lk : Lk}
theorem mD {ob : Own} : ∀ {rs : List Nat} {k : Nat} {ro : LD} {l : List (Nat × Nat × Ob)},iT ob k rs ro = some l ->
  l.map (·.2.1) = rs /\ l.map (·.1) = List.range' k rs.length /\ ∀ i j o,(i,j,o) ∈ l -> k <= i /\ rs[i - k]? = some j /\ (∃ ty cs,ob j = some (.box ty cs)) /\ ∃ (ty : BT) (ds : List D),o = .box ty (ds.map .d) /\ ds ∈ ro
 | [],k,[],l,h => by simp only [iT,oIQ] at h; subst h; simp
 | [],k,_ :: _,l,h => by simp [iT] at h
 | _ :: _,k,[],l,h => by simp [iT] at h
 | j :: rs,k,ds :: ro,l,h => by
  simp only [iT] at h
  split at h
  ·rename_i ty cs hj
   split at h
   ·rename_i l' hl'
    simp only [oIQ] at h
    subst h
    obtain ⟨h1,h2,h3⟩ := mD hl'
    refine ⟨by simp [h1],by simp [h2,List.range'_succ],fun i j' o hm => ?_⟩
    rcases mc.1 hm with hm | hm
    ·injection hm with e1 e2
     injection e2 with e2 e3
     subst e1; subst e2; subst e3
     exact ⟨lr _,by simp,⟨ty,cs,hj⟩,ty,ds,rfl,by simp⟩
    ·obtain ⟨h4,h5,h6,ty',ds',h7,h8⟩ := h3 i j' o hm
     refine ⟨by omega,?_,h6,ty',ds',h7,by simp [h8]⟩
     have : i - k = (i - (k + 1)) + 1 := by omega
     rw [this,List.getElem?_cons_succ]; exact h5
   ·cases h
  ·cases h
theorem o9 {ij : List (Nat × Nat)} {flat : Bool} {nid : Nat} : ∀ {fo : List (Nat × Ob)} {l : List (Nat × Nat × Ob × Ob)},sW ij flat nid fo = some l ->
  l.map (fun x => (x.1,x.2.2.1)) = fo /\ ∀ i j o o',(i,j,o,o') ∈ l -> 100 <= i /\ j = nid + (i - 100) /\ jJ ij flat o = some o'
 | [],l,h => by simp only [sW,oIQ] at h; subst h; simp
 | (i,o) :: r,l,h => by
  simp only [sW] at h
  split at h
  rename_i o' l' ho hl'
  split at h
  rename_i hi
  simp only [oIQ] at h
  subst h
  obtain ⟨h1,h2⟩ := o9 hl'
  refine ⟨by simp [h1],fun i' j u u' hm => ?_⟩
  rcases mc.1 hm with hm | hm
  injection hm with e1 e2
  injection e2 with e2 e3
  injection e3 with e3 e4
  subst e1; subst e2; subst e3; subst e4
  exact ⟨hi,rfl,ho⟩
  exact h2 i' j u u' hm
  cases h
  cases h
theorem qW {ij : List (Nat × Nat)} {i j : Nat} (h : pG ij i = some j) : (i,j) ∈ ij := by
 unfold pG at h
 split at h
 rename_i x hx
 simp only [oIQ] at h
 have := List.find?_some hx
 simp only [beq_iff_eq] at this
 have hm := List.mem_of_find?_eq_some hx
 obtain ⟨x1,x2⟩ := x
 simp only at this h
 subst this; subst h
 exact hm
 cases h
def enters (P : Program) (f : FuncId) : Bool := match P.funcs[f]? with
 | some fn => !(fn.name == "runtime.NumGoroutine") && fn.body.isSome
 | none => false
theorem iC {f : FuncId} (h : enters P f = true) (args : Array Value) : (callFunc f args).run P w = .ok (.enter f args) w := by
 unfold enters at h
 split at h
 rename_i fn hf
 simp only [bIQ,Bool.not_eq_true'] at h
 have hb : fn.body.isNone = false := by cases hh : fn.body <;> simp_all
 simp only [callFunc,Sem.run_bind,program,Sem.run,an,hf,h.1,hb,Bool.false_eq_true,if_false]
 rfl
 cases h
theorem vJ {α β : Type} {g : α -> β} : ∀ {l : List α},(∀ x y,x ∈ l -> y ∈ l -> g x = g y -> x = y) -> l.Nodup -> (l.map g).Nodup
 | [],_,_ => by simp
 | a :: l,hg,hn => by
  rw [List.nodup_cons] at hn
  rw [mp1,List.nodup_cons]
  refine ⟨fun hm => ?_,vJ (fun x y hx hy => hg x y (by simp [hx]) (by simp [hy])) hn.2⟩
  obtain ⟨b,hb,he⟩ := mmQ.1 hm
  exact hn.1 (hg b a (by simp [hb]) (by simp) he ▸ hb)
theorem j9 : ∀ {l : List Prop} {c : Prop},conj l -> c ∈ l -> c
 | [],_,_,h => by simp at h
 | d :: r,c,h,hm => by
  obtain ⟨h1,h2⟩ := eZ h
  rcases mc.1 hm with rfl | hm
  exact h1
  exact j9 h2 hm
theorem aJE {ob : Own} (m : Mem fr own w pl) {rs ars : List Nat} {rp : List (Nat × Nat × Ob)} {fo : List (Nat × Ob)} {fe : List (Nat × Nat × Ob × Ob)} {ro : LD} {nid : Nat} {ij : List (Nat × Nat)} {pl1 : Pl} {out out' : SV} {v : Value}
  (m2 : Mem (fZ fr own w pl rs ars) (lookO (rp.map (fun x => (x.1,x.2.2)) ++ fo)) w' pl1) (hn1 : rs.Nodup) (hobr : ∀ i ∈ rs,ob i = own i) (hrp1 : rp.map (·.2.1) = rs) (hrp2 : rp.map (·.1) = List.range' 0 rs.length)
  (hrp3 : ∀ i j o,(i,j,o) ∈ rp -> 0 <= i /\ rs[i - 0]? = some j /\ (∃ ty cs,ob j = some (.box ty cs)) /\ ∃ (ty : BT) (ds : List D),o = .box ty (ds.map .d) /\ ds ∈ ro)
  (hfe1 : fe.map (fun x => (x.1,x.2.2.1)) = fo) (hfe2 : ∀ i j o o',(i,j,o,o') ∈ fe -> 100 <= i /\ j = nid + (i - 100) /\ jJ ij (!ars.isEmpty) o = some o') (hfree' : ∀ i j u u',(i,j,u,u') ∈ fe -> own j = none)
  (hpn : ((rp.map (fun x => (x.1,x.2.2)) ++ fo).map (·.1)).Nodup) (hun : ((rp.map (fun x => (x.2.1,x.2.2)) ++ fe.map (fun x => (x.2.1,x.2.2.2))).map (·.1)).Nodup) (hlen100 : rs.length <= 100)
  (hij : rp.map (fun x => (x.1,x.2.1)) ++ fo.map (fun x => (x.1,nid + (x.1 - 100))) = ij) (hflat : aLY (!ars.isEmpty) ro = true) (hfl : (!ars.isEmpty) = true -> ∀ x,x ∈ fo.flatMap (fun x => s3 x.2) -> x)
  (hout : tY ij (!ars.isEmpty) out = some out') (hv : aV w' pl1 (lookO (rp.map (fun x => (x.1,x.2.2)) ++ fo)) out v) {K : Act -> World -> Prop}
  (hK : ∀ v w' pl',Mem fr (aY own (rp.map (fun x => (x.2.1,x.2.2)) ++ fe.map (fun x => (x.2.1,x.2.2.2)))) w' pl' -> Later w pl own w' pl' (aY own (rp.map (fun x => (x.2.1,x.2.2)) ++ fe.map (fun x => (x.2.1,x.2.2.2)))) ->
   (o.dst = none \/ aV w' pl' (aY own (rp.map (fun x => (x.2.1,x.2.2)) ++ fe.map (fun x => (x.2.1,x.2.2.2)))) out' v) -> K (a.put o.dst v) w') : K (a.put o.dst v) w' := by
 generalize hown : aY own (rp.map (fun x => (x.2.1,x.2.2)) ++ fe.map (fun x => (x.2.1,x.2.2.2))) = own' at *
 generalize hpost : rp.map (fun x => (x.1,x.2.2)) ++ fo = post at *
 generalize hflag : (!ars.isEmpty) = flat at *
 have hrsrp : ∀ j,j ∈ rs -> ∃ i o,(i,j,o) ∈ rp := by
  intro j hj
  rw [<- hrp1] at hj
  obtain ⟨⟨i,j',o⟩,hm,rfl⟩ := mmQ.1 hj
  exact ⟨i,o,hm⟩
 have hrprs : ∀ i j o,(i,j,o) ∈ rp -> j ∈ rs := fun i j o hm => by rw [<- hrp1]; exact mmQ.2 ⟨_,hm,rfl⟩
 have hbox : ∀ j,j ∈ rs -> ∃ ty cs,own j = some (.box ty cs) := by
  intro j hj
  obtain ⟨i,o,hm⟩ := hrsrp j hj
  obtain ⟨_,_,⟨ty,cs,h3⟩,_⟩ := hrp3 i j o hm
  exact ⟨ty,cs,by rw [<- hobr j hj]; exact h3⟩
 have hA : ∀ i j o,(i,j,o) ∈ rp -> own' j = some o := by
  intro i j o hm
  rw [<- hown,kJ hun,eG hun (i := j) (o := o) (List.mem_append_left _ (mmQ.2 ⟨_,hm,rfl⟩))]
 have hB : ∀ i j u u',(i,j,u,u') ∈ fe -> own' j = some u' := by
  intro i j u u' hm
  rw [<- hown,kJ hun,eG hun (i := j) (o := u') (List.mem_append_right _ (mmQ.2 ⟨_,hm,rfl⟩))]
 have hC : ∀ j,j ∉ rs -> (∀ i u u',(i,j,u,u') ∉ fe) -> own' j = own j := by
  intro j h1 h2
  rw [<- hown,kJ hun,lQ]
  intro o ho
  rcases List.mem_append.1 ho with ho | ho
  ·obtain ⟨⟨i,j',u⟩,hm,he⟩ := mmQ.1 ho
   injection he with e1 e2
   simp only at e1
   subst e1
   exact h1 (hrprs _ _ _ hm)
  ·obtain ⟨⟨i,j',u,u'⟩,hm,he⟩ := mmQ.1 ho
   injection he with e1 e2
   simp only at e1
   subst e1
   exact h2 _ _ _ hm
 have hP1 : ∀ i j o,(i,j,o) ∈ rp -> lookO post i = some o := by
  intro i j o hm
  exact eG hpn (by rw [<- hpost]; exact List.mem_append_left _ (mmQ.2 ⟨_,hm,rfl⟩))
 have hP2 : ∀ i j u u',(i,j,u,u') ∈ fe -> lookO post i = some u := by
  intro i j u u' hm
  exact eG hpn (by rw [<- hpost]; exact List.mem_append_right _ (by rw [<- hfe1]; exact mmQ.2 ⟨_,hm,rfl⟩))
 have hX : ∀ i j o,(i,j,o) ∈ rp -> (i,pl.blk j) ∈ (fZ fr own w pl rs ars).X := by
  intro i j o hm
  obtain ⟨_,h2,_⟩ := hrp3 i j o hm
  exact mem_X.2 ⟨j,by simpa using h2,rfl⟩
 have hblk1 : ∀ i j o,(i,j,o) ∈ rp -> pl1.blk i = pl.blk j := fun i j o hm => by
  rcases m2.bor _ _ (hX i j o hm) with ⟨_,_,_,h⟩ | ⟨_,_,_,_,h⟩
  ·exact h
  ·rw [hP1 i j o hm] at h
   obtain ⟨_,_,_,ty',ds,rfl,_⟩ := hrp3 i j o hm
   cases h
 have hXlt : ∀ i b,(i,b) ∈ (fZ fr own w pl rs ars).X -> i < 100 := by
  intro i b h
  obtain ⟨j,hj,_⟩ := mem_X.1 h
  have := (gsQ.1 hj).1
  omega
 let pl' : Pl := { S := pl.S,blk := fun j => if fe.any (fun x => x.2.1 == j) then pl1.blk (100 + (j - nid)) else pl.blk j,sl := fun j => if fe.any (fun x => x.2.1 == j) then pl1.sl (100 + (j - nid)) else pl.sl j }
 have hany : ∀ j,fe.any (fun x => x.2.1 == j) = true ↔ ∃ i u u',(i,j,u,u') ∈ fe := by
  intro j
  rw [List.any_eq_true]
  constructor
  ·rintro ⟨⟨i,j',u,u'⟩,hm,he⟩
   simp only [beq_iff_eq] at he
   subst he
   exact ⟨i,u,u',hm⟩
  ·rintro ⟨i,u,u',hm⟩
   exact ⟨_,hm,by simp⟩
 have hfi : ∀ i j u u',(i,j,u,u') ∈ fe -> 100 + (j - nid) = i := by
  intro i j u u' hm
  obtain ⟨h1,h2,_⟩ := hfe2 i j u u' hm
  omega
 have hplf : ∀ i j u u',(i,j,u,u') ∈ fe -> pl'.blk j = pl1.blk i /\ pl'.sl j = pl1.sl i := by
  intro i j u u' hm
  have h1 := (hany j).2 ⟨i,u,u',hm⟩
  have h2 := hfi i j u u' hm
  simp only [pl',h1,if_true,h2,and_self]
 have hplo : ∀ j,(∀ i u u',(i,j,u,u') ∉ fe) -> pl'.blk j = pl.blk j /\ pl'.sl j = pl.sl j := by
  intro j h
  have h1 : fe.any (fun x => x.2.1 == j) = false := by
   cases hb : fe.any (fun x => x.2.1 == j) with
   | false => rfl
   | true => obtain ⟨i,u,u',hm⟩ := (hany j).1 hb; exact absurd hm (h i u u')
  simp only [pl',h1,Bool.false_eq_true,if_false,and_self]
 have hrsfe : ∀ j,j ∈ rs -> ∀ i u u',(i,j,u,u') ∉ fe := by
  intro j hj i u u' hm
  obtain ⟨ty,cs,h⟩ := hbox j hj
  rw [hfree' i j u u' hm] at h
  cases h
 have hblkr : ∀ j,j ∈ rs -> aM pl' own' j = aM pl own j := by
  intro j hj
  obtain ⟨ty,cs,h⟩ := hbox j hj
  obtain ⟨i,o,hm⟩ := hrsrp j hj
  obtain ⟨_,_,_,ty',ds,rfl,_⟩ := hrp3 i j o hm
  simp only [aM,h,hA i j _ hm,(hplo j (hrsfe j hj)).1]
 have hblkf : ∀ i j u u',(i,j,u,u') ∈ fe -> aM pl' own' j = aM pl1 (lookO post) i := by
  intro i j u u' hm
  obtain ⟨_,_,hr⟩ := hfe2 i j u u' hm
  have h1 := hplf i j u u' hm
  unfold aM
  rw [hB i j u u' hm,hP2 i j u u' hm]
  cases u with
  | box ty cells =>
   simp only [jJ] at hr
   split at hr
   ·simp only [oIQ] at hr; subst hr; simp only [h1.1]
   ·cases hr
  | arr k e sz es => obtain ⟨ov,_,rfl⟩ := fC hr; simp only [h1.2]
 have hnewf : ∀ i j u u' b,(i,j,u,u') ∈ fe -> aM pl' own' j = some b -> w.heap.size <= b := by
  intro i j u u' b hm hb
  rw [hblkf i j u u' hm] at hb
  rcases m2.base i b hb with h | h
  ·exact h
  ·have h1 := hXlt i b h
   have h2 := (hfe2 i j u u' hm).1
   omega
 have hgrow : w.heap.size <= w'.heap.size := m2.grow
 have R : Ren w' pl1 (lookO post) pl' own' ij flat := by
  have hmem : ∀ i j,pG ij i = some j -> (∃ o,(i,j,o) ∈ rp) \/ ∃ u u',(i,j,u,u') ∈ fe := by
   intro i j h
   have := qW h
   rw [<- hij] at this
   rcases List.mem_append.1 this with h | h
   ·obtain ⟨⟨i',j',o⟩,hm,he⟩ := mmQ.1 h
    injection he with e1 e2
    simp only at e1 e2
    subst e1; subst e2
    exact .inl ⟨o,hm⟩
   ·obtain ⟨⟨i',u⟩,hm,he⟩ := mmQ.1 h
    injection he with e1 e2
    simp only at e1 e2
    subst e1
    rw [<- hfe1] at hm
    obtain ⟨⟨i2,j2,u2,u2'⟩,hm2,he2⟩ := mmQ.1 hm
    injection he2 with e3 e4
    simp only at e3
    subst e3
    have := (hfe2 _ _ _ _ hm2).2.1
    rw [e2] at this
    subst this
    exact .inr ⟨u2,u2',hm2⟩
  refine ⟨fun d v hx hd => ?_,fun i j hr ty cs ho => ?_,fun i j hr k e sz es ho => ?_⟩
  ·cases hfc : flat with
   | true =>
    obtain ⟨x,rfl⟩ := hx hfc
    cases hd with
    | v _ h => exact .v _ h
   | false =>
    have hars : ars = [] := by
     rw [<- hflag] at hfc
     cases ars with
     | nil => rfl
     | cons x r => simp at hfc
    refine Rd.frame (fun _ _ _ => rfl) (fun b hb hs => ?_) hd
    have hS1 := (m2.hS b).1 hs.1
    refine ⟨?_,fun j hj => ?_⟩
    ·rcases hS1 with ⟨_,h | ⟨j,hj,_⟩⟩ | h
     ·exact h.1
     ·rw [hars] at hj; cases hj
     ·exact (m.hS b).2 (.inr (Nat.le_trans m.grow h))
    ·by_cases hfj : ∃ i u u',(i,j,u,u') ∈ fe
     ·obtain ⟨i,u,u',hm⟩ := hfj
      rw [hblkf i j u u' hm] at hj
      exact hs.2 i hj
     ·have hfj' : ∀ i u u',(i,j,u,u') ∉ fe := fun i u u' hm => hfj ⟨i,u,u',hm⟩
      have hj2 : aM pl own j = some b := by
       by_cases hjr : j ∈ rs
       ·rw [<- hblkr j hjr]; exact hj
       ·rw [<- hj]
        exact (f4 (hC j hjr hfj') (hplo j hfj').1 (hplo j hfj').2).symm
      rcases hS1 with ⟨_,h | ⟨j',hj',_⟩⟩ | h
      ·exact h.2 j hj2
      ·rw [hars] at hj'; cases hj'
      ·have h1 : w.heap.size <= b := h
       have := m.blk_lt hj2
       omega
  ·rcases hmem i j hr with ⟨o,hm⟩ | ⟨u,u',hm⟩
   ·obtain ⟨_,_,_,ty',ds,rfl,_⟩ := hrp3 i j o hm
    refine ⟨⟨_,_,hA i j _ hm⟩,?_⟩
    rw [(hplo j (hrsfe j (hrprs _ _ _ hm))).1,hblk1 i j _ hm]
   ·rw [hP2 i j u u' hm] at ho
    simp only [oIQ] at ho
    subst ho
    obtain ⟨_,_,hr'⟩ := hfe2 i j _ u' hm
    simp only [jJ] at hr'
    split at hr'
    ·simp only [oIQ] at hr'
     subst hr'
     exact ⟨⟨_,_,hB i j _ _ hm⟩,(hplf i j _ _ hm).1⟩
    ·cases hr'
  ·rcases hmem i j hr with ⟨o,hm⟩ | ⟨u,u',hm⟩
   ·obtain ⟨_,_,_,ty',ds,rfl,_⟩ := hrp3 i j o hm
    rw [hP1 i j _ hm] at ho
    cases ho
   ·rw [hP2 i j u u' hm] at ho
    simp only [oIQ] at ho
    subst ho
    obtain ⟨_,_,hr'⟩ := hfe2 i j _ u' hm
    obtain ⟨ov,_,rfl⟩ := fC hr'
    exact ⟨⟨ov,hB i j _ _ hm⟩,(hplf i j _ _ hm).2⟩
 have hch := Mem.change (own' := own') (pl' := pl') (w' := w') m (fun j => j ∈ rs \/ ∃ i u u',(i,j,u,u') ∈ fe)
  (fun j hj => by
   have h1 : j ∉ rs := fun h => hj (.inl h)
   have h2 : ∀ i u u',(i,j,u,u') ∉ fe := fun i u u' h => hj (.inr ⟨i,u,u',h⟩)
   exact ⟨hC j h1 h2,hplo j h2⟩) rfl
  (fun b hb hU => by
   refine m2.keep b hb (fun i hi => ?_)
   obtain ⟨j,hj,hbj⟩ := mem_X.1 hi
   have hjr := List.mem_of_getElem? hj
   obtain ⟨ty,cs,h⟩ := hbox j hjr
   exact hU j (.inl hjr) (by rw [hbj]; simp [aM,h]))
  (fun i ty cs hU ho => by
   rcases hU with h | ⟨i',u,u',hm⟩
   ·obtain ⟨i',o,hm⟩ := hrsrp i h
    obtain ⟨_,_,_,ty',ds,rfl,_⟩ := hrp3 i' i o hm
    exact ⟨⟨_,_,hA _ _ _ hm⟩,(hplo i (hrsfe i h)).1⟩
   ·rw [hfree' _ _ _ _ hm] at ho; cases ho)
  (fun i hU k e sz es ho => by
   rcases hU with h | ⟨i',u,u',hm⟩
   ·obtain ⟨ty,cs,h'⟩ := hbox i h; rw [h'] at ho; cases ho
   ·rw [hfree' _ _ _ _ hm] at ho; cases ho)
  (fun i b hU hb => by
   rcases hU with h | ⟨i',u,u',hm⟩
   ·rw [hblkr i h] at hb; exact .inl hb
   ·exact .inr (hnewf _ _ _ _ _ hm hb))
  (fun i j b hi hj hbi hbj => by
   rcases hi with h1 | ⟨i1,u1,u1',h1⟩ <;> rcases hj with h2 | ⟨i2,u2,u2',h2⟩
   ·rw [hblkr i h1] at hbi; rw [hblkr j h2] at hbj; exact m.inj i j b hbi hbj
   ·rw [hblkr i h1] at hbi
    have := m.blk_lt hbi
    have := hnewf _ _ _ _ _ h2 hbj
    omega
   ·rw [hblkr j h2] at hbj
    have := m.blk_lt hbj
    have := hnewf _ _ _ _ _ h1 hbi
    omega
   ·rw [hblkf _ _ _ _ h1] at hbi
    rw [hblkf _ _ _ _ h2] at hbj
    have := m2.inj i1 i2 b hbi hbj
    have e1 := (hfe2 _ _ _ _ h1).2.1
    have e2 := (hfe2 _ _ _ _ h2).2.1
    rw [e1,e2,this])
  (fun L i o' hU ho => by
   rcases hU with h | ⟨i',u,u',hm⟩
   ·obtain ⟨i',o,hm⟩ := hrsrp i h
    obtain ⟨_,_,_,ty',ds,rfl,hds⟩ := hrp3 i' i o hm
    rw [hA _ _ _ hm] at ho
    simp only [oIQ] at ho
    subst ho
    obtain ⟨vs,hvs,hc⟩ := m2.obj i' _ (hP1 _ _ _ hm)
    refine ⟨vs,?_,⟨hc.1,fun k c u hc' hu => ?_⟩⟩
    ·rw [(hplo i (hrsfe i h)).1,<- hblk1 _ _ _ hm]; exact hvs
    ·have hok := hc.2 k c u hc' hu
     simp only [List.getElem?_map,me] at hc'
     obtain ⟨d,hd,rfl⟩ := hc'
     refine R.rd d u (fun hf => ?_) hok
     rw [hf] at hflat
     have h1 := at1.1 hflat ds hds
     have h2 := at1.1 h1 d (List.mem_of_getElem? hd)
     cases d with
     | v x => exact ⟨x,rfl⟩
     | sl => simp at h2
   ·obtain ⟨_,_,hr⟩ := hfe2 _ _ _ _ hm
    rw [hB _ _ _ _ hm] at ho
    simp only [oIQ] at ho
    subst ho
    have hobj := m2.obj i' _ (hP2 _ _ _ _ hm)
    have hpl := hplf _ _ _ _ hm
    cases u with
    | box ty cells =>
     simp only [jJ] at hr
     split at hr
     ·rename_i l hl
      simp only [oIQ] at hr
      subst hr
      obtain ⟨vs,hvs,hc⟩ := hobj
      exact ⟨vs,by rw [hpl.1]; exact hvs,R.l hl hc⟩
     ·cases hr
    | arr k e sz es =>
     obtain ⟨ov,hov,rfl⟩ := fC hr
     obtain ⟨ys,hys,hc,hsz⟩ := hobj
     refine ⟨ys,by rw [hpl.2,show mkd (AT.mk e.e ov).ov = mkd e.ov from rK hov]; exact hys,R.ov hov (fun hf d hd => ?_) hc,hsz⟩
     have hfo : (i',Ob.arr k e sz es) ∈ fo := by rw [<- hfe1]; exact mmQ.2 ⟨_,hm,rfl⟩
     have hfe := hfl hf (cT es) (List.mem_flatMap.2 ⟨_,hfo,by simp [s3]⟩)
     obtain ⟨ds,hds,hdd⟩ := List.mem_flatten.1 hd
     exact hfe ds hds d hdd)
  m2.os m2.tape m2.output hgrow
  (fun j ty cs b hU ho hb => by
   rcases hU with h | ⟨i',u,u',hm⟩
   ·obtain ⟨i',o,hm⟩ := hrsrp j h
    rw [hA _ _ _ hm] at ho
    simp only [oIQ] at ho
    subst ho
    rw [(hplo j (hrsfe j h)).1,<- hblk1 _ _ _ hm]
    exact m2.pin i' _ _ b (hP1 _ _ _ hm) hb
   ·rw [hB _ _ _ _ hm] at ho
    simp only [oIQ] at ho
    subst ho
    rw [(hplf _ _ _ _ hm).1]
    obtain ⟨_,_,hr⟩ := hfe2 _ _ _ _ hm
    cases u with
    | box ty2 cells2 =>
     simp only [jJ] at hr
     split at hr
     ·simp only [oIQ,Ob.box.injEq] at hr
      obtain ⟨rfl,_⟩ := hr
      exact m2.pin i' _ _ b (hP2 _ _ _ _ hm) hb
     ·cases hr
    | arr k e sz es => obtain ⟨ov,_,hr⟩ := fC hr; cases hr)
 exact hK v w' pl' hch.1 hch.2 (.inr (R.s hout hv))
theorem aMR (m : Mem fr own w pl) {f : FuncId} {osv : Option (List SV)} {vals : List Value} (hsvs : ∀ svs,osv = some svs -> All2 (aV w pl own) svs vals) (hrun : (execOp a.eval o).run P w = .ok (.enter f vals.toArray) w) {ob : Own} {nid : Nat} {hint : Hint} {e : Eff}
  (h : aMS P fr.G ob f osv nid hint = some e) (hob : ∀ i ∈ e.touch,own i = ob i) (ho : conj e.obl) : Does P fr own a w pl o e := by
 unfold aMS at h
 split at h
 ·rename_i out fo ro svs
  split at h
  ·rename_i ins ars refs rp hargs hrefs hrp
   split at h
   ·rename_i fe out' hfe hout
    split at h
    ·rename_i hc
     simp only [bIQ,decide_eq_true_eq] at hc
     obtain ⟨⟨⟨⟨hn1,hn2⟩,hflat⟩,hfree⟩,hlen100⟩ := hc
     simp only [oIQ] at h
     subst h
     generalize hrs : iU svs = rs at *
     generalize hij : rp.map (fun x => (x.1,x.2.1)) ++ fo.map (fun x => (x.1,nid + (x.1 - 100))) = ij at *
     obtain ⟨hspec,hfl⟩ := eZ ho
     obtain ⟨hrp1,hrp2,hrp3⟩ := mD hrp
     obtain ⟨hfe1,hfe2⟩ := o9 hfe
     have hobr : ∀ i ∈ rs,own i = ob i := fun i hi => hob i (by simp [hi])
     have hoba : ∀ i ∈ ars,own i = ob i := fun i hi => hob i (by simp [hi])
     have hsv2 := hsvs _ rfl
     obtain ⟨m1,T1,T2,T3⟩ := aJD (ars := ars) m hn1 hlen100 hobr hrefs
     have hins : All2 (aV w (dZ fr own w pl rs ars) (lookO refs)) ins vals := by
      refine aD8 T1 (fun j r hr => ?_) hoba T2 hargs hsv2
      have hrj : rs[r]? = some j := by
       obtain ⟨hlt,hb,_⟩ := List.findIdx?_eq_some_iff_getElem.1 hr
       rw [ge hlt]
       simpa using hb
      obtain ⟨ty,cs,ds,h1,h2⟩ := T3 r j hrj
      exact ⟨⟨_,_,h2⟩,by simp [dZ,hrj]⟩
     have hcall := hspec (fZ fr own w pl rs ars) w _ _ rfl ⟨rfl,rfl,fun _ => ⟨rfl,rfl⟩,rfl⟩ m1 hins
     intro K Q hK
     unfold Oper.wp
     rw [hrun,Oper.upon_enter]
     refine Calls.mono hcall ?_
     rintro e w' ⟨v,pl1,rfl,m2,hv⟩
     show K (a.put o.dst v) w'
     have hfe1' : fe.map (·.1) = fo.map (·.1) := by rw [<- hfe1]; simp
     have hfree' : ∀ i j u u',(i,j,u,u') ∈ fe -> own j = none := by
      intro i j u u' hm
      rw [hob j (by simp only [List.mem_append,mmQ]; exact .inr ⟨_,hm,rfl⟩)]
      have := at1.1 hfree _ hm
      simpa using this
     have hpn : ((rp.map (fun x => (x.1,x.2.2)) ++ fo).map (·.1)).Nodup := by
      simp only [List.map_append,List.map_map]
      have e1 : rp.map ((·.1) ∘ fun x => (x.1,x.2.2)) = List.range' 0 rs.length := by rw [<- hrp2]; rfl
      rw [e1,List.nodup_append]
      refine ⟨List.nodup_range',hn2,fun x hx y hy hxy => ?_⟩
      rw [<- hfe1'] at hy
      obtain ⟨⟨i,j,u,u'⟩,hm,rfl⟩ := mmQ.1 hy
      have := (hfe2 i j u u' hm).1
      have := List.mem_range'_1.1 hx
      simp only at hxy
      omega
     have hun : ((rp.map (fun x => (x.2.1,x.2.2)) ++ fe.map (fun x => (x.2.1,x.2.2.2))).map (·.1)).Nodup := by
      simp only [List.map_append,List.map_map]
      have e1 : rp.map ((·.1) ∘ fun x => (x.2.1,x.2.2)) = rs := by rw [<- hrp1]; rfl
      rw [e1,List.nodup_append]
      have hfn : (fe.map (·.1)).Nodup := by rw [hfe1']; exact hn2
      have e2 : fe.map ((·.1) ∘ fun x => (x.2.1,x.2.2.2)) = (fe.map (·.1)).map (fun i => nid + (i - 100)) := by
       rw [List.map_map]
       refine List.map_congr_left fun x hx => ?_
       obtain ⟨i,j,u,u'⟩ := x
       exact (hfe2 i j u u' hx).2.1
      refine ⟨hn1,?_,fun x hx y hy hxy => ?_⟩
      ·rw [e2]
       refine vJ ?_ hfn
       intro x y hx hy hxy
       obtain ⟨⟨i,j,u,u'⟩,hm,rfl⟩ := mmQ.1 hx
       obtain ⟨⟨i2,j2,u2,u2'⟩,hm2,rfl⟩ := mmQ.1 hy
       have := (hfe2 i j u u' hm).1
       have := (hfe2 i2 j2 u2 u2' hm2).1
       simp only at hxy ⊢
       omega
      ·obtain ⟨⟨i,j,u,u'⟩,hm,rfl⟩ := mmQ.1 hy
       have h1 := hfree' i j u u' hm
       obtain ⟨r,hr⟩ := List.getElem?_of_mem hx
       obtain ⟨ty,cs,ds,h2,_⟩ := T3 r x hr
       simp only [Function.comp] at hxy
       rw [hxy,h1] at h2
       cases h2
     exact aJE m m2 hn1 (fun i hi => by rw [hobr i hi]) hrp1 hrp2 hrp3 hfe1 hfe2 hfree' hpn hun hlen100 hij hflat (by
       intro hne x hx
       cases hars : ars.isEmpty with
       | true => rw [hars] at hne; cases hne
       | false =>
        rw [hars] at hfl
        simp only [Bool.false_eq_true,if_false] at hfl
        exact j9 ((mI _) ▸ hfl) hx) hout hv hK
    ·cases h
   ·cases h
  ·cases h
 ·cases h
end
end Go.V
