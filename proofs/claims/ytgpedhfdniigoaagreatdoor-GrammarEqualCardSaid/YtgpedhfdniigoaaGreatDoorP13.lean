/- Part 13 of the proof. -/
import Derived.Test.YtgpedhfdniigoaaGreatDoorP12
set_option linter.all false
namespace Go.V
open Go.RowKit
section
variable {P : Program} {fr : Fr} {own own1 own' ob : Own} {a : Act} {w w' : World} {pl pl1 pl' : Pl} {o : Oper} {p : Path} {lk : Lk} {rs : List Nat} {nid : Nat} {flat : Bool}
theorem aD6 : ∀ {post : List (Nat × Ob)} {be : List (Nat × Nat × Ob × Ob)},bkE ob rs nid flat post = some be ->
  be.map (fun x => (x.2.1,x.2.2.1)) = post /\ ∀ j i u u',(j,i,u,u') ∈ be -> nmG rs nid i = some j /\ bkO ob rs nid flat i u = some u'
 | [],be,h => by simp only [bkE,oIQ] at h; subst h; simp
 | (i,u) :: r,be,h => by
  simp only [bkE] at h
  split at h
  rename_i j u' l h1 h2 h3
  simp only [oIQ] at h
  subst h
  obtain ⟨h4,h5⟩ := aD6 h3
  refine ⟨by simp [h4],fun j' i' v v' hm => ?_⟩
  rcases mc.1 hm with hm | hm
  injection hm with e1 e2
  injection e2 with e2 e3
  injection e3 with e3 e4
  subst e1; subst e2; subst e3; subst e4
  exact ⟨h1,h2⟩
  exact h5 j' i' v v' hm
  cases h
structure Back (w : World) (pl1 : Pl) (own1 : Own) (pl' : Pl) (own' : Own) (ob : Own) (rs : List Nat) (nid : Nat) (flat : Bool) : Prop where
 rd : ∀ d v,(flat = true -> ∃ x,d = .v x) -> Rd w (Sh pl1 own1) d v -> Rd w (Sh pl' own') d v
 bx : ∀ i j,nmG rs nid i = some j -> ∀ ty cs,own1 i = some (.box ty cs) -> (∃ ty cs,own' j = some (.box ty cs)) /\ pl'.blk j = pl1.blk i
 ar : ∀ i j,nmG rs nid i = some j -> ∀ k e sz es,own1 i = some (.arr k e sz es) -> (∃ e',own' j = some (.arr (shG ob rs i + k) e' sz es)) /\ pl'.sl j = pl1.sl i
theorem Back.c (R : Back w pl1 own1 pl' own' ob rs nid flat) {c c' : C} {v : Value} (h : bkC ob rs nid flat c = some c') (hv : COk w pl1 own1 c v) : COk w pl' own' c' v := by
 unfold bkC at h
 split at h
 simp only [oIQ] at h; subst h; exact R.rd _ _ (fun _ => ⟨_,rfl⟩) hv
 split at h
 cases h
 rename_i hf
 simp only [oIQ] at h; subst h; exact R.rd _ _ (fun hh => absurd hh hf) hv
 split at h
 rename_i j hj
 simp only [oIQ] at h; subst h
 obtain ⟨⟨ty,cs,ho⟩,rfl⟩ := hv
 obtain ⟨h1,h2⟩ := R.bx _ j hj ty cs ho
 exact ⟨h1,by rw [h2]⟩
 cases h
 split at h
 rename_i j hj
 simp only [oIQ] at h; subst h
 obtain ⟨k',e,sz,es,ho,hk,hv,h1⟩ := hv
 obtain ⟨⟨e2,h2⟩,h3⟩ := R.ar _ j hj _ _ _ _ ho
 exact ⟨_,e2,sz,es,h2,by omega,fun hh => by rw [hv (by omega),h3],h1⟩
 cases h
 simp only [oIQ] at h; subst h; exact hv
 split at h
 rename_i h1 h2; simp only [oIQ] at h; subst h; exact aAT (fun i j hj ty cs ho => R.bx i j hj ty cs ho) h1 h2 hv
 cases h
 split at h
 rename_i h1; simp only [oIQ] at h; subst h; exact aAD (fun i j hj ty cs ho => R.bx i j hj ty cs ho) h1 hv
 cases h
 split at h
 rename_i h1; simp only [oIQ] at h; subst h; exact aAP (fun i j hj ty cs ho => R.bx i j hj ty cs ho) h1 hv
 cases h
 simp only [oIQ] at h; subst h; exact hv
 simp only [oIQ] at h; subst h; exact hv
 cases h
theorem Back.l (R : Back w pl1 own1 pl' own' ob rs nid flat) : ∀ {cs cs' : List C} {vs : List Value},bkL ob rs nid flat cs = some cs' -> All2 (COk w pl1 own1) cs vs -> All2 (COk w pl' own') cs' vs
 | [],cs',vs,h,hv => by simp only [bkL,oIQ] at h; subst h; rw [hv.unnil]; exact All2.nil
 | c :: r,cs',vs,h,hv => by
  simp only [bkL] at h
  split at h
  rename_i x l hx hl
  simp only [oIQ] at h; subst h
  obtain ⟨y,r',rfl,h1,h2⟩ := hv.uncons
  exact All2.cons (R.c hx h1) (R.l hl h2)
  cases h
theorem Back.part (R : Back w pl1 own1 pl' own' ob rs nid flat) {b : Bool} {cs cs' : List C} {v : Value} (h : bkL ob rs nid flat cs = some cs') (hv : cZ w pl1 own1 (b,cs) v) : cZ w pl' own' (b,cs') v := by
 cases b with
 | true => obtain ⟨vs,rfl,h2⟩ := hv; exact ⟨vs,rfl,R.l h h2⟩
 | false =>
  match cs,h,hv with
  | [c],h,hv =>
   simp only [bkL] at h
   split at h
   rename_i x l hx hl
   simp only [oIQ] at h hl
   subst hl; subst h
   exact R.c hx hv
   cases h
theorem Back.pp (R : Back w pl1 own1 pl' own' ob rs nid flat) : ∀ {cs cs' : List (Bool × List C)} {vs : List Value},bkP ob rs nid flat cs = some cs' -> All2 (cZ w pl1 own1) cs vs -> All2 (cZ w pl' own') cs' vs
 | [],cs',vs,h,hv => by simp only [bkP,oIQ] at h; subst h; rw [hv.unnil]; exact All2.nil
 | (b,c) :: r,cs',vs,h,hv => by
  simp only [bkP] at h
  split at h
  rename_i x l hx hl
  simp only [oIQ] at h; subst h
  obtain ⟨y,r',rfl,h1,h2⟩ := hv.uncons
  exact All2.cons (R.part hx h1) (R.pp hl h2)
  cases h
theorem Back.s (R : Back w pl1 own1 pl' own' ob rs nid flat) {s s' : SV} {v : Value} (h : bkS ob rs nid flat s = some s') (hv : aV w pl1 own1 s v) : aV w pl' own' s' v := by
 cases s with
 | c x =>
  simp only [bkS] at h
  split at h
  rename_i y hy; simp only [oIQ] at h; subst h; exact R.c hy hv
  cases h
 | agg xs =>
  simp only [bkS] at h
  split at h
  rename_i y hy
  simp only [oIQ] at h; subst h
  obtain ⟨vs,rfl,h2⟩ := hv
  exact ⟨vs,rfl,R.l hy h2⟩
  cases h
 | tup xs =>
  simp only [bkS] at h
  split at h
  rename_i y hy
  simp only [oIQ] at h; subst h
  obtain ⟨vs,rfl,h2⟩ := hv
  exact ⟨vs,rfl,R.pp hy h2⟩
  cases h
theorem backG (m : Mem fr own w pl) {ars : List Nat} {post : List (Nat × Ob)} {be : List (Nat × Nat × Ob × Ob)} {out out' : SV} {v : Value} (hflag : (!ars.isEmpty) = flat)
  (m2 : Mem (frG fr own w pl rs ars) (lookO post) w' pl1) (hn : rs.Nodup) (h100 : rs.length <= 100) (hob : ∀ i ∈ rs,own i = ob i)
  (hb1 : be.map (fun x => (x.2.1,x.2.2.1)) = post) (hb2 : ∀ j i u u',(j,i,u,u') ∈ be -> nmG rs nid i = some j /\ bkO ob rs nid flat i u = some u')
  (hpn : (post.map (·.1)).Nodup) (hbn : (be.map (·.1)).Nodup) (hfree : ∀ j i u u',(j,i,u,u') ∈ be -> i < 100 \/ own j = none)
  (hal : ∀ r j,rs[r]? = some j -> tS (ob j) (lookO post r) = true) (hfl : flat = true -> ∀ x,x ∈ post.flatMap (fun x => s3 x.2) -> x)
  (hout : bkS ob rs nid flat out = some out') (hv : aV w' pl1 (lookO post) out v) :
  ∃ pl',Mem fr (aY own (be.map (fun x => (x.1,x.2.2.2)))) w' pl' /\ Later w pl own w' pl' (aY own (be.map (fun x => (x.1,x.2.2.2)))) /\ aV w' pl' (aY own (be.map (fun x => (x.1,x.2.2.2)))) out' v := by
 generalize hown : aY own (be.map (fun x => (x.1,x.2.2.2))) = own'
 have hbn' : ((be.map (fun x => (x.1,x.2.2.2))).map (·.1)).Nodup := by
  have : (be.map (fun x => (x.1,x.2.2.2))).map (·.1) = be.map (·.1) := by simp
  rw [this]; exact hbn
 have hA : ∀ j i u u',(j,i,u,u') ∈ be -> own' j = some u' := by
  intro j i u u' hm
  rw [<- hown,kJ hbn',eG hbn' (i := j) (o := u') (mmQ.2 ⟨_,hm,rfl⟩)]
 have hC : ∀ j,(∀ i u u',(j,i,u,u') ∉ be) -> own' j = own j := by
  intro j h2
  rw [<- hown,kJ hbn',lQ]
  intro o ho
  obtain ⟨⟨j',i,u,u'⟩,hm,he⟩ := mmQ.1 ho
  injection he with e1 e2
  simp only at e1
  subst e1
  exact h2 _ _ _ hm
 have hP : ∀ j i u u',(j,i,u,u') ∈ be -> lookO post i = some u := fun j i u u' hm => eG hpn (by rw [<- hb1]; exact mmQ.2 ⟨_,hm,rfl⟩)
 have hQ : ∀ i u,lookO post i = some u -> ∃ j u',(j,i,u,u') ∈ be := by
  intro i u h
  have := iG h
  rw [<- hb1] at this
  obtain ⟨⟨j,i',u2,u'⟩,hm,he⟩ := mmQ.1 this
  injection he with e1 e2
  simp only at e1 e2
  subst e1; subst e2
  exact ⟨j,u',hm⟩
 have huniq : ∀ j i i2 u u' u2 u2',(j,i,u,u') ∈ be -> (j,i2,u2,u2') ∈ be -> i = i2 := by
  intro j i i2 u u' u2 u2' h1 h2
  have e1 : lookO (be.map (fun x => (x.1,Ob.box x.2.1 []))) j = some (Ob.box i []) := eG (by rw [List.map_map]; exact hbn) (mmQ.2 ⟨_,h1,rfl⟩)
  have e2 : lookO (be.map (fun x => (x.1,Ob.box x.2.1 []))) j = some (Ob.box i2 []) := eG (by rw [List.map_map]; exact hbn) (mmQ.2 ⟨_,h2,rfl⟩)
  rw [e1] at e2
  simp only [oIQ,Ob.box.injEq,BT.mk.injEq,BK.c.injEq] at e2
  exact e2.1.1
 have hnm : ∀ j i i2 u u',(j,i,u,u') ∈ be -> nmG rs nid i2 = some j -> ∀ u2 j2 u2',(j2,i2,u2,u2') ∈ be -> i = i2 := by
  intro j i i2 u u' hm h2 u2 j2 u2' hm2
  have := (hb2 _ _ _ _ hm2).1
  rw [h2] at this
  simp only [oIQ] at this
  subst this
  exact huniq _ _ _ _ _ _ _ hm hm2
 let inv : Nat -> Option Nat := fun j => (be.find? (fun x => x.1 == j)).map (·.2.1)
 have hinv : ∀ j i u u',(j,i,u,u') ∈ be -> inv j = some i := by
  intro j i u u' hm
  cases hf : be.find? (fun x => x.1 == j) with
  | none =>
   have := List.find?_eq_none.1 hf _ hm
   simp at this
  | some x =>
   have h1 := List.find?_some hf
   have h2 := List.mem_of_find?_eq_some hf
   simp only [beq_iff_eq] at h1
   obtain ⟨x1,x2,x3,x4⟩ := x
   simp only at h1
   subst h1
   have := huniq _ _ _ _ _ _ _ hm h2
   subst this
   simp [inv,hf]
 have hinv0 : ∀ j,(∀ i u u',(j,i,u,u') ∉ be) -> inv j = none := by
  intro j h
  have : be.find? (fun x => x.1 == j) = none := by
   rw [List.find?_eq_none]
   rintro ⟨x1,x2,x3,x4⟩ hm hh
   simp only [beq_iff_eq] at hh
   subst hh
   exact h _ _ _ hm
  simp [inv,this]
 let pl' : Pl := { S := pl.S,blk := fun j => match inv j with | some i => pl1.blk i | none => pl.blk j,sl := fun j => match inv j with | some i => pl1.sl i | none => pl.sl j }
 have hpa : ∀ j i u u',(j,i,u,u') ∈ be -> pl'.blk j = pl1.blk i /\ pl'.sl j = pl1.sl i := fun j i u u' hm => by simp only [pl',hinv j i u u' hm,and_self]
 have hpo : ∀ j,(∀ i u u',(j,i,u,u') ∉ be) -> pl'.blk j = pl.blk j /\ pl'.sl j = pl.sl j := fun j h => by simp only [pl',hinv0 j h,and_self]
 have hkind : ∀ j i u u',(j,i,u,u') ∈ be -> (∃ ty cs cs',u = .box ty cs /\ u' = .box ty cs' /\ bkL ob rs nid flat cs = some cs') \/ ∃ (k : Nat) (e : AT) (ov : List (Nat × C)) (sz : Nat) (es : LD),u = .arr k e sz es /\ u' = .arr (shG ob rs i + k) ⟨e.e,ov⟩ sz es /\ bkV ob rs nid flat e.ov = some ov := by
  intro j i u u' hm
  have := (hb2 j i u u' hm).2
  cases u with
  | box ty cells =>
   simp only [bkO] at this
   split at this
   ·rename_i l hl
    simp only [oIQ] at this
    exact .inl ⟨ty,cells,l,rfl,this.symm,hl⟩
   ·cases this
  | arr k e sz es =>
   obtain ⟨e,ov⟩ := e
   simp only [bkO] at this
   split at this
   ·rename_i ov' hov
    simp only [oIQ] at this
    exact .inr ⟨k,_,ov',sz,es,rfl,this.symm,hov⟩
   ·cases this
 have hblk : ∀ j i u u',(j,i,u,u') ∈ be -> aM pl' own' j = aM pl1 (lookO post) i := by
  intro j i u u' hm
  obtain ⟨h1,h2⟩ := hpa j i u u' hm
  unfold aM
  rw [hA j i u u' hm,hP j i u u' hm]
  rcases hkind j i u u' hm with ⟨ty,cs,cs',rfl,rfl,_⟩ | ⟨k,e,ov,sz,es,rfl,rfl,hov⟩
  ·simp only [h1]
  ·simp only [h2]
 have hblk0 : ∀ j,(∀ i u u',(j,i,u,u') ∉ be) -> aM pl' own' j = aM pl own j := fun j h => f4 (hC j h) (hpo j h).1 (hpo j h).2
 have hU : ∀ r j,rs[r]? = some j -> ∃ u u',(j,r,u,u') ∈ be := by
  intro r j hj
  have h1 := hal r j hj
  cases hl : lookO post r with
  | none =>
   have : tS (ob j) none = false := by
    cases ob j with
    | none => rfl
    | some u => cases u <;> rfl
   rw [hl,this] at h1
   cases h1
  | some u =>
   obtain ⟨j',u',hm⟩ := hQ r u hl
   have h2 := (hb2 _ _ _ _ hm).1
   have hlt := (gsQ.1 hj).1
   rw [nmG,if_pos (by omega),hj] at h2
   simp only [oIQ] at h2
   subst h2
   exact ⟨u,u',hm⟩
 have hof : ∀ j i u u' ob',(j,i,u,u') ∈ be -> own j = some ob' -> rs[i]? = some j := by
  intro j i u u' ob' hm ho
  rcases hfree j i u u' hm with h | h
  ·have := (hb2 _ _ _ _ hm).1
   rw [nmG,if_pos h] at this
   exact this
  ·rw [h] at ho; cases ho
 have hXb : ∀ i b,(i,b) ∈ (frG fr own w pl rs ars).X -> ∀ j u u',(j,i,u,u') ∈ be -> aM pl own j = some b := by
  intro i b hx j u u' hm
  obtain ⟨j',hj',hb⟩ := mem_XG.1 hx
  have hlt := (gsQ.1 hj').1
  have := (hb2 _ _ _ _ hm).1
  rw [nmG,if_pos (by omega),hj'] at this
  simp only [oIQ] at this
  subst this
  exact hb
 have hgrow : w.heap.size <= w'.heap.size := m2.grow
 have R : Back w' pl1 (lookO post) pl' own' ob rs nid flat := by
  refine ⟨fun d v hx hd => ?_,fun i j hr ty cs ho => ?_,fun i j hr k e sz es ho => ?_⟩
  ·cases hfc : flat with
   | true =>
    obtain ⟨x,rfl⟩ := hx hfc
    cases hd with
    | v _ h => exact .v _ h
   | false =>
    have hars : ars = [] := by
     rw [<- hflag] at hfc
     cases ars with
     | nil => rfl
     | cons x r => simp at hfc
    refine Rd.frame (fun _ _ _ => rfl) (fun b hb hs => ?_) hd
    have hS1 := (m2.hS b).1 hs.1
    refine ⟨?_,fun j hj => ?_⟩
    ·rcases hS1 with ⟨_,h | ⟨j,hj,_⟩⟩ | h
     ·exact h.1
     ·rw [hars] at hj; cases hj
     ·exact (m.hS b).2 (.inr (Nat.le_trans m.grow h))
    ·by_cases hfj : ∃ i u u',(j,i,u,u') ∈ be
     ·obtain ⟨i,u,u',hm⟩ := hfj
      rw [hblk j i u u' hm] at hj
      exact hs.2 i hj
     ·have hfj' : ∀ i u u',(j,i,u,u') ∉ be := fun i u u' hm => hfj ⟨i,u,u',hm⟩
      rw [hblk0 j hfj'] at hj
      rcases hS1 with ⟨_,h | ⟨j',hj',_⟩⟩ | h
      ·exact h.2 j hj
      ·rw [hars] at hj'; cases hj'
      ·have h1 : w.heap.size <= b := h
       have := m.blk_lt hj
       omega
  ·obtain ⟨j2,u',hm⟩ := hQ i _ ho
   have h1 := (hb2 _ _ _ _ hm).1
   rw [hr] at h1
   simp only [oIQ] at h1
   subst h1
   rcases hkind _ _ _ _ hm with ⟨ty',cs1,cs',e1,rfl,_⟩ | ⟨k,e,ov,sz,es,e1,rfl,hov⟩
   ·exact ⟨⟨_,_,hA _ _ _ _ hm⟩,(hpa _ _ _ _ hm).1⟩
   ·cases e1
  ·obtain ⟨j2,u',hm⟩ := hQ i _ ho
   have h1 := (hb2 _ _ _ _ hm).1
   rw [hr] at h1
   simp only [oIQ] at h1
   subst h1
   rcases hkind _ _ _ _ hm with ⟨ty',cs1,cs',e1,rfl,_⟩ | ⟨k2,e2,ov2,sz2,es2,e1,rfl,hov⟩
   ·cases e1
   ·simp only [Ob.arr.injEq] at e1
    obtain ⟨rfl,rfl,rfl,rfl⟩ := e1
    exact ⟨⟨_,hA _ _ _ _ hm⟩,(hpa _ _ _ _ hm).2⟩
 have hch := Mem.change (own' := own') (pl' := pl') (w' := w') m (fun j => ∃ i u u',(j,i,u,u') ∈ be)
  (fun j hj => by
   have h2 : ∀ i u u',(j,i,u,u') ∉ be := fun i u u' h => hj ⟨i,u,u',h⟩
   exact ⟨hC j h2,hpo j h2⟩) rfl
  (fun b hb hU' => by
   refine m2.keep b hb (fun i hi => ?_)
   obtain ⟨j,hj,hbj⟩ := mem_XG.1 hi
   obtain ⟨u,u',hm⟩ := hU i j hj
   exact hU' j ⟨i,u,u',hm⟩ hbj)
  (fun j ty cs hUj ho => by
   obtain ⟨i,u,u',hm⟩ := hUj
   have hj := hof _ _ _ _ _ hm ho
   have hb : aM pl own j = some (pl.blk j) := by simp [aM,ho]
   have hal' := hal i j hj
   rw [<- hob j (List.mem_of_getElem? hj),ho,hP _ _ _ _ hm] at hal'
   rcases hkind _ _ _ _ hm with ⟨ty',cs1,cs',rfl,rfl,_⟩ | ⟨k,e,ov,sz,es,rfl,rfl,hov⟩
   ·refine ⟨⟨_,_,hA _ _ _ _ hm⟩,?_⟩
    rw [(hpa _ _ _ _ hm).1]
    rcases m2.bor i (pl.blk j) (mem_XG.2 ⟨j,hj,hb⟩) with ⟨_,_,_,h⟩ | ⟨_,_,_,_,h⟩
    ·exact h
    ·rw [hP _ _ _ _ hm] at h; cases h
   ·simp [tS] at hal')
  (fun j hUj k e sz es ho => by
   obtain ⟨i,u,u',hm⟩ := hUj
   have hj := hof _ _ _ _ _ hm ho
   have hal' := hal i j hj
   rw [<- hob j (List.mem_of_getElem? hj),ho,hP _ _ _ _ hm] at hal'
   rcases hkind _ _ _ _ hm with ⟨ty',cs1,cs',rfl,rfl,_⟩ | ⟨k2,e2,ov2,sz2,es2,rfl,rfl,hov⟩
   ·simp [tS] at hal'
   ·refine ⟨_,_,_,_,hA _ _ _ _ hm,?_⟩
    have hlt := (gsQ.1 hj).1
    have : shG ob rs i = k + 1 := by
     simp only [shG,if_pos (show i < 100 by omega),hj,<- hob j (List.mem_of_getElem? hj),ho]
    omega)
  (fun j b hUj hb => by
   obtain ⟨i,u,u',hm⟩ := hUj
   rw [hblk _ _ _ _ hm] at hb
   rcases m2.base i b hb with h | h
   ·exact .inr h
   ·exact .inl (hXb i b h j u u' hm))
  (fun j j2 b hj hj2 hb hb2' => by
   obtain ⟨i,u,u',hm⟩ := hj
   obtain ⟨i2,u2,u2',hm2⟩ := hj2
   rw [hblk _ _ _ _ hm] at hb
   rw [hblk _ _ _ _ hm2] at hb2'
   have := m2.inj i i2 b hb hb2'
   subst this
   have e1 := (hb2 _ _ _ _ hm).1
   have e2 := (hb2 _ _ _ _ hm2).1
   rw [e1] at e2
   simpa using e2)
  (fun L j o' hUj ho => by
   obtain ⟨i,u,u',hm⟩ := hUj
   rw [hA _ _ _ _ hm] at ho
   simp only [oIQ] at ho
   subst ho
   have hobj := m2.obj i _ (hP _ _ _ _ hm)
   obtain ⟨hp1,hp2⟩ := hpa _ _ _ _ hm
   rcases hkind _ _ _ _ hm with ⟨ty',cs1,cs',rfl,rfl,hl⟩ | ⟨k2,e2,ov2,sz2,es2,rfl,rfl,hov⟩
   ·obtain ⟨vs,hvs,hc⟩ := hobj
    exact ⟨vs,by rw [hp1]; exact hvs,R.l hl hc⟩
   ·obtain ⟨ys,hys,hc,hsz⟩ := hobj
    obtain ⟨hmk,hlk⟩ := aD5 hov
    refine ⟨ys,by rw [hp2]; show ownsQ (mkd ov2) _ _ _ _ _ _ _; rw [hmk]; exact hys,⟨hc.1,fun k' d u hd hu => ?_⟩,hsz⟩
    have hh := hc.2 k' d u hd hu
    have hl2 := hlk k'
    show aGJ _ _ _ d u (ov2.lookup k')
    cases hq : e2.ov.lookup k' with
    | some c =>
     rw [hq] at hl2 hh
     obtain ⟨c',h5,h6⟩ := hl2
     rw [h5]
     exact R.c h6 hh
    | none =>
    rw [hq] at hl2 hh
    rw [hl2]
    refine R.rd d u (fun hf => ?_) hh
    have hfo : (i,Ob.arr k2 e2 sz2 es2) ∈ post := by rw [<- hb1]; exact mmQ.2 ⟨_,hm,rfl⟩
    have hfe := hfl hf (cT es2) (List.mem_flatMap.2 ⟨_,hfo,by simp [s3]⟩)
    obtain ⟨ds,hds,hdd⟩ := List.mem_flatten.1 (List.mem_of_getElem? hd)
    exact hfe ds hds d hdd)
  m2.os m2.tape m2.output hgrow
  (fun j ty cs b hUj ho hb => by
   obtain ⟨i,u,u',hm⟩ := hUj
   rw [hA _ _ _ _ hm] at ho
   simp only [oIQ] at ho
   subst ho
   rw [(hpa _ _ _ _ hm).1]
   rcases hkind _ _ _ _ hm with ⟨ty',cs1,cs',rfl,e1,hl⟩ | ⟨k2,e2,ov2,sz2,es2,rfl,e1⟩
   ·simp only [Ob.box.injEq] at e1
    obtain ⟨rfl,_⟩ := e1
    exact m2.pin i _ _ b (hP _ _ _ _ hm) hb
   ·cases e1.1)
 exact ⟨pl',hch.1,hch.2,R.s hout hv⟩
def YSpec (P : Program) (G : List (Nat × List Value)) (l : Nat) (ins : List SV) (refs : List (Nat × Ob)) (out : SV) (post : List (Nat × Ob)) : Prop :=
 ∀ (fr : Fr) (w : World) (pl : Pl) (args : List Value),fr.w0 = w -> FrIs fr G [] -> Mem fr (lookO refs) w pl -> All2 (aV w pl (lookO refs)) ins args ->
  ∃ (f : FuncId) (tmps : Array Value) (assign body : Code),(Instr.yield l args.toArray).run P w = .ok (.round l f tmps assign body) w /\
   RoundIn Fence.wide 0 P l f tmps assign body w fun e w' => ∃ v pl',e = .returned v /\ Mem fr (lookO post) w' pl' /\ aV w' pl' (lookO post) out v
def aA5 (P : Program) (G : List (Nat × List Value)) (a : Act) (w : World) (o : Oper) (vals : List Value) (S : List SV -> List (Nat × Ob) -> SV -> List (Nat × Ob) -> Prop) : Prop :=
 ∀ {fr : Fr} {ins : List SV} {refs post : List (Nat × Ob)} {out : SV} {pl0 : Pl},S ins refs out post -> fr.w0 = w -> FrIs fr G [] -> Mem fr (lookO refs) w pl0 -> All2 (aV w pl0 (lookO refs)) ins vals ->
  ∀ K : Act -> World -> Prop,(∀ v w' pl1,Mem fr (lookO post) w' pl1 -> aV w' pl1 (lookO post) out v -> K (a.put o.dst v) w') -> OpW P o a w K
theorem u5 {f : FuncId} {vals : List Value} (hrun : (execOp a.eval o).run P w = .ok (.enter f vals.toArray) w) {G : List (Nat × List Value)} : aA5 P G a w o vals (Spec P G f) := by
 intro fr ins refs post out pl0 hs hw hG m ha K hK
 refine .inl fun Q => ?_
 unfold Oper.wp
 rw [hrun,Oper.upon_enter]
 refine Calls.mono (hs fr w pl0 vals hw hG m ha) ?_
 rintro e w' ⟨v,pl1,rfl,m2,hv⟩
 exact hK v w' pl1 m2 hv
theorem aES {l : Nat} {vals : List Value} (hrun : (execOp a.eval o).run P w = (Instr.yield l vals.toArray).run P w) {G : List (Nat × List Value)} : aA5 P G a w o vals (YSpec P G l) := by
 intro fr ins refs post out pl0 hs hw hG m ha K hK
 obtain ⟨f,tmps,assign,body,h1,h2⟩ := hs fr w pl0 vals hw hG m ha
 refine .inr ⟨l,f,tmps,assign,body,hrun.trans h1,h2.mono ?_⟩
 rintro e w' ⟨v,pl1,rfl,m2,hv⟩
 exact ⟨v,rfl,hK v w' pl1 m2 hv⟩
theorem oK (m : Mem fr own w pl) {S : List SV -> List (Nat × Ob) -> SV -> List (Nat × Ob) -> Prop} {osv : Option (List SV)} {vals : List Value} (hsvs : ∀ svs,osv = some svs -> All2 (aV w pl own) svs vals) (hrun : aA5 P fr.G a w o vals S) {ob : Own} {nid : Nat} {out : SV} {rs : List Nat} {post : List (Nat × Ob)} {e : Eff}
  (h : lW S ob osv nid out rs post = some e) (hob : ∀ i ∈ e.touch,own i = ob i) (ho : conj e.obl) : fN P fr own a w pl o e := by
 unfold lW at h
 split at h
 rename_i svs
 split at h
 rename_i ins ars refs hargs hrefs
 split at h
 rename_i be out' hbe hout
 split at h
 rename_i hc
 simp only [bIQ,decide_eq_true_eq] at hc
 obtain ⟨⟨⟨⟨⟨hn1,hn2⟩,h100⟩,hfree⟩,hbn⟩,hal⟩ := hc
 simp only [oIQ] at h
 subst h
 obtain ⟨hspec,hfl⟩ := eZ ho
 obtain ⟨hb1,hb2⟩ := aD6 hbe
 have hobr : ∀ i ∈ rs,own i = ob i := fun i hi => hob i (by simp [hi])
 have hoba : ∀ i ∈ ars,own i = ob i := fun i hi => hob i (by simp [hi])
 have hsv2 := hsvs _ rfl
 obtain ⟨m1,H,T2⟩ := memG (ars := ars) m hn1 h100 hobr hrefs
 have hins : All2 (aV w (plG fr own w pl rs ars) (lookO refs)) ins vals := aEA H hoba T2 hargs hsv2
 intro K hK
 refine hrun (fr := frG fr own w pl rs ars) hspec rfl ⟨rfl,rfl,fun _ => ⟨rfl,rfl⟩,rfl⟩ m1 hins K fun v w' pl1 m2 hv => ?_
 obtain ⟨pl',m3,L,hv3⟩ := backG m rfl m2 hn1 h100 hobr hb1 hb2 hn2 hbn (fun j i u u' hm => by
   have := at1.1 hfree _ hm
   simp only [Bool.or_eq_true,decide_eq_true_eq,Option.isNone_iff_eq_none] at this
   refine this.imp id fun h => ?_
   rw [hob j (by simp only [List.mem_append,mmQ]; exact .inr ⟨_,hm,rfl⟩)]
   exact h)
  (fun r j hj => by
   refine at1.1 hal (j,r) ?_
   rw [List.mem_iff_getElem?]
   exact ⟨r,by simp [hj]⟩)
  (fun hne x hx => by
   cases hars : ars.isEmpty with
   | true => rw [hars] at hne; cases hne
   | false =>
    rw [hars] at hfl
    simp only [Bool.false_eq_true,if_false] at hfl
    exact j9 ((mI _) ▸ hfl) hx) hout hv
 exact hK v w' pl' m3 L (.inr hv3)
 cases h
 cases h
 cases h
 cases h
theorem kE (m : Mem fr own w pl) {f : FuncId} {osv : Option (List SV)} {vals : List Value} (hsvs : ∀ svs,osv = some svs -> All2 (aV w pl own) svs vals) (hrun : (execOp a.eval o).run P w = .ok (.enter f vals.toArray) w) {ob : Own} {nid : Nat} {hint : Hint} {e : Eff}
  (h : tG P fr.G ob f osv nid hint = some e) (hob : ∀ i ∈ e.touch,own i = ob i) (ho : conj e.obl) : fN P fr own a w pl o e := by
 unfold tG at h
 split at h
 exact oK m hsvs (u5 hrun) h hob ho
 exact (aMR m hsvs hrun h hob ho).x
theorem u9 {l : Nat} {x : Tmp} {xs : Array Operand} {ats : Array TypeId} (hop : o.op = .call { callee := .value (.tmp x),args := xs,argTypes := ats }) (hx : a.eval (.tmp x) = .func (.yield l) #[] #[]) : (execOp a.eval o).run P w = (Instr.yield l (xs.toList.map a.eval).toArray).run P w := by
 unfold execOp
 simp only [hop,resolve,hx,Deferred.ofValue,Sem.run_bind,Sem.run_pure,an,invoke,Array.empty_append]
 congr 2
 rw [<- List.map_toArray]
theorem nR {f : FuncId} {xs : Array Operand} {ats : Array TypeId} (hop : o.op = .call { callee := .value (.func f),args := xs,argTypes := ats }) (hent : enters P f = true) : (execOp a.eval o).run P w = .ok (.enter f (xs.toList.map a.eval).toArray) w := by
 unfold execOp
 simp only [hop,resolve,Act.eval,Deferred.ofValue,Sem.run_bind,Sem.run_pure,an,invoke]
 rw [iC hent]
 simp only [Array.empty_append,Array.append_empty]
 rw [<- List.map_toArray]
theorem nQ {f : FuncId} {x : Tmp} {l m : List Value} {xs : Array Operand} {ats : Array TypeId} (hop : o.op = .call { callee := .value (.tmp x),args := xs,argTypes := ats }) (hx : a.eval (.tmp x) = .func (.func f) l.toArray m.toArray) (hent : enters P f = true) : (execOp a.eval o).run P w = .ok (.enter f (l ++ xs.toList.map a.eval ++ m).toArray) w := by
 unfold execOp
 simp only [hop,resolve,hx,Deferred.ofValue,Sem.run_bind,Sem.run_pure,an,invoke]
 rw [iC hent]
 congr 2
 apply Array.ext'
 simp
end
end Go.V
