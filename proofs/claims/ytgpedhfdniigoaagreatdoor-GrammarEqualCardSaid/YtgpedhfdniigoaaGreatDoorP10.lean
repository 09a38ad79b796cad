/- Part 10 of the proof. -/
import Derived.Test.YtgpedhfdniigoaaGreatDoorP9
set_option linter.all false
namespace Go.V
open Go.RowKit
theorem iG : ∀ {l : List (Nat × Ob)} {i : Nat} {o : Ob},lookO l i = some o -> (i,o) ∈ l
 | [],i,o,h => by simp [lookO] at h
 | (j,u) :: r,i,o,h => by
  simp only [lookO] at h
  split at h
  rename_i hj
  simp only [beq_iff_eq] at hj
  simp only [oIQ] at h
  subst hj; subst h; simp
  simp [iG h]
theorem eG : ∀ {l : List (Nat × Ob)} {i : Nat} {o : Ob},(l.map (·.1)).Nodup -> (i,o) ∈ l -> lookO l i = some o
 | [],i,o,_,h => by simp at h
 | (j,u) :: r,i,o,hn,h => by
  simp only [mp1,List.nodup_cons] at hn
  simp only [lookO]
  rcases mc.1 h with h | h
  ·injection h with h1 h2; subst h1; subst h2; simp
  ·have hne : j ≠ i := fun e => hn.1 (by rw [e]; exact mmQ.2 ⟨(i,o),h,rfl⟩)
   have : (j == i) = false := by simpa using hne
   rw [this]
   exact eG hn.2 h
theorem lQ {l : List (Nat × Ob)} {i : Nat} (h : ∀ o,(i,o) ∉ l) : lookO l i = none := by
 cases hl : lookO l i with
 | none => rfl
 | some o => exact absurd (iG hl) (h o)
theorem kJ : ∀ {l : List (Nat × Ob)} {own : Own} {i : Nat},(l.map (·.1)).Nodup -> aY own l i = match lookO l i with
  | some o => some o
  | none => own i
 | [],own,i,_ => rfl
 | (j,u) :: r,own,i,hn => by
  simp only [mp1,List.nodup_cons] at hn
  simp only [aY,lookO]
  rw [kJ hn.2]
  by_cases hj : j = i
  ·subst hj
   have : lookO r j = none := lQ (fun o ho => hn.1 (mmQ.2 ⟨(j,o),ho,rfl⟩))
   simp [this,upd]
  ·have : (j == i) = false := by simpa using hj
   rw [this,upd_ne _ _ (fun e => hj e.symm)]
   rfl
def mU (g : Nat -> Option Nat) : List (Nat × Nat) -> Option (List (Nat × Nat))
 | [] => some []
 | x :: r => match g x.1,mU g r with
  | some j,some l => some ((j,x.2) :: l)
  | _,_ => none
section
variable {w : World} {own1 own' : Own} {pl1 pl' : Pl} {g : Nat -> Option Nat}
theorem aAH (hg : ∀ i j,g i = some j -> ∀ ty cs,own1 i = some (.box ty cs) -> (∃ ty cs,own' j = some (.box ty cs)) /\ pl'.blk j = pl1.blk i) : ∀ {l l' : List (Nat × Nat)},mU g l = some l' -> (∀ x ∈ l,∃ ty cs,own1 x.1 = some (.box ty cs)) ->
  (∀ x ∈ l',∃ ty cs,own' x.1 = some (.box ty cs)) /\ l'.map (adV pl') = l.map (adV pl1)
 | [],l',h,_ => by simp only [mU,oIQ] at h; subst h; simp
 | x :: r,l',h,hx => by
  simp only [mU] at h
  split at h
  rename_i j l hj hl
  simp only [oIQ] at h; subst h
  obtain ⟨ty,cs,ho⟩ := hx x (by simp)
  obtain ⟨h1,h2⟩ := hg _ _ hj ty cs ho
  obtain ⟨h3,h4⟩ := aAH hg hl (fun y hy => hx y (by simp [hy]))
  refine ⟨fun y hy => ?_,by simp [adV,h2,h4]⟩
  rcases mc.1 hy with rfl | hy
  exact h1
  exact h3 y hy
  cases h
theorem aAT (hg : ∀ i j,g i = some j -> ∀ ty cs,own1 i = some (.box ty cs) -> (∃ ty cs,own' j = some (.box ty cs)) /\ pl'.blk j = pl1.blk i) {f : FuncId} {l1 l2 m1 m2 : List (Nat × Nat)} {v : Value} (h1 : mU g l1 = some m1) (h2 : mU g l2 = some m2) (hv : COk w pl1 own1 (.fn f l1 l2) v) : COk w pl' own' (.fn f m1 m2) v := by
 obtain ⟨hb,rfl⟩ := hv
 obtain ⟨h3,h4⟩ := aAH hg h1 (fun x hx => hb x (List.mem_append.2 (.inl hx)))
 obtain ⟨h5,h6⟩ := aAH hg h2 (fun x hx => hb x (List.mem_append.2 (.inr hx)))
 refine ⟨fun x hx => ?_,by rw [h4,h6]⟩
 rcases List.mem_append.1 hx with hx | hx
 exact h3 x hx
 exact h5 x hx
theorem aAD (hg : ∀ i j,g i = some j -> ∀ ty cs,own1 i = some (.box ty cs) -> (∃ ty cs,own' j = some (.box ty cs)) /\ pl'.blk j = pl1.blk i) {i j : Nat} {v : Value} (h : g i = some j) (hv : COk w pl1 own1 (.mp i) v) : COk w pl' own' (.mp j) v := by
 obtain ⟨⟨ty,cs,ho⟩,rfl⟩ := hv
 obtain ⟨h1,h2⟩ := hg _ _ h ty cs ho
 exact ⟨h1,by rw [h2]⟩
theorem aAP (hg : ∀ i j,g i = some j -> ∀ ty cs,own1 i = some (.box ty cs) -> (∃ ty cs,own' j = some (.box ty cs)) /\ pl'.blk j = pl1.blk i) {t i j : Nat} {v : Value} (h : g i = some j) (hv : COk w pl1 own1 (.ib t i) v) : COk w pl' own' (.ib t j) v := by
 obtain ⟨⟨ty,cs,ho⟩,rfl⟩ := hv
 obtain ⟨h1,h2⟩ := hg _ _ h ty cs ho
 exact ⟨h1,by rw [h2]⟩
end
def pG (ij : List (Nat × Nat)) (i : Nat) : Option Nat := match ij.find? (fun x => x.1 == i) with
 | some x => some x.2
 | none => none
def aII (ij : List (Nat × Nat)) (flat : Bool) : C -> Option C
 | .d (.v x) => some (.d (.v x))
 | .d (.sl sz es) => if flat then none else some (.d (.sl sz es))
 | .bx i off => match pG ij i with
  | some j => some (.bx j off)
  | none => none
 | .ar i k => match pG ij i with
  | some j => some (.ar j k)
  | none => none
 | .pg g off => some (.pg g off)
 | .fn f l m => match mU (pG ij) l,mU (pG ij) m with
  | some l',some m' => some (.fn f l' m')
  | _,_ => none
 | .mp i => match pG ij i with
  | some j => some (.mp j)
  | none => none
 | .ib t i => match pG ij i with
  | some j => some (.ib t j)
  | none => none
 | .nn => some .nn
 | .any => some .any
 | _ => none
def wU (ij : List (Nat × Nat)) (flat : Bool) : List C -> Option (List C)
 | [] => some []
 | c :: r => match aII ij flat c,wU ij flat r with
  | some x,some l => some (x :: l)
  | _,_ => none
def aKJ (ij : List (Nat × Nat)) (flat : Bool) : List (Bool × List C) -> Option (List (Bool × List C))
 | [] => some []
 | (b,c) :: r => match wU ij flat c,aKJ ij flat r with
  | some x,some l => some ((b,x) :: l)
  | _,_ => none
def tY (ij : List (Nat × Nat)) (flat : Bool) : SV -> Option SV
 | .c x => match aII ij flat x with
  | some y => some (.c y)
  | none => none
 | .agg xs => match wU ij flat xs with
  | some y => some (.agg y)
  | none => none
 | .tup xs => match aKJ ij flat xs with
  | some y => some (.tup y)
  | none => none
def tX (ij : List (Nat × Nat)) (flat : Bool) : List (Nat × C) -> Option (List (Nat × C))
 | [] => some []
 | (j,c) :: r => match aII ij flat c,tX ij flat r with
  | some x,some l => some ((j,x) :: l)
  | _,_ => none
def jJ (ij : List (Nat × Nat)) (flat : Bool) : Ob -> Option Ob
 | .box ty cells => match wU ij flat cells with
  | some l => some (.box ty l)
  | none => none
 | .arr k e sz es => match tX ij flat e.ov with
  | some ov => some (.arr k ⟨e.e,ov⟩ sz es)
  | none => none
def cT (es : LD) : Prop := ∀ ds,ds ∈ es -> ∀ d,d ∈ ds -> ∃ x,d = .v x
def s3 : Ob -> List Prop
 | .box _ _ => []
 | .arr _ _ _ es => [cT es]
def aHG (es : LD) : Bool := es.all fun ds => ds.all fun d => match d with
 | .v _ => true
 | _ => false
theorem aF0 {es : LD} (h : aHG es = true) : cT es := by
 intro ds hds d hd
 have := at1.1 (at1.1 h ds hds) d hd
 cases d with
 | v x => exact ⟨x,rfl⟩
 | sl => cases this
def vU : Ob -> List Obl
 | .box _ _ => []
 | .arr _ _ _ es => [⟨cT es,aHG es,aF0,false⟩]
theorem mI : ∀ (l : List (Nat × Ob)),pOf (l.flatMap fun x => vU x.2) = l.flatMap fun x => s3 x.2
 | [] => rfl
 | (i,.box _ _) :: l => by simpa [vU,s3] using mI l
 | (i,.arr _ _ _ es) :: l => by
  have := mI l
  simp only [List.flatMap_cons,vU,s3,List.cons_append,List.nil_append,pOf,mp1] at this ⊢
  rw [this]
theorem rK {ij : List (Nat × Nat)} {flat : Bool} : ∀ {ov ov' : List (Nat × C)},tX ij flat ov = some ov' -> mkd ov' = mkd ov
 | [],ov',h => by simp only [tX,oIQ] at h; subst h; rfl
 | (q,c) :: ov,ov',h => by
  simp only [tX] at h
  split at h
  rename_i c' l hc hl
  simp only [oIQ] at h
  subst h
  have ih := rK hl
  simp only [mkd,List.any_cons] at ih ⊢
  rw [ih]
  cases h
structure Ren (w : World) (pl1 : Pl) (own1 : Own) (pl' : Pl) (own' : Own) (ij : List (Nat × Nat)) (flat : Bool) : Prop where
 rd : ∀ d v,(flat = true -> ∃ x,d = .v x) -> Rd w (Sh pl1 own1) d v -> Rd w (Sh pl' own') d v
 bx : ∀ i j,pG ij i = some j -> ∀ ty cs,own1 i = some (.box ty cs) -> (∃ ty cs,own' j = some (.box ty cs)) /\ pl'.blk j = pl1.blk i
 ar : ∀ i j,pG ij i = some j -> ∀ k e sz es,own1 i = some (.arr k e sz es) -> (∃ ov,own' j = some (.arr k ⟨e.e,ov⟩ sz es)) /\ pl'.sl j = pl1.sl i
section
variable {w : World} {pl1 pl' : Pl} {own1 own' : Own} {ij : List (Nat × Nat)} {flat : Bool}
theorem Ren.c (R : Ren w pl1 own1 pl' own' ij flat) {c c' : C} {v : Value} (h : aII ij flat c = some c') (hv : COk w pl1 own1 c v) : COk w pl' own' c' v := by
 unfold aII at h
 split at h
 simp only [oIQ] at h; subst h; exact R.rd _ _ (fun _ => ⟨_,rfl⟩) hv
 split at h
 cases h
 rename_i hf
 simp only [oIQ] at h; subst h; exact R.rd _ _ (fun hh => absurd hh hf) hv
 split at h
 rename_i j hj
 simp only [oIQ] at h; subst h
 obtain ⟨⟨ty,cs,ho⟩,rfl⟩ := hv
 obtain ⟨h1,h2⟩ := R.bx _ j hj ty cs ho
 exact ⟨h1,by rw [h2]⟩
 cases h
 split at h
 rename_i j hj
 simp only [oIQ] at h; subst h
 obtain ⟨k',e,sz,es,ho,hk,hv,h1⟩ := hv
 obtain ⟨⟨ov,h2⟩,h3⟩ := R.ar _ j hj _ _ _ _ ho
 exact ⟨k',⟨e.e,ov⟩,sz,es,h2,hk,fun hh => by rw [hv hh,h3],h1⟩
 cases h
 simp only [oIQ] at h; subst h; exact hv
 split at h
 rename_i h1 h2; simp only [oIQ] at h; subst h; exact aAT (fun i j hj ty cs ho => R.bx i j hj ty cs ho) h1 h2 hv
 cases h
 split at h
 rename_i h1; simp only [oIQ] at h; subst h; exact aAD (fun i j hj ty cs ho => R.bx i j hj ty cs ho) h1 hv
 cases h
 split at h
 rename_i h1; simp only [oIQ] at h; subst h; exact aAP (fun i j hj ty cs ho => R.bx i j hj ty cs ho) h1 hv
 cases h
 simp only [oIQ] at h; subst h; exact hv
 simp only [oIQ] at h; subst h; exact hv
 cases h
theorem Ren.l (R : Ren w pl1 own1 pl' own' ij flat) : ∀ {cs cs' : List C} {vs : List Value},wU ij flat cs = some cs' -> All2 (COk w pl1 own1) cs vs -> All2 (COk w pl' own') cs' vs
 | [],cs',vs,h,hv => by simp only [wU,oIQ] at h; subst h; rw [hv.unnil]; exact All2.nil
 | c :: r,cs',vs,h,hv => by
  simp only [wU] at h
  split at h
  rename_i x l hx hl
  simp only [oIQ] at h; subst h
  obtain ⟨y,r',rfl,h1,h2⟩ := hv.uncons
  exact All2.cons (R.c hx h1) (R.l hl h2)
  cases h
theorem Ren.part (R : Ren w pl1 own1 pl' own' ij flat) {b : Bool} {cs cs' : List C} {v : Value} (h : wU ij flat cs = some cs') (hv : cZ w pl1 own1 (b,cs) v) : cZ w pl' own' (b,cs') v := by
 cases b with
 | true => obtain ⟨vs,rfl,h2⟩ := hv; exact ⟨vs,rfl,R.l h h2⟩
 | false =>
  match cs,h,hv with
  | [c],h,hv =>
   simp only [wU] at h
   split at h
   rename_i x l hx hl
   simp only [oIQ] at h hl
   subst hl; subst h
   exact R.c hx hv
   cases h
theorem Ren.p (R : Ren w pl1 own1 pl' own' ij flat) : ∀ {cs cs' : List (Bool × List C)} {vs : List Value},aKJ ij flat cs = some cs' -> All2 (cZ w pl1 own1) cs vs -> All2 (cZ w pl' own') cs' vs
 | [],cs',vs,h,hv => by simp only [aKJ,oIQ] at h; subst h; rw [hv.unnil]; exact All2.nil
 | (b,c) :: r,cs',vs,h,hv => by
  simp only [aKJ] at h
  split at h
  rename_i x l hx hl
  simp only [oIQ] at h; subst h
  obtain ⟨y,r',rfl,h1,h2⟩ := hv.uncons
  exact All2.cons (R.part hx h1) (R.p hl h2)
  cases h
theorem Ren.s (R : Ren w pl1 own1 pl' own' ij flat) {s s' : SV} {v : Value} (h : tY ij flat s = some s') (hv : aV w pl1 own1 s v) : aV w pl' own' s' v := by
 cases s with
 | c x =>
  simp only [tY] at h
  split at h
  rename_i y hy; simp only [oIQ] at h; subst h; exact R.c hy hv
  cases h
 | agg xs =>
  simp only [tY] at h
  split at h
  rename_i y hy
  simp only [oIQ] at h; subst h
  obtain ⟨vs,rfl,h2⟩ := hv
  exact ⟨vs,rfl,R.l hy h2⟩
  cases h
 | tup xs =>
  simp only [tY] at h
  split at h
  rename_i y hy
  simp only [oIQ] at h; subst h
  obtain ⟨vs,rfl,h2⟩ := hv
  exact ⟨vs,rfl,R.p hy h2⟩
  cases h
end
theorem fC {ij : List (Nat × Nat)} {flat : Bool} {k : Nat} {e : AT} {sz : Nat} {es : LD} {u : Ob} (h : jJ ij flat (.arr k e sz es) = some u) : ∃ ov,tX ij flat e.ov = some ov /\ u = .arr k ⟨e.e,ov⟩ sz es := by
 simp only [jJ] at h
 split at h
 rename_i ov ho; simp only [oIQ] at h; exact ⟨ov,ho,h.symm⟩
 cases h
theorem vC {ij : List (Nat × Nat)} {flat : Bool} (j : Nat) : ∀ {ov ov' : List (Nat × C)},tX ij flat ov = some ov' -> (ov.lookup j = none /\ ov'.lookup j = none) \/ ∃ c c',ov.lookup j = some c /\ ov'.lookup j = some c' /\ aII ij flat c = some c'
 | [],ov',h => by simp only [tX,oIQ] at h; subst h; exact .inl ⟨rfl,rfl⟩
 | (i,c) :: r,ov',h => by
  simp only [tX] at h
  split at h
  rename_i x l hx hl
  simp only [oIQ] at h
  subst h
  by_cases hj : j = i
  subst hj; exact .inr ⟨c,x,by simp [List.lookup],by simp [List.lookup],hx⟩
  have : (j == i) = false := by simpa using hj
  simp only [List.lookup,this]
  exact vC j hl
  cases h
theorem Ren.ov {w : World} {pl1 pl' : Pl} {own1 own' : Own} {ij : List (Nat × Nat)} {flat : Bool} (R : Ren w pl1 own1 pl' own' ij flat) {ov ov' : List (Nat × C)} (h : tX ij flat ov = some ov') {ds : List D} {xs : List Value} (hf : flat = true -> ∀ d,d ∈ ds -> ∃ x,d = .v x) (ha : AllO w pl1 own1 ov ds xs) : AllO w pl' own' ov' ds xs := by
 refine ⟨ha.1,fun j d x hd hx => ?_⟩
 have hh := ha.2 j d x hd hx
 rcases vC j h with ⟨h1,h2⟩ | ⟨c,c',h1,h2,h3⟩
 rw [h1] at hh; rw [h2]; exact R.rd d x (fun hfl => hf hfl d (List.mem_of_getElem? hd)) hh
 rw [h1] at hh; rw [h2]; exact R.c h3 hh
def iU : List SV -> List Nat
 | [] => []
 | .c (.bx j 0) :: r => j :: iU r
 | _ :: r => iU r
def iT (ob : Own) : Nat -> List Nat -> LD -> Option (List (Nat × Nat × Ob))
 | _,[],[] => some []
 | k,j :: rs,ds :: ro => match ob j with
  | some (.box ty _) => match iT ob (k + 1) rs ro with
   | some l => some ((k,j,.box ty (ds.map .d)) :: l)
   | none => none
  | _ => none
 | _,_,_ => none
def eK {α : Type} : List (Option α) -> Option (List α)
 | [] => some []
 | some x :: r => match eK r with
  | some l => some (x :: l)
  | none => none
 | none :: _ => none
def sW (ij : List (Nat × Nat)) (flat : Bool) (nid : Nat) : List (Nat × Ob) -> Option (List (Nat × Nat × Ob × Ob))
 | [] => some []
 | (i,o) :: r => match jJ ij flat o,sW ij flat nid r with
  | some o',some l => if 100 <= i then some ((i,nid + (i - 100),o,o') :: l) else none
  | _,_ => none
def aLY : Bool -> LD -> Bool
 | false,_ => true
 | true,l => l.all fun ds => ds.all fun d => match d with
  | .v _ => true
  | _ => false
def aMS (P : Program) (G : List (Nat × List Value)) (ob : Own) (f : FuncId) (osv : Option (List SV)) (nid : Nat) (hint : Hint) : Option Eff :=
 match hint,osv with
 | .call out fo ro,some svs =>
  match aD9 ob (iU svs) svs,vD ob 0 (iU svs),iT ob 0 (iU svs) ro with
  | some (ins,ars),some refs,some rp =>
   match sW (rp.map (fun x => (x.1,x.2.1)) ++ fo.map (fun x => (x.1,nid + (x.1 - 100)))) (!ars.isEmpty) nid fo,tY (rp.map (fun x => (x.1,x.2.1)) ++ fo.map (fun x => (x.1,nid + (x.1 - 100)))) (!ars.isEmpty) out with
   | some fe,some out' =>
    if decide ((iU svs).Nodup) && decide ((fo.map (·.1)).Nodup) && aLY (!ars.isEmpty) ro && fe.all (fun x => (ob x.2.1).isNone) && decide ((iU svs).length <= 100) then
     some ⟨out',rp.map (fun x => (x.2.1,x.2.2)) ++ fe.map (fun x => (x.2.1,x.2.2.2)),iU svs ++ ars ++ fe.map (·.2.1),.call (Spec P G f ins refs out (rp.map (fun x => (x.1,x.2.2)) ++ fo)) :: (if ars.isEmpty then [] else fo.flatMap fun x => vU x.2)⟩
    else none
   | _,_ => none
  | _,_,_ => none
 | _,_ => none
section
variable {P : Program} {fr : Fr} {own own0 : Own} {a : Act} {w w' : World} {pl pl0 : Pl} {o : Oper} {p : Path} {lk : Lk}
theorem oM {B j k : Nat} {e : TypeId} {sz : Nat} {es : LD} (h : ObOk B w pl own j (.arr k ⟨e,[]⟩ sz es)) {F : Nat -> Prop} (hF : ∀ b,(pl.sl j).1.map (·.block) = some b -> F b) (T : ∀ d v,Rd w (Sh pl own) d v -> Rd w F d v) : Rd w F (.sl sz es) (.slice (pl.sl j).1 es.length (pl.sl j).2) := by
 obtain ⟨xs,hx,hr,hs⟩ := h
 rcases hx.2 with ⟨hv,h0⟩ | ⟨g,cap,cur,hv,hB,hg,hn,hc,hsz,htk⟩
 ·have : es = [] := List.eq_nil_of_length_eq_zero h0
  subst this
  injection hv with h1 h2 h3
  rw [h1,h3]
  exact .nil sz
 ·injection hv with h1 h2 h3
  have hget : ∀ (i j : Nat) (ds : List D) (d : D),es[i]? = some ds -> ds[j]? = some d -> ∃ u,cur[0 + i * sz + j]? = some u /\ Rd w F d u := by
   intro i j ds d hi hj
   obtain ⟨u,hu,hru⟩ := (AllO.pure hr).get (dK hs hi hj)
   refine ⟨u,?_,T _ _ hru⟩
   rw [<- htk,List.getElem?_take] at hu
   split at hu
   ·rw [Nat.zero_add]; simpa using hu
   ·cases hu
  rw [h1,h3]
  refine Rd.sl (cs := cur) (e := e) (fz := (0,0)) (fun i j => cur[0 + i * sz + j]?.getD undef) (hF g (by rw [h1]; rfl)) hg hn hc hs (fun i j ds d hi hj => ?_) (fun i j ds d hi hj => ?_)
  ·obtain ⟨u,hu,_⟩ := hget i j ds d hi hj; rw [hu]; rfl
  ·obtain ⟨u,hu,h⟩ := hget i j ds d hi hj; simp only [hu,Option.getD_some]; exact h
theorem aH1 {ob : Own} {rs : List Nat} (T1 : ∀ d v,Rd w (Sh pl own) d v -> Rd w (Sh pl0 own0) d v) {c c' : C} {t : List Nat} {v : Value} (hob : ∀ j ∈ t,own j = ob j)
  (T2 : ∀ j ∈ t,∀ k (e : TypeId) sz es,own j = some (.arr k ⟨e,[]⟩ sz es) -> Rd w (Sh pl0 own0) (.sl sz es) (.slice (pl.sl j).1 es.length (pl.sl j).2))
  (T3 : ∀ j r,rs.idxOf? j = some r -> (∃ ty cs,own0 r = some (.box ty cs)) /\ pl0.blk r = pl.blk j) (h : argC ob rs c = some (c',t)) (hv : COk w pl own c v) : COk w pl0 own0 c' v := by
 unfold argC at h
 split at h
 simp only [oIQ,pIQ] at h; obtain ⟨rfl,rfl⟩ := h; exact T1 _ _ hv
 simp only [oIQ,pIQ] at h; obtain ⟨rfl,rfl⟩ := h; exact hv
 rename_i j k
 split at h
 rename_i k' e sz es hj
 split at h
 rename_i hk
 simp only [beq_iff_eq] at hk
 subst hk
 simp only [oIQ,pIQ] at h
 obtain ⟨rfl,rfl⟩ := h
 have hj' : own j = some (.arr k' ⟨e,[]⟩ sz es) := by rw [hob j (by simp),hj]
 have := cD (w := w) hv hj'
 rw [this]
 exact T2 j (by simp) k' e sz es hj'
 cases h
 cases h
 split at h
 rename_i r hr
 simp only [oIQ,pIQ] at h
 obtain ⟨rfl,rfl⟩ := h
 obtain ⟨_,rfl⟩ := hv
 obtain ⟨h1,h2⟩ := T3 _ _ hr
 exact ⟨h1,by rw [h2]⟩
 cases h
 cases h
theorem aHZ {ob : Own} {rs : List Nat} (T1 : ∀ d v,Rd w (Sh pl own) d v -> Rd w (Sh pl0 own0) d v)
  (T3 : ∀ j r,rs.idxOf? j = some r -> (∃ ty cs,own0 r = some (.box ty cs)) /\ pl0.blk r = pl.blk j) : ∀ {cs cs' : List C} {t : List Nat} {vs : List Value},(∀ j ∈ t,own j = ob j) ->
  (∀ j ∈ t,∀ k (e : TypeId) sz es,own j = some (.arr k ⟨e,[]⟩ sz es) -> Rd w (Sh pl0 own0) (.sl sz es) (.slice (pl.sl j).1 es.length (pl.sl j).2)) -> aM0 ob rs cs = some (cs',t) -> All2 (COk w pl own) cs vs -> All2 (COk w pl0 own0) cs' vs
 | [],cs',t,vs,_,_,h,hv => by simp only [aM0,oIQ,pIQ] at h; obtain ⟨rfl,rfl⟩ := h; rw [hv.unnil]; exact All2.nil
 | c :: r,cs',t,vs,hob,T2,h,hv => by
  simp only [aM0] at h
  split at h
  rename_i x t1 l t2 hx hl
  simp only [oIQ,pIQ] at h
  obtain ⟨rfl,rfl⟩ := h
  obtain ⟨y,r',rfl,h1,h2⟩ := hv.uncons
  exact All2.cons (aH1 T1 (fun j hj => hob j (by simp [hj])) (fun j hj => T2 j (by simp [hj])) T3 hx h1) (aHZ T1 T3 (fun j hj => hob j (by simp [hj])) (fun j hj => T2 j (by simp [hj])) hl h2)
  cases h
theorem argS_ok {ob : Own} {rs : List Nat} (T1 : ∀ d v,Rd w (Sh pl own) d v -> Rd w (Sh pl0 own0) d v)
  (T3 : ∀ j r,rs.idxOf? j = some r -> (∃ ty cs,own0 r = some (.box ty cs)) /\ pl0.blk r = pl.blk j) {s s' : SV} {t : List Nat} {v : Value} (hob : ∀ j ∈ t,own j = ob j)
  (T2 : ∀ j ∈ t,∀ k (e : TypeId) sz es,own j = some (.arr k ⟨e,[]⟩ sz es) -> Rd w (Sh pl0 own0) (.sl sz es) (.slice (pl.sl j).1 es.length (pl.sl j).2)) (h : argS ob rs s = some (s',t)) (hv : aV w pl own s v) : aV w pl0 own0 s' v := by
 unfold argS at h
 split at h
 split at h
 rename_i y t' hy
 simp only [oIQ,pIQ] at h
 obtain ⟨rfl,rfl⟩ := h
 exact aH1 T1 hob T2 T3 hy hv
 cases h
 split at h
 rename_i y t' hy
 simp only [oIQ,pIQ] at h
 obtain ⟨rfl,rfl⟩ := h
 obtain ⟨vs,rfl,h2⟩ := hv
 exact ⟨vs,rfl,aHZ T1 T3 hob T2 hy h2⟩
 cases h
 cases h
theorem aD8 {ob : Own} {rs : List Nat} (T1 : ∀ d v,Rd w (Sh pl own) d v -> Rd w (Sh pl0 own0) d v)
  (T3 : ∀ j r,rs.idxOf? j = some r -> (∃ ty cs,own0 r = some (.box ty cs)) /\ pl0.blk r = pl.blk j) : ∀ {cs cs' : List SV} {t : List Nat} {vs : List Value},(∀ j ∈ t,own j = ob j) ->
  (∀ j ∈ t,∀ k (e : TypeId) sz es,own j = some (.arr k ⟨e,[]⟩ sz es) -> Rd w (Sh pl0 own0) (.sl sz es) (.slice (pl.sl j).1 es.length (pl.sl j).2)) -> aD9 ob rs cs = some (cs',t) -> All2 (aV w pl own) cs vs -> All2 (aV w pl0 own0) cs' vs
 | [],cs',t,vs,_,_,h,hv => by simp only [aD9,oIQ,pIQ] at h; obtain ⟨rfl,rfl⟩ := h; rw [hv.unnil]; exact All2.nil
 | c :: r,cs',t,vs,hob,T2,h,hv => by
  simp only [aD9] at h
  split at h
  rename_i x t1 l t2 hx hl
  simp only [oIQ,pIQ] at h
  obtain ⟨rfl,rfl⟩ := h
  obtain ⟨y,r',rfl,h1,h2⟩ := hv.uncons
  exact All2.cons (argS_ok T1 T3 (fun j hj => hob j (by simp [hj])) (fun j hj => T2 j (by simp [hj])) hx h1) (aD8 T1 T3 (fun j hj => hob j (by simp [hj])) (fun j hj => T2 j (by simp [hj])) hl h2)
  cases h
theorem dL (hl : aX a w pl own p lk) (hp : Eng.Holds a p) : ∀ {xs : List Operand} {svs : List SV},eK (xs.map (lk [])) = some svs -> All2 (aV w pl own) svs (xs.map a.eval)
 | [],svs,h => by simp only [List.map_nil,eK,oIQ] at h; subst h; exact All2.nil
 | x :: r,svs,h => by
  simp only [mp1] at h
  cases hx : lk [] x with
  | none => rw [hx] at h; simp [eK] at h
  | some s =>
   rw [hx] at h
   simp only [eK] at h
   split at h
   rename_i l hl'
   simp only [oIQ] at h
   subst h
   exact All2.cons (hl [] x s hx holds_nil hp) (dL hl hp hl')
   cases h
def fZ (fr : Fr) (own : Own) (w : World) (pl : Pl) (rs ars : List Nat) : Fr :=
 { w0 := w,X := rs.zipIdx.map (fun x => (x.2,pl.blk x.1)),G := fr.G,F := fun b => b < w.heap.size /\ (Sh pl own b \/ ∃ j ∈ ars,aM pl own j = some b) }
def dZ (fr : Fr) (own : Own) (w : World) (pl : Pl) (rs ars : List Nat) : Pl :=
 { S := fun b => (fZ fr own w pl rs ars).F b \/ w.heap.size <= b,blk := fun r => pl.blk (rs.getD r 0),sl := fun _ => (none,0) }
theorem mem_X {fr : Fr} {own : Own} {w : World} {pl : Pl} {rs ars : List Nat} {r b : Nat} : (r,b) ∈ (fZ fr own w pl rs ars).X ↔ ∃ j,rs[r]? = some j /\ b = pl.blk j := by
 simp only [fZ,mmQ,pIQ]
 constructor
 rintro ⟨⟨j,k⟩,hm,rfl,rfl⟩
 refine ⟨j,?_,rfl⟩
 have := List.mem_zipIdx hm
 obtain ⟨_,hlt,hv⟩ := this
 simp only [Nat.zero_add,Nat.sub_zero] at hlt hv
 rw [ge hlt,hv]
 rintro ⟨j,hj,rfl⟩
 refine ⟨(j,r),?_,rfl,rfl⟩
 rw [List.mem_iff_getElem?]
 exact ⟨r,by simp [hj]⟩
theorem aJD (m : Mem fr own w pl) {rs ars : List Nat} (hn : rs.Nodup) (h100 : rs.length <= 100) {ob : Own} (hob : ∀ i ∈ rs,own i = ob i) {refs : List (Nat × Ob)} (hr : vD ob 0 rs = some refs) :
  Mem (fZ fr own w pl rs ars) (lookO refs) w (dZ fr own w pl rs ars) /\ (∀ d v,Rd w (Sh pl own) d v -> Rd w (Sh (dZ fr own w pl rs ars) (lookO refs)) d v) /\
   (∀ j ∈ ars,∀ k (e : TypeId) sz es,own j = some (.arr k ⟨e,[]⟩ sz es) -> Rd w (Sh (dZ fr own w pl rs ars) (lookO refs)) (.sl sz es) (.slice (pl.sl j).1 es.length (pl.sl j).2)) /\
   (∀ (r j : Nat),rs[r]? = some j -> ∃ (ty : BT) (cs : List C) (ds : List D),own j = some (.box ty cs) /\ lookO refs r = some (.box ty (ds.map .d))) := by
 obtain ⟨h1,h2⟩ := rL hr
 have hbox : ∀ (r j : Nat),rs[r]? = some j -> ∃ (ty : BT) (cs : List C) (ds : List D),own j = some (.box ty cs) /\ hV cs = some ds /\ lookO refs r = some (.box ty (ds.map .d)) := by
  intro r j hj
  obtain ⟨ty,cs,ds,h3,h4⟩ := h2 j (List.mem_of_getElem? hj)
  refine ⟨ty,cs,ds,by rw [hob j (List.mem_of_getElem? hj)]; exact h3,h4,?_⟩
  rw [h1 r]
  simp [hj,h3,h4]
 have hlook : ∀ r o,lookO refs r = some o -> ∃ j,rs[r]? = some j := by
  intro r o ho
  rw [h1 r] at ho
  simp only [zl,if_true,Nat.sub_zero] at ho
  cases hj : rs[r]? with
  | none => rw [hj] at ho; cases ho
  | some j => exact ⟨j,rfl⟩
 have hblkj : ∀ (r j : Nat),rs[r]? = some j -> aM pl own j = some (pl.blk j) := by
  intro r j hj
  obtain ⟨ty,cs,ds,h3,_,_⟩ := hbox r j hj
  simp [aM,h3]
 have hb0 : ∀ r b,aM (dZ fr own w pl rs ars) (lookO refs) r = some b -> ∃ j,rs[r]? = some j /\ b = pl.blk j /\ aM pl own j = some b := by
  intro r b hb
  cases hl : lookO refs r with
  | none => simp [aM,hl] at hb
  | some o =>
   obtain ⟨j,hj⟩ := hlook r o hl
   obtain ⟨ty,cs,ds,h3,_,h5⟩ := hbox r j hj
   have e1 : b = pl.blk j := by
    rw [aM,h5] at hb
    simp only [oIQ,dZ,gd,hj,Option.getD_some] at hb
    exact hb.symm
   exact ⟨j,hj,e1,by rw [e1]; exact hblkj r j hj⟩
 have T0 : ∀ b,b < w.heap.size -> Sh pl own b -> Sh (dZ fr own w pl rs ars) (lookO refs) b := by
  intro b hb hs
  refine ⟨.inl ⟨hb,.inl hs⟩,fun r hr => ?_⟩
  obtain ⟨j,_,_,h6⟩ := hb0 r b hr
  exact hs.2 j h6
 have T1 : ∀ d v,Rd w (Sh pl own) d v -> Rd w (Sh (dZ fr own w pl rs ars) (lookO refs)) d v := fun d v h => Rd.frame (fun _ _ _ => rfl) T0 h
 refine ⟨⟨⟨fun g cs hg => ?_,fun i b hb => ?_,fun i b hb => ?_⟩,fun b => Iff.rfl,fun r o ho => ?_,fun r s b hr hs => ?_,fun r b hb => ?_,fun r b hb => ?_,rfl,rfl,rfl,lr _,fun _ _ _ => rfl,fun r ty cs b ho hb => ?_⟩,T1,?_,?_⟩
 obtain ⟨⟨ty,fz,h3⟩,h4⟩ := m.frOk.glob g cs hg
 have hlt := (Array.getElem?_eq_some_iff.1 h3).1
 refine ⟨⟨ty,fz,(m.keep g hlt h4).trans h3⟩,fun i hi => ?_⟩
 obtain ⟨j,hj,hgj⟩ := mem_X.1 hi
 rcases m.base j g (by rw [hgj]; exact hblkj i j hj) with h5 | h5
 have hlt2 : g < fr.w0.heap.size := hlt
 omega
 exact h4 j h5
 obtain ⟨j,hj,rfl⟩ := mem_X.1 hb
 exact m.blk_lt (hblkj i j hj)
 obtain ⟨j,hj,rfl⟩ := mem_X.1 hb
 have := (gsQ.1 hj).1
 omega
 obtain ⟨j,hj⟩ := hlook r o ho
 obtain ⟨ty,cs,ds,h3,h4,h5⟩ := hbox r j hj
 rw [h5] at ho
 simp only [oIQ] at ho
 subst ho
 obtain ⟨vs,hv,hc⟩ := m.obj j _ h3
 refine ⟨vs,?_,?_⟩
 simp only [dZ,gd,hj,Option.getD_some]; exact hv
 have := i8 h4 hc
 refine ⟨by simpa using this.1,fun k c u hc' hu => ?_⟩
 simp only [List.getElem?_map,me] at hc'
 obtain ⟨d,hd,rfl⟩ := hc'
 exact T1 _ _ (this.2 k d u hd hu)
 obtain ⟨i,hi,_,h6⟩ := hb0 r b hr
 obtain ⟨j,hj,_,h7⟩ := hb0 s b hs
 have hij := m.inj i j b h6 h7
 subst hij
 exact (List.getElem?_inj (gsQ.1 hi).1 hn).1 (hi.trans hj.symm)
 obtain ⟨j,hj,h8,_⟩ := hb0 r b hb
 exact .inr (mem_X.2 ⟨j,hj,h8⟩)
 obtain ⟨j,hj,rfl⟩ := mem_X.1 hb
 obtain ⟨ty,cs,ds,_,_,h5⟩ := hbox r j hj
 refine .inl ⟨_,_,h5,?_⟩
 simp only [dZ,gd,hj,Option.getD_some]
 obtain ⟨j,hj⟩ := hlook r _ ho
 obtain ⟨ty',cs',ds,h3,_,h5⟩ := hbox r j hj
 rw [h5] at ho
 simp only [oIQ,Ob.box.injEq] at ho
 obtain ⟨rfl,rfl⟩ := ho
 simp only [dZ,gd,hj,Option.getD_some]
 exact m.pin j _ _ b h3 hb
 intro j hj k e sz es hj'
 refine oM (m.obj j _ hj') (fun b hb => ?_) T1
 have hbj : aM pl own j = some b := by simp only [aM,hj']; exact hb
 refine ⟨.inl ⟨m.blk_lt hbj,.inr ⟨j,hj,hbj⟩⟩,fun r hr => ?_⟩
 obtain ⟨i,hi,_,h6⟩ := hb0 r b hr
 have := m.inj i j b h6 hbj
 subst this
 obtain ⟨ty,cs,ds,h3,_,_⟩ := hbox r i hi
 rw [h3] at hj'
 cases hj'
 intro r j hj
 obtain ⟨ty,cs,ds,h3,_,h5⟩ := hbox r j hj
 exact ⟨ty,cs,ds,h3,h5⟩
end
end Go.V
