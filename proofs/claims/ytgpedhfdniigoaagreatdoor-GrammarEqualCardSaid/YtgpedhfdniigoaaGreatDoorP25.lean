/- Part 25 of the proof. -/
import Derived.Test.YtgpedhfdniigoaaGreatDoorP24
set_option linter.all false
namespace Go.V
open Go.RowKit
def aKB (own : Own) (keep : Nat -> Bool) : C -> Option D
 | .d x => some x
 | .ar j kj => match own j with
  | some (.arr kj' ⟨_,[]⟩ szj esj) => if kj' == kj && !keep j then some (.sl szj esj) else none
  | _ => none
 | _ => none
def vB (own : Own) (keep : Nat -> Bool) : List (Nat × C) -> Option (List (Nat × D))
 | [] => some []
 | (j,c) :: r => match aKB own keep c,vB own keep r with
  | some d,some l => some ((j,d) :: l)
  | _,_ => none
def gQ (l : List (Nat × D)) : Nat -> LD -> LD
 | _,[] => []
 | k,ds :: r => (match ds with
  | [d] => match l.lookup k with
   | some x => [x]
   | none => [d]
  | ds => ds) :: gQ l (k + 1) r
theorem rH {own : Own} {keep : Nat -> Bool} (j : Nat) : ∀ {ov : List (Nat × C)} {l : List (Nat × D)},vB own keep ov = some l -> (ov.lookup j = none /\ l.lookup j = none) \/ ∃ c x,ov.lookup j = some c /\ l.lookup j = some x /\ aKB own keep c = some x
 | [],l,h => by simp only [vB,oIQ] at h; subst h; exact .inl ⟨rfl,rfl⟩
 | (i,c) :: r,l,h => by
  simp only [vB] at h
  split at h
  rename_i d l' hd hl
  simp only [oIQ] at h
  subst h
  simp only [List.lookup]
  cases hj : (j == i) with
  | true => exact .inr ⟨c,d,rfl,rfl,hd⟩
  | false => exact rH j hl
  cases h
theorem vW (l : List (Nat × D)) : ∀ (k : Nat) (es : LD),(gQ l k es).length = es.length
 | _,[] => rfl
 | k,ds :: r => by simp only [gQ,lc,vW l (k + 1) r]
theorem vX (l : List (Nat × D)) : ∀ (k : Nat) {es : LD},(∀ ds,ds ∈ es -> ds.length = 1) -> (∀ ds,ds ∈ gQ l k es -> ds.length = 1) /\ (gQ l k es).flatten.length = es.flatten.length /\ ∀ (j : Nat) (d' : D),(gQ l k es).flatten[j]? = some d' -> ∃ d,es.flatten[j]? = some d /\ d' = (match l.lookup (k + j) with
  | some x => x
  | none => d)
 | k,[],_ => ⟨fun ds h => (by simp [gQ] at h),rfl,fun j d' h => (by simp [gQ] at h)⟩
 | k,ds :: r,h => by
  obtain ⟨h1,h2,h3⟩ := vX l (k + 1) (es := r) fun x hx => h x (List.mem_cons_of_mem _ hx)
  match ds,h ds (List.mem_cons_self ..) with
  | [d],_ =>
   have e : gQ l k ([d] :: r) = [match l.lookup k with
    | some x => x
    | none => d] :: gQ l (k + 1) r := by simp only [gQ]; cases l.lookup k <;> rfl
   rw [e]
   refine ⟨fun x hx => ?_,by simp [h2],fun j d' hd => ?_⟩
   rcases mc.1 hx with rfl | hx
   rfl
   exact h1 x hx
   cases j with
   | zero =>
    simp only [List.flatten_cons,List.cons_append,cz,oIQ] at hd
    exact ⟨d,by simp,by rw [Nat.add_zero]; exact hd.symm⟩
   | succ j =>
    obtain ⟨d0,h4,h5⟩ := h3 j d' (by simpa using hd)
    exact ⟨d0,by simpa using h4,by rw [show k + (j + 1) = k + 1 + j by omega]; exact h5⟩
def gR (own : Own) (keep : Nat -> Bool) : C -> C
 | .ar i k => match own i with
  | some (.arr k' e sz es) => if k' == k then (if keep i then .ar i 0 else match e.ov,sz,es with
    | [],_,_ => .d (.sl sz es)
    | [(0,.d x)],1,[_] :: rest => .d (.sl 1 ([x] :: rest))
    | [(0,.ar j kj)],1,[_] :: rest => match own j with
     | some (.arr kj' ⟨_,[]⟩ szj esj) => if kj' == kj && !keep j then .d (.sl 1 ([.sl szj esj] :: rest)) else .any
     | _ => .any
    | ov,1,es => match mkd ov,vB own keep ov with
     | false,some l => .d (.sl 1 (gQ l 0 es))
     | _,_ => .any
    | _,_,_ => .any) else .any
  | _ => .any
 | .bx i off => if keep i then .bx i off else .any
 | .ea i k idx off => match own i with
  | some (.arr k' _ _ _) => if k' == k && keep i then .ea i 0 idx off else .any
  | _ => .any
 | .sd _ _ => .any
 | .fn f l m => if (l ++ m).all (fun x => keep x.1) then .fn f l m else .any
 | .mp i => if keep i then .mp i else .any
 | .yl i => if keep i then .yl i else .any
 | .ib t i => if keep i then .ib t i else .any
 | .av _ _ _ _ => .any
 | c => c
def j8 (own : Own) (keep : Nat -> Bool) : Ob -> Ob
 | .box ty cells => .box ty (cells.map (gR own keep))
 | .arr _ e sz es => .arr 0 ⟨e.e,e.ov.map fun x => (x.1,gR own keep x.2)⟩ sz es
def uP (own : Own) (keep : Nat -> Bool) : SV -> SV
 | .c x => .c (gR own keep x)
 | .agg xs => .agg (xs.map (gR own keep))
 | .tup xs => .tup (xs.map fun p => (p.1,p.2.map (gR own keep)))
def bO (own : Own) (keep : Nat -> Bool) : Own := fun i => if keep i then match own i with
  | some o => some (j8 own keep o)
  | none => none
 else none
section
variable {fr : Fr} {n : Nat} {env : Env} {own : Own} {a : Act} {w w' : World} {pl : Pl} {keep : Nat -> Bool}
theorem iI (i : Nat) : aM pl (bO own keep) i = if keep i then aM pl own i else none := by
 unfold aM bO
 cases keep i with
 | false => simp
 | true =>
  simp only [if_true]
  cases own i with
  | none => rfl
  | some o => cases o <;> rfl
theorem sR {b : Nat} (h : Sh pl own b) : Sh pl (bO own keep) b := ⟨h.1,fun i hi => by
 rw [iI] at hi
 split at hi
 exact h.2 i hi
 cases hi⟩
theorem rows_rd (m : Mem fr own w pl) {i k' : Nat} {e : AT} {es : LD} {l : List (Nat × D)} {v : Value} (ho : own i = some (.arr k' e 1 es)) (hmk : mkd e.ov = false) (hl : vB own keep e.ov = some l) (hv : v = .slice (pl.sl i).1 es.length (pl.sl i).2)
  (hblk : ∀ b,(pl.sl i).1.map (·.block) = some b -> Sh pl (bO own keep) b) (may : ∀ q b,keep q = false -> aM pl own q = some b -> Sh pl (bO own keep) b) (T : ∀ d v,Rd w (Sh pl own) d v -> Rd w (Sh pl (bO own keep)) d v) : COk w pl (bO own keep) (.d (.sl 1 (gQ l 0 es))) v := by
 obtain ⟨xs,hx,hr,hs⟩ := m.obj i _ ho
 rw [hmk] at hx
 subst hv
 obtain ⟨f1,f2,f3⟩ := vX l 0 hs
 have hrows : All2 (Rd w (Sh pl (bO own keep))) (gQ l 0 es).flatten xs := by
  refine ⟨by rw [f2]; exact hr.1,fun j d' u hd hu => ?_⟩
  obtain ⟨d,hd1,rfl⟩ := f3 j d' hd
  rw [Nat.zero_add]
  have hou := hr.2 j d u hd1 hu
  rcases rH j hl with ⟨h5,h6⟩ | ⟨c,x,h5,h6,h7⟩
  ·rw [h6]
   rw [h5] at hou
   exact T _ _ hou
  ·rw [h6]
   rw [h5] at hou
   have hou : COk w pl own c u := hou
   cases c with
   | d y => simp only [aKB,oIQ] at h7; subst h7; exact T _ _ hou
   | ar q kq =>
    simp only [aKB] at h7
    split at h7
    ·rename_i kj' ej szj esj hoj
     split at h7
     ·rename_i hkk2
      simp only [bIQ,beq_iff_eq,Bool.not_eq_true'] at hkk2
      obtain ⟨rfl,hkj⟩ := hkk2
      simp only [oIQ] at h7
      subst h7
      rw [cD (w := w) hou hoj]
      exact oM (m.obj q _ hoj) (fun b hb => may q b hkj (by simp only [aM,hoj]; exact hb)) T
     ·cases h7
    ·cases h7
   | _ => simp [aKB] at h7
 have hlen := vW l 0 es
 have := nS (es := gQ l 0 es) (A := (pl.sl i).1) (c := (pl.sl i).2) (xs := xs) (by rw [hlen]; exact hx) hblk hrows f1
 rw [hlen] at this
 exact this
theorem iN (m : Mem fr own w pl) (hk100 : ∀ i b,(i,b) ∈ fr.X -> keep i = true) {c : C} {v : Value} (h : COk w pl own c v) : COk w pl (bO own keep) (gR own keep c) v := by
 have T : ∀ d v,Rd w (Sh pl own) d v -> Rd w (Sh pl (bO own keep)) d v := fun d v h => Rd.frame (fun _ _ _ => rfl) (fun _ _ h => sR h) h
 have hone := COk.one h
 cases c with
 | d x => exact T _ _ h
 | bx i off =>
  simp only [gR]
  split
  ·rename_i hk
   obtain ⟨⟨ty,cs,ho⟩,hv⟩ := h
   exact ⟨⟨ty,cs.map (gR own keep),by simp [bO,hk,ho,j8]⟩,hv⟩
  ·exact hone
 | ar i k =>
  simp only [gR]
  obtain ⟨k',e,sz,es,ho,hkk,hv,h1⟩ := h
  rw [ho]
  simp only
  split
  ·rename_i hk
   simp only [beq_iff_eq] at hk
   split
   ·rename_i hkeep
    exact ⟨0,_,sz,es,by simp [bO,hkeep,ho,j8]; rfl,lr _,fun _ => hv hk,h1⟩
   ·rename_i hkeep
    have may : ∀ q b,keep q = false -> aM pl own q = some b -> Sh pl (bO own keep) b := by
     intro q b hkq hbi
     refine ⟨?_,fun j hj => ?_⟩
     ·rcases m.base q b hbi with h2 | h2
      ·exact (m.hS b).2 (.inr h2)
      ·exact absurd (hk100 q b h2) (by rw [hkq]; decide)
     ·rw [iI] at hj
      split at hj
      ·rename_i hkj
       have := m.inj q j b hbi hj
       subst this
       rw [hkq] at hkj; cases hkj
      ·cases hj
    have hki : keep i = false := by simpa using hkeep
    have hblk : ∀ b,(pl.sl i).1.map (·.block) = some b -> Sh pl (bO own keep) b := fun b hb => may i b hki (by simp only [aM,ho]; exact hb)
    obtain ⟨e,ov⟩ := e
    split
    ·rename_i hov
     have hov : ov = [] := hov
     subst hov
     rw [hv hk]
     exact oM (m.obj i _ ho) hblk T
    ·rename_i x d rest hov
     have hov : ov = [(0,.d x)] := hov
     subst hov
     obtain ⟨xs,hx,hr,hs⟩ := m.obj i _ ho
     rw [hv hk]
     refine nS (es := [x] :: rest) hx hblk ⟨by simpa using hr.1,fun j d' u hd hu => ?_⟩ (fun ds hds => ?_)
     ·cases j with
      | zero =>
       simp only [List.flatten_cons,List.cons_append,cz,oIQ] at hd
       subst hd
       exact T _ _ (hr.2 0 d u (by simp) hu)
      | succ j => exact T _ _ (hr.2 (j + 1) d' u (by simpa using hd) hu)
     ·rcases mc.1 hds with rfl | hds
      ·rfl
      ·exact hs ds (by simp [hds])
    ·rename_i j kj d rest hov
     have hov : ov = [(0,.ar j kj)] := hov
     subst hov
     split
     ·rename_i kj' ej szj esj hoj
      split
      ·rename_i hkk2
       simp only [bIQ,beq_iff_eq,Bool.not_eq_true'] at hkk2
       obtain ⟨rfl,hkj⟩ := hkk2
       obtain ⟨xs,hx,hr,hs⟩ := m.obj i _ ho
       rw [hv hk]
       refine nS (es := [.sl szj esj] :: rest) hx hblk ⟨by simpa using hr.1,fun q d' u hd hu => ?_⟩ (fun ds hds => ?_)
       ·cases q with
        | zero =>
         simp only [List.flatten_cons,List.cons_append,cz,oIQ] at hd
         subst hd
         have hc : COk w pl own (.ar j kj') u := hr.2 0 d u (by simp) hu
         rw [cD (w := w) hc hoj]
         exact oM (m.obj j _ hoj) (fun b hb => may j b hkj (by simp only [aM,hoj]; exact hb)) T
        | succ q => exact T _ _ (hr.2 (q + 1) d' u (by simpa using hd) hu)
       ·rcases mc.1 hds with rfl | hds
        ·rfl
        ·exact hs ds (by simp [hds])
      ·exact h1
     ·exact h1
    ·split
     ·rename_i l hmk hl
      exact rows_rd m ho hmk hl (hv hk) hblk may T
     ·exact h1
    ·exact h1
  ·exact h1
 | pe ds off =>
  obtain ⟨b,o,cs,e,fz,us,hv,hF,hb,hd⟩ := h
  exact ⟨b,o,cs,e,fz,us,hv,sR hF,hb,fun j d hj => ⟨(hd j d hj).1,T _ _ (hd j d hj).2⟩⟩
 | ea i k idx off =>
  simp only [gR]
  obtain ⟨k',e,sz,es,ho,hkk,hv,h1⟩ := h
  rw [ho]
  simp only
  split
  ·rename_i hk
   simp only [bIQ,beq_iff_eq] at hk
   exact ⟨0,_,sz,es,by simp [bO,hk.2,ho,j8]; rfl,lr _,fun _ => hv hk.1,h1⟩
  ·exact h1
 | pg g off => exact h
 | sd i k => exact hone
 | fn f l m =>
  simp only [gR]
  split
  ·rename_i hk
   obtain ⟨h1,h2⟩ := h
   refine ⟨fun x hx => ?_,h2⟩
   obtain ⟨ty,cs,ho⟩ := h1 x hx
   exact ⟨ty,cs.map (gR own keep),by simp [bO,at1.1 hk x hx,ho,j8]⟩
  ·exact hone
 | mp i =>
  simp only [gR]
  split
  ·rename_i hk
   obtain ⟨⟨ty,cs,ho⟩,hv⟩ := h
   exact ⟨⟨ty,cs.map (gR own keep),by simp [bO,hk,ho,j8]⟩,hv⟩
  ·exact hone
 | yl i =>
  simp only [gR]
  split
  ·rename_i hk
   obtain ⟨⟨ty,cs,ho⟩,hv⟩ := h
   exact ⟨⟨ty,cs.map (gR own keep),by simp [bO,hk,ho,j8]⟩,hv⟩
  ·exact hone
 | ib t i =>
  simp only [gR]
  split
  ·rename_i hk
   obtain ⟨⟨ty,cs,ho⟩,hv⟩ := h
   exact ⟨⟨ty,cs.map (gR own keep),by simp [bO,hk,ho,j8]⟩,hv⟩
  ·exact hone
 | av i k l n => exact hone
 | nn => exact h
 | any => exact h
theorem nH {α α' β : Type} {R : α -> β -> Prop} {S : α' -> β -> Prop} {f : α -> α'} (hf : ∀ x y,R x y -> S (f x) y) {xs : List α} {ys : List β} (h : All2 R xs ys) : All2 S (xs.map f) ys := by
 refine ⟨by simpa using h.1,fun j x y hx hy => ?_⟩
 simp only [List.getElem?_map,me] at hx
 obtain ⟨x',hx',rfl⟩ := hx
 exact hf _ _ (h.2 j x' y hx' hy)
theorem tC (m : Mem fr own w pl) (hk100 : ∀ i b,(i,b) ∈ fr.X -> keep i = true) {s : SV} {v : Value} (h : aV w pl own s v) : aV w pl (bO own keep) (uP own keep s) v := by
 cases s with
 | c x => exact iN m hk100 h
 | agg xs => obtain ⟨vs,rfl,h2⟩ := h; exact ⟨vs,rfl,nH (fun _ _ h => iN m hk100 h) h2⟩
 | tup xs =>
  obtain ⟨vs,rfl,h2⟩ := h
  refine ⟨vs,rfl,nH (fun p y hp => ?_) h2⟩
  obtain ⟨b,cs⟩ := p
  cases b with
  | true => obtain ⟨us,rfl,h3⟩ := hp; exact ⟨us,rfl,nH (fun _ _ h => iN m hk100 h) h3⟩
  | false =>
   match cs,hp with
   | [c],hp => exact iN m hk100 hp
theorem q5 (m : Mem fr own w pl) (hk100 : ∀ i,i < 100 -> keep i = true) {s : SV} {v : Value} (h : aV w pl own s v) : aV w pl (bO own keep) (uP own keep s) v := tC m (fun i b h => hk100 i (m.frOk.few i b h)) h
theorem kN (m : Mem fr own w pl) (hk : ∀ i b,(i,b) ∈ fr.X -> keep i = true) : Mem fr (bO own keep) w pl := by
 refine ⟨m.frOk,m.hS,fun i o ho => ?_,fun i j b hi hj => ?_,fun i b hi => ?_,fun i b hi => ?_,m.os,m.tape,m.output,m.grow,m.keep,fun i ty cs b hi hb => ?_⟩
 unfold bO at ho
 split at ho
 split at ho
 rename_i o' ho'
 simp only [oIQ] at ho
 subst ho
 have hobj := m.obj i o' ho'
 cases o' with
 | box ty cells => obtain ⟨vs,h1,h2⟩ := hobj; exact ⟨vs,h1,nH (fun _ _ h => iN m hk h) h2⟩
 | arr k e sz es =>
  obtain ⟨xs,h1,h2,h3⟩ := hobj
  refine ⟨xs,by show ownsQ (mkd (e.ov.map fun x => (x.1,gR own keep x.2))) w _ _ _ _ _ _; rw [aG8 (fun x => gR own keep x.2)]; exact h1,⟨h2.1,fun q d x hd hx => ?_⟩,h3⟩
  have hh := h2.2 q d x hd hx
  show aGJ w _ _ d x ((e.ov.map fun x => (x.1,gR own keep x.2)).lookup q)
  rw [lP]
  cases ho : e.ov.lookup q with
  | none => rw [ho] at hh; exact Rd.frame (fun _ _ _ => rfl) (fun _ _ h => sR h) hh
  | some c => rw [ho] at hh; exact iN m hk hh
 cases ho
 cases ho
 rw [iI] at hi hj
 split at hi
 split at hj
 exact m.inj i j b hi hj
 cases hj
 cases hi
 rw [iI] at hi
 split at hi
 exact m.base i b hi
 cases hi
 rcases m.bor i b hi with ⟨ty,cs,h1,h2⟩ | ⟨k,e,sz,es,h1⟩
 exact .inl ⟨ty,cs.map (gR own keep),by simp [bO,hk i b hi,h1,j8],h2⟩
 exact .inr ⟨0,_,sz,es,by simp [bO,hk i b hi,h1,j8]; rfl⟩
 unfold bO at hi
 split at hi
 split at hi
 rename_i o' ho'
 simp only [oIQ] at hi
 cases o' with
 | box ty' cells => simp only [j8,Ob.box.injEq] at hi; obtain ⟨rfl,_⟩ := hi; exact m.pin i _ _ b ho' hb
 | arr k e sz es => simp only [j8] at hi; cases hi
 cases hi
 cases hi
theorem mX (m : Mem fr own w pl) (hk : ∀ i,i < 100 -> keep i = true) : Mem fr (bO own keep) w pl := kN m fun i b h => hk i (m.frOk.few i b h)
end
def fW (ids : List Nat) (i : Nat) : Bool := decide (i < 100) || ids.contains i
def eL (ids : List Nat) (st : St) : St :=
 ⟨st.env.map (fun e => (e.1,e.2.1,uP (lookO st.own) (fW ids) e.2.2)),(st.own.filter (fun e => fW ids e.1)).map (fun e => (e.1,j8 (lookO st.own) (fW ids) e.2))⟩
theorem vV (f : SV -> SV) : ∀ (env : cO) (u : Nat),aL (env.map (fun e => (e.1,e.2.1,f e.2.2))) u = (aL env u).map fun x => (x.1,f x.2)
 | [],u => rfl
 | e :: r,u => by
  simp only [mp1,aL]
  split
  rfl
  exact vV f r u
theorem iZ (own : Own) (keep : Nat -> Bool) : ∀ (l : bR) (i : Nat),lookO ((l.filter (fun e => keep e.1)).map (fun e => (e.1,j8 own keep e.2))) i = if keep i then (lookO l i).map (j8 own keep) else none
 | [],i => by simp [lookO]
 | e :: r,i => by
  have ih := iZ own keep r i
  simp only [List.filter_cons]
  by_cases he : keep e.1 = true
  rw [if_pos he]
  simp only [mp1,lookO]
  by_cases hi : e.1 = i
  have : (e.1 == i) = true := by simpa using hi
  rw [this,<- hi]
  simp [he]
  have : (e.1 == i) = false := by simpa using hi
  rw [this]
  simpa using ih
  rw [if_neg he,ih]
  by_cases hi : e.1 = i
  rw [<- hi]; simp [he]
  have : (e.1 == i) = false := by simpa using hi
  simp only [lookO,this]
  rfl
section
variable {fr : Fr} {n : Nat} {a : Act} {w : World}
theorem aFK {pl : Pl} {st : St} (ids : List Nat) (hl : fr.lat = []) (hok : Ok fr n (aL st.env) (lookO st.own) a w pl) : Ok fr n (aL (eL ids st).env) (lookO (eL ids st).own) a w pl := by
 have hown : lookO (eL ids st).own = bO (lookO st.own) (fW ids) := by
  funext i
  simp only [eL]
  rw [iZ]
  unfold bO
  cases lookO st.own i <;> rfl
 rw [hown]
 have hfe : ∀ t p sv,aL (eL ids st).env t = some (p,sv) -> ∃ sv',aL st.env t = some (p,sv') /\ sv = uP (lookO st.own) (fW ids) sv' := by
  intro t p sv hf
  simp only [eL,vV,me,pIQ] at hf
  obtain ⟨⟨p',sv'⟩,h1,h2,h3⟩ := hf
  simp only at h2 h3
  subst h2
  exact ⟨sv',h1,h3.symm⟩
 refine ⟨mX hok.mem (fun i hi => by simp [fW,hi]),hok.defers,hok.size,fun t p sv hf hh => ?_,fun t p sv hf hh => ?_,⟨fun q hq => (by rw [hl] at hq; cases hq),fun hf => ?_⟩⟩
 obtain ⟨sv',h1,rfl⟩ := hfe t p sv hf
 exact q5 hok.mem (fun i hi => by simp [fW,hi]) (hok.yes t p sv' h1 hh)
 obtain ⟨sv',h1,rfl⟩ := hfe t p sv hf
 exact hok.no t p sv' h1 hh
 obtain ⟨Ds,e1,e2,e3⟩ := hok.late.2 hf
 refine ⟨Ds,e1,e2,fun D hD => ⟨(e3 D hD).1,⟨(e3 D hD).2.1.1,fun i hi => (e3 D hD).2.1.2 i ?_⟩,(e3 D hD).2.2⟩⟩
 rw [iI] at hi
 split at hi
 exact hi
 cases hi
theorem nZ {st : St} (ids : List Nat) (hl : fr.lat = []) (h : OkS fr n st a w) : OkS fr n (eL ids st) a w := by
 obtain ⟨pl,hok⟩ := h
 exact ⟨pl,aFK ids hl hok⟩
theorem sel_okP {pl : Pl} {st st' : St} (he : st'.env.map (fun e => aL st.env e.1) = st'.env.map (fun e => some e.2)) (ho : st'.own.map (fun e => lookO st.own e.1) = st'.own.map (fun e => some e.2)) (hk : ∀ i o,lookO st.own i = some o -> ∃ o',lookO st'.own i = some o')
  (hok : Ok fr n (aL st.env) (lookO st.own) a w pl) : Ok fr n (aL st'.env) (lookO st'.own) a w pl := by
 have e1 : ∀ u x,aL st'.env u = some x -> aL st.env u = some x := by
  intro u x hf
  have : ∃ e ∈ st'.env,e.1 = u /\ e.2 = x := by
   have : ∀ (l : cO),aL l u = some x -> ∃ e ∈ l,e.1 = u /\ e.2 = x := by
    intro l
    induction l with
    | nil => intro h; simp [aL] at h
    | cons e r ih =>
     intro h
     simp only [aL] at h
     split at h
     rename_i hu; simp only [beq_iff_eq] at hu; simp only [oIQ] at h; exact ⟨e,by simp,hu,h⟩
     obtain ⟨e',h1,h2⟩ := ih h; exact ⟨e',by simp [h1],h2⟩
   exact this _ hf
  obtain ⟨e,hm,rfl,rfl⟩ := this
  exact List.map_inj_left.1 he e hm
 have e2 : lookO st'.own = lookO st.own := by
  funext i
  cases h' : lookO st'.own i with
  | some o =>
   have hm := iG h'
   exact (List.map_inj_left.1 ho (i,o) hm).symm
  | none =>
   cases h'' : lookO st.own i with
   | none => rfl
   | some o => obtain ⟨o',h3⟩ := hk i o h''; rw [h'] at h3; cases h3
 rw [e2]; exact zT hok fun u q sv h => e1 u _ h
theorem aER {st st' : St} (he : st'.env.map (fun e => aL st.env e.1) = st'.env.map (fun e => some e.2)) (ho : st'.own.map (fun e => lookO st.own e.1) = st'.own.map (fun e => some e.2)) (hk : ∀ i o,lookO st.own i = some o -> ∃ o',lookO st'.own i = some o')
  (h : OkS fr n st a w) : OkS fr n st' a w := by
 obtain ⟨pl,hok⟩ := h
 exact ⟨pl,sel_okP he ho hk hok⟩
end
end Go.V
