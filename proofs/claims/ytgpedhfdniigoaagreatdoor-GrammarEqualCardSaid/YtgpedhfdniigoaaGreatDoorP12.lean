/- Part 12 of the proof. -/
import Derived.Test.YtgpedhfdniigoaaGreatDoorP11
set_option linter.all false
namespace Go.V
open Go.RowKit
def aDO (ob : Own) (rs : List Nat) : C -> C
 | .d x => .d x
 | .bx j off => match rs.idxOf? j with
  | some r => .bx r off
  | none => .any
 | .ar j k => match rs.idxOf? j,ob j with
  | some r,some (.arr k' _ _ _) => if k' == k then .ar r 0 else .any
  | _,_ => .any
 | .pg g off => .pg g off
 | .fn f l m => match mU (fun j => rs.idxOf? j) l,mU (fun j => rs.idxOf? j) m with
  | some l',some m' => .fn f l' m'
  | _,_ => .any
 | .mp j => match rs.idxOf? j with
  | some r => .mp r
  | none => .any
 | .ib t j => match rs.idxOf? j with
  | some r => .ib t r
  | none => .any
 | _ => .any
def vP (ob : Own) (rs : List Nat) : Ob -> Ob
 | .box ty cells => .box ty (cells.map (aDO ob rs))
 | .arr _ e sz es => .arr 0 ⟨e.e,e.ov.map fun x => (x.1,aDO ob rs x.2)⟩ sz es
def o8 (ob : Own) (rs : List Nat) : Nat -> List Nat -> Option (List (Nat × Ob))
 | _,[] => some []
 | k,j :: r => match ob j,o8 ob rs (k + 1) r with
  | some o,some l => some ((k,vP ob rs o) :: l)
  | _,_ => none
def argG (ob : Own) (rs : List Nat) : C -> Option (C × List Nat)
 | .d x => some (.d x,[])
 | .pg g off => some (.pg g off,[])
 | .ar j k => match ob j with
  | some (.arr k' ⟨_,[]⟩ sz es) => if k' == k then (match rs.idxOf? j with
   | some r => some (.ar r 0,[])
   | none => some (.d (.sl sz es),[j])) else none
  | _ => none
 | .bx j off => match rs.idxOf? j with
  | some r => some (.bx r off,[])
  | none => none
 | .fn f l m => match mU (fun j => rs.idxOf? j) l,mU (fun j => rs.idxOf? j) m with
  | some l',some m' => some (.fn f l' m',[])
  | _,_ => none
 | .mp j => match rs.idxOf? j with
  | some r => some (.mp r,[])
  | none => none
 | .ib t j => match rs.idxOf? j with
  | some r => some (.ib t r,[])
  | none => none
 | _ => none
def aEC (ob : Own) (rs : List Nat) : List C -> Option (List C × List Nat)
 | [] => some ([],[])
 | c :: r => match argG ob rs c,aEC ob rs r with
  | some (x,t),some (l,u) => some (x :: l,t ++ u)
  | _,_ => none
def aM2 (ob : Own) (rs : List Nat) : SV -> Option (SV × List Nat)
 | .c x => match argG ob rs x with
  | some (y,t) => some (.c y,t)
  | none => none
 | .agg xs => match aEC ob rs xs with
  | some (ys,t) => some (.agg ys,t)
  | none => none
 | .tup _ => none
def tQ (ob : Own) (rs : List Nat) : List SV -> Option (List SV × List Nat)
 | [] => some ([],[])
 | c :: r => match aM2 ob rs c,tQ ob rs r with
  | some (x,t),some (l,u) => some (x :: l,t ++ u)
  | _,_ => none
def nmG (rs : List Nat) (nid i : Nat) : Option Nat := if i < 100 then rs[i]? else some (nid + (i - 100))
def shG (ob : Own) (rs : List Nat) (i : Nat) : Nat := if i < 100 then (match rs[i]? with
 | some j => (match ob j with
  | some (.arr k _ _ _) => k + 1
  | _ => 0)
 | none => 0) else 0
def bkC (ob : Own) (rs : List Nat) (nid : Nat) (flat : Bool) : C -> Option C
 | .d (.v x) => some (.d (.v x))
 | .d (.sl sz es) => if flat then none else some (.d (.sl sz es))
 | .bx i off => match nmG rs nid i with
  | some j => some (.bx j off)
  | none => none
 | .ar i k => match nmG rs nid i with
  | some j => some (.ar j (shG ob rs i + k))
  | none => none
 | .pg g off => some (.pg g off)
 | .fn f l m => match mU (nmG rs nid) l,mU (nmG rs nid) m with
  | some l',some m' => some (.fn f l' m')
  | _,_ => none
 | .mp i => match nmG rs nid i with
  | some j => some (.mp j)
  | none => none
 | .ib t i => match nmG rs nid i with
  | some j => some (.ib t j)
  | none => none
 | .nn => some .nn
 | .any => some .any
 | _ => none
def bkL (ob : Own) (rs : List Nat) (nid : Nat) (flat : Bool) : List C -> Option (List C)
 | [] => some []
 | c :: r => match bkC ob rs nid flat c,bkL ob rs nid flat r with
  | some x,some l => some (x :: l)
  | _,_ => none
def bkP (ob : Own) (rs : List Nat) (nid : Nat) (flat : Bool) : List (Bool × List C) -> Option (List (Bool × List C))
 | [] => some []
 | (b,c) :: r => match bkL ob rs nid flat c,bkP ob rs nid flat r with
  | some x,some l => some ((b,x) :: l)
  | _,_ => none
def bkS (ob : Own) (rs : List Nat) (nid : Nat) (flat : Bool) : SV -> Option SV
 | .c x => match bkC ob rs nid flat x with
  | some y => some (.c y)
  | none => none
 | .agg xs => match bkL ob rs nid flat xs with
  | some y => some (.agg y)
  | none => none
 | .tup xs => match bkP ob rs nid flat xs with
  | some y => some (.tup y)
  | none => none
def bkV (ob : Own) (rs : List Nat) (nid : Nat) (flat : Bool) : List (Nat × C) -> Option (List (Nat × C))
 | [] => some []
 | (q,c) :: r => match bkC ob rs nid flat c,bkV ob rs nid flat r with
  | some c',some r' => some ((q,c') :: r')
  | _,_ => none
theorem aD5 {ob : Own} {rs : List Nat} {nid : Nat} {flat : Bool} : ∀ {l l' : List (Nat × C)},bkV ob rs nid flat l = some l' -> mkd l' = mkd l /\ ∀ q,match l.lookup q with
  | none => l'.lookup q = none
  | some c => ∃ c',l'.lookup q = some c' /\ bkC ob rs nid flat c = some c'
 | [],l',h => by simp only [bkV,oIQ] at h; subst h; exact ⟨rfl,fun q => rfl⟩
 | (p,c) :: r,l',h => by
  simp only [bkV] at h
  split at h
  rename_i c' r' h1 h2
  simp only [oIQ] at h
  subst h
  obtain ⟨h3,h4⟩ := aD5 h2
  refine ⟨by simp only [mkd,List.any_cons] at h3 ⊢; rw [h3],fun q => ?_⟩
  simp only [List.lookup]
  cases hq : q == p with
  | true => exact ⟨c',rfl,h1⟩
  | false => exact h4 q
  cases h
def bkO (ob : Own) (rs : List Nat) (nid : Nat) (flat : Bool) (i : Nat) : Ob -> Option Ob
 | .box ty cells => match bkL ob rs nid flat cells with
  | some l => some (.box ty l)
  | none => none
 | .arr k ⟨e,ov⟩ sz es => match bkV ob rs nid flat ov with
  | some ov' => some (.arr (shG ob rs i + k) ⟨e,ov'⟩ sz es)
  | none => none
def bkE (ob : Own) (rs : List Nat) (nid : Nat) (flat : Bool) : List (Nat × Ob) -> Option (List (Nat × Nat × Ob × Ob))
 | [] => some []
 | (i,u) :: r => match nmG rs nid i,bkO ob rs nid flat i u,bkE ob rs nid flat r with
  | some j,some u',some l => some ((j,i,u,u') :: l)
  | _,_,_ => none
def tS : Option Ob -> Option Ob -> Bool
 | some (.box _ _),some (.box _ _) => true
 | some (.arr _ _ _ _),some (.arr _ _ _ _) => true
 | _,_ => false
def lW (S : List SV -> List (Nat × Ob) -> SV -> List (Nat × Ob) -> Prop) (ob : Own) (osv : Option (List SV)) (nid : Nat) (out : SV) (rs : List Nat) (post : List (Nat × Ob)) : Option Eff :=
 match osv with
 | some svs => match tQ ob rs svs,o8 ob rs 0 rs with
  | some (ins,ars),some refs => match bkE ob rs nid (!ars.isEmpty) post,bkS ob rs nid (!ars.isEmpty) out with
   | some be,some out' =>
    if decide (rs.Nodup) && decide ((post.map (·.1)).Nodup) && decide (rs.length <= 100) && be.all (fun x => decide (x.2.1 < 100) || (ob x.1).isNone) && decide ((be.map (·.1)).Nodup) && (rs.zipIdx.all fun x => tS (ob x.1) (lookO post x.2)) then
     some ⟨out',be.map (fun x => (x.1,x.2.2.2)),rs ++ ars ++ be.map (·.1),.call (S ins refs out post) :: (if ars.isEmpty then [] else post.flatMap fun x => vU x.2)⟩
    else none
   | _,_ => none
  | _,_ => none
 | none => none
def tG (P : Program) (G : List (Nat × List Value)) (ob : Own) (f : FuncId) (osv : Option (List SV)) (nid : Nat) (hint : Hint) : Option Eff := match hint with
 | .callG out rs post => lW (Spec P G f) ob osv nid out rs post
 | h => aMS P G ob f osv nid h
theorem wH {α α' β : Type} {R : α -> β -> Prop} {S : α' -> β -> Prop} {f : α -> α'} (hf : ∀ x y,R x y -> S (f x) y) {xs : List α} {ys : List β} (h : All2 R xs ys) : All2 S (xs.map f) ys := by
 refine ⟨by simpa using h.1,fun j x y hx hy => ?_⟩
 simp only [List.getElem?_map,me] at hx
 obtain ⟨x',hx',rfl⟩ := hx
 exact hf _ _ (h.2 j x' y hx' hy)
section
variable {P : Program} {fr : Fr} {own own0 : Own} {a : Act} {w w' : World} {pl pl0 : Pl} {o : Oper} {p : Path} {lk : Lk}
theorem kO {rs : List Nat} {j r : Nat} (h : rs.idxOf? j = some r) : rs[r]? = some j := by
 obtain ⟨hlt,hb,_⟩ := List.findIdx?_eq_some_iff_getElem.1 h
 rw [ge hlt]
 simpa using hb
theorem sU {ob : Own} {rs : List Nat} : ∀ {l : List Nat} {k : Nat} {refs : List (Nat × Ob)},o8 ob rs k l = some refs ->
  (∀ i,lookO refs i = match (if k <= i then l[i - k]? else none) with
   | some j => (ob j).map (vP ob rs)
   | none => none) /\ ∀ j ∈ l,∃ o,ob j = some o
 | [],k,refs,h => by
  simp only [o8,oIQ] at h
  subst h
  exact ⟨fun i => by simp [lookO],by simp⟩
 | j :: r,k,refs,h => by
  simp only [o8] at h
  split at h
  rename_i o l' hj hl'
  simp only [oIQ] at h
  subst h
  obtain ⟨h1,h2⟩ := sU hl'
  refine ⟨fun i => ?_,fun x hx => ?_⟩
  simp only [lookO]
  by_cases hik : k = i
  subst hik
  simp [hj]
  have : (k == i) = false := by simpa using hik
  rw [this,h1 i]
  simp only [Bool.false_eq_true,if_false]
  by_cases hle : k + 1 <= i
  rw [if_pos hle,if_pos (by omega)]
  have : i - k = (i - (k + 1)) + 1 := by omega
  rw [this,List.getElem?_cons_succ]
  rw [if_neg hle,if_neg (by omega)]
  rcases mc.1 hx with rfl | hx
  exact ⟨o,hj⟩
  exact h2 x hx
  cases h
structure Hand (w : World) (pl : Pl) (own : Own) (ob : Own) (rs : List Nat) (pl0 : Pl) (own0 : Own) : Prop where
 rd : ∀ d v,Rd w (Sh pl own) d v -> Rd w (Sh pl0 own0) d v
 same : ∀ j ∈ rs,own j = ob j
 at_ : ∀ r j,rs[r]? = some j -> ∃ o,own j = some o /\ own0 r = some (vP ob rs o)
 blk : ∀ r j,rs[r]? = some j -> pl0.blk r = pl.blk j
 sl : ∀ r j,rs[r]? = some j -> pl0.sl r = pl.sl j
variable {ob : Own} {rs : List Nat}
theorem Hand.bx (H : Hand w pl own ob rs pl0 own0) {j r off : Nat} {v : Value} (hr : rs[r]? = some j) (h : COk w pl own (.bx j off) v) : COk w pl0 own0 (.bx r off) v := by
 obtain ⟨⟨ty,cs,ho⟩,rfl⟩ := h
 obtain ⟨o,h1,h2⟩ := H.at_ r j hr
 rw [ho] at h1
 simp only [oIQ] at h1
 subst h1
 exact ⟨⟨ty,_,h2⟩,by rw [H.blk r j hr]⟩
theorem Hand.ar (H : Hand w pl own ob rs pl0 own0) {j r k sz : Nat} {e : AT} {es : LD} {v : Value} (hr : rs[r]? = some j) (ho : own j = some (.arr k e sz es)) (h : COk w pl own (.ar j k) v) : COk w pl0 own0 (.ar r 0) v := by
 obtain ⟨k',e',sz',es',ho',hk,hv,h1⟩ := h
 rw [ho] at ho'
 simp only [oIQ,Ob.arr.injEq] at ho'
 obtain ⟨rfl,rfl,rfl,rfl⟩ := ho'
 obtain ⟨o,h3,h2⟩ := H.at_ r j hr
 rw [ho] at h3
 simp only [oIQ] at h3
 subst h3
 exact ⟨0,_,sz,es,h2,lr _,fun _ => by rw [hv rfl,H.sl r j hr],h1⟩
theorem Hand.box (H : Hand w pl own ob rs pl0 own0) {i j : Nat} (h : rs.idxOf? i = some j) {ty : BT} {cs : List C} (ho : own i = some (.box ty cs)) : (∃ ty cs,own0 j = some (.box ty cs)) /\ pl0.blk j = pl.blk i := by
 obtain ⟨o,h1,h2⟩ := H.at_ j i (kO h)
 rw [ho] at h1
 simp only [oIQ] at h1
 subst h1
 exact ⟨⟨ty,_,h2⟩,H.blk j i (kO h)⟩
theorem Hand.c (H : Hand w pl own ob rs pl0 own0) {c : C} {v : Value} (h : COk w pl own c v) : COk w pl0 own0 (aDO ob rs c) v := by
 have h1 := COk.one h
 unfold aDO
 split
 exact H.rd _ _ h
 split
 rename_i r hr; exact H.bx (kO hr) h
 exact h1
 split
 rename_i j k _ _ r k' e sz es hr ho
 split
 rename_i hk
 simp only [beq_iff_eq] at hk
 subst hk
 have hj := kO hr
 exact H.ar hj (by rw [H.same j (List.mem_of_getElem? hj)]; exact ho) h
 exact h1
 exact h1
 exact h
 split
 rename_i h2 h3; exact aAT (fun i j hj ty cs ho => H.box hj ho) h2 h3 h
 exact h1
 split
 rename_i h2; exact aAD (g := fun j => rs.idxOf? j) (fun i j hj ty cs ho => H.box hj ho) h2 h
 exact h1
 split
 rename_i h2; exact aAP (g := fun j => rs.idxOf? j) (fun i j hj ty cs ho => H.box hj ho) h2 h
 exact h1
 exact h1
theorem aH0 (H : Hand w pl own ob rs pl0 own0) {c c' : C} {t : List Nat} {v : Value} (hob : ∀ j ∈ t,own j = ob j)
  (T2 : ∀ j ∈ t,j ∉ rs -> ∀ k (e : TypeId) sz es,own j = some (.arr k ⟨e,[]⟩ sz es) -> Rd w (Sh pl0 own0) (.sl sz es) (.slice (pl.sl j).1 es.length (pl.sl j).2)) (h : argG ob rs c = some (c',t)) (hv : COk w pl own c v) : COk w pl0 own0 c' v := by
 unfold argG at h
 split at h
 simp only [oIQ,pIQ] at h; obtain ⟨rfl,rfl⟩ := h; exact H.rd _ _ hv
 simp only [oIQ,pIQ] at h; obtain ⟨rfl,rfl⟩ := h; exact hv
 rename_i j k
 split at h
 rename_i k' e sz es hj
 split at h
 rename_i hk
 simp only [beq_iff_eq] at hk
 subst hk
 split at h
 rename_i r hr
 simp only [oIQ,pIQ] at h
 obtain ⟨rfl,rfl⟩ := h
 have hj2 := kO hr
 exact H.ar hj2 (by rw [H.same j (List.mem_of_getElem? hj2)]; exact hj) hv
 rename_i hr
 simp only [oIQ,pIQ] at h
 obtain ⟨rfl,rfl⟩ := h
 have hj' : own j = some (.arr k' ⟨e,[]⟩ sz es) := by rw [hob j (by simp),hj]
 have := cD (w := w) hv hj'
 rw [this]
 exact T2 j (by simp) (List.idxOf?_eq_none_iff.1 hr) k' e sz es hj'
 cases h
 cases h
 split at h
 rename_i r hr
 simp only [oIQ,pIQ] at h
 obtain ⟨rfl,rfl⟩ := h
 exact H.bx (kO hr) hv
 cases h
 split at h
 rename_i h2 h3
 simp only [oIQ,pIQ] at h
 obtain ⟨rfl,rfl⟩ := h
 exact aAT (fun i j hj ty cs ho => H.box hj ho) h2 h3 hv
 cases h
 split at h
 rename_i h2
 simp only [oIQ,pIQ] at h
 obtain ⟨rfl,rfl⟩ := h
 exact aAD (g := fun j => rs.idxOf? j) (fun i j hj ty cs ho => H.box hj ho) h2 hv
 cases h
 split at h
 rename_i h2
 simp only [oIQ,pIQ] at h
 obtain ⟨rfl,rfl⟩ := h
 exact aAP (g := fun j => rs.idxOf? j) (fun i j hj ty cs ho => H.box hj ho) h2 hv
 cases h
 cases h
theorem aEB (H : Hand w pl own ob rs pl0 own0) : ∀ {cs cs' : List C} {t : List Nat} {vs : List Value},(∀ j ∈ t,own j = ob j) ->
  (∀ j ∈ t,j ∉ rs -> ∀ k (e : TypeId) sz es,own j = some (.arr k ⟨e,[]⟩ sz es) -> Rd w (Sh pl0 own0) (.sl sz es) (.slice (pl.sl j).1 es.length (pl.sl j).2)) -> aEC ob rs cs = some (cs',t) -> All2 (COk w pl own) cs vs -> All2 (COk w pl0 own0) cs' vs
 | [],cs',t,vs,_,_,h,hv => by simp only [aEC,oIQ,pIQ] at h; obtain ⟨rfl,rfl⟩ := h; rw [hv.unnil]; exact All2.nil
 | c :: r,cs',t,vs,hob,T2,h,hv => by
  simp only [aEC] at h
  split at h
  rename_i x t1 l t2 hx hl
  simp only [oIQ,pIQ] at h
  obtain ⟨rfl,rfl⟩ := h
  obtain ⟨y,r',rfl,h1,h2⟩ := hv.uncons
  exact All2.cons (aH0 H (fun j hj => hob j (by simp [hj])) (fun j hj => T2 j (by simp [hj])) hx h1) (aEB H (fun j hj => hob j (by simp [hj])) (fun j hj => T2 j (by simp [hj])) hl h2)
  cases h
theorem aM1 (H : Hand w pl own ob rs pl0 own0) {s s' : SV} {t : List Nat} {v : Value} (hob : ∀ j ∈ t,own j = ob j)
  (T2 : ∀ j ∈ t,j ∉ rs -> ∀ k (e : TypeId) sz es,own j = some (.arr k ⟨e,[]⟩ sz es) -> Rd w (Sh pl0 own0) (.sl sz es) (.slice (pl.sl j).1 es.length (pl.sl j).2)) (h : aM2 ob rs s = some (s',t)) (hv : aV w pl own s v) : aV w pl0 own0 s' v := by
 unfold aM2 at h
 split at h
 split at h
 rename_i y t' hy
 simp only [oIQ,pIQ] at h
 obtain ⟨rfl,rfl⟩ := h
 exact aH0 H hob T2 hy hv
 cases h
 split at h
 rename_i y t' hy
 simp only [oIQ,pIQ] at h
 obtain ⟨rfl,rfl⟩ := h
 obtain ⟨vs,rfl,h2⟩ := hv
 exact ⟨vs,rfl,aEB H hob T2 hy h2⟩
 cases h
 cases h
theorem aEA (H : Hand w pl own ob rs pl0 own0) : ∀ {cs cs' : List SV} {t : List Nat} {vs : List Value},(∀ j ∈ t,own j = ob j) ->
  (∀ j ∈ t,j ∉ rs -> ∀ k (e : TypeId) sz es,own j = some (.arr k ⟨e,[]⟩ sz es) -> Rd w (Sh pl0 own0) (.sl sz es) (.slice (pl.sl j).1 es.length (pl.sl j).2)) -> tQ ob rs cs = some (cs',t) -> All2 (aV w pl own) cs vs -> All2 (aV w pl0 own0) cs' vs
 | [],cs',t,vs,_,_,h,hv => by simp only [tQ,oIQ,pIQ] at h; obtain ⟨rfl,rfl⟩ := h; rw [hv.unnil]; exact All2.nil
 | c :: r,cs',t,vs,hob,T2,h,hv => by
  simp only [tQ] at h
  split at h
  rename_i x t1 l t2 hx hl
  simp only [oIQ,pIQ] at h
  obtain ⟨rfl,rfl⟩ := h
  obtain ⟨y,r',rfl,h1,h2⟩ := hv.uncons
  exact All2.cons (aM1 H (fun j hj => hob j (by simp [hj])) (fun j hj => T2 j (by simp [hj])) hx h1) (aEA H (fun j hj => hob j (by simp [hj])) (fun j hj => T2 j (by simp [hj])) hl h2)
  cases h
def frG (fr : Fr) (own : Own) (w : World) (pl : Pl) (rs ars : List Nat) : Fr :=
 { w0 := w,X := rs.zipIdx.filterMap (fun x => (aM pl own x.1).map fun b => (x.2,b)),G := fr.G,F := fun b => b < w.heap.size /\ (Sh pl own b \/ ∃ j ∈ ars,j ∉ rs /\ aM pl own j = some b) }
def plG (fr : Fr) (own : Own) (w : World) (pl : Pl) (rs ars : List Nat) : Pl :=
 { S := fun b => (frG fr own w pl rs ars).F b \/ w.heap.size <= b,blk := fun r => pl.blk (rs.getD r 0),sl := fun r => pl.sl (rs.getD r 0) }
theorem mem_XG {ars : List Nat} {r b : Nat} : (r,b) ∈ (frG fr own w pl rs ars).X ↔ ∃ j,rs[r]? = some j /\ aM pl own j = some b := by
 simp only [frG,List.mem_filterMap,me,pIQ]
 constructor
 rintro ⟨⟨j,k⟩,hm,b',hb,rfl,rfl⟩
 refine ⟨j,?_,hb⟩
 obtain ⟨_,hlt,hv⟩ := List.mem_zipIdx hm
 simp only [Nat.zero_add,Nat.sub_zero] at hlt hv
 rw [ge hlt,hv]
 rintro ⟨j,hj,hb⟩
 refine ⟨(j,r),?_,b,hb,rfl,rfl⟩
 rw [List.mem_iff_getElem?]
 exact ⟨r,by simp [hj]⟩
theorem memG (m : Mem fr own w pl) {ars : List Nat} (hn : rs.Nodup) (h100 : rs.length <= 100) (hob : ∀ i ∈ rs,own i = ob i) {refs : List (Nat × Ob)} (hr : o8 ob rs 0 rs = some refs) :
  Mem (frG fr own w pl rs ars) (lookO refs) w (plG fr own w pl rs ars) /\ Hand w pl own ob rs (plG fr own w pl rs ars) (lookO refs) /\
   (∀ j ∈ ars,j ∉ rs -> ∀ k (e : TypeId) sz es,own j = some (.arr k ⟨e,[]⟩ sz es) -> Rd w (Sh (plG fr own w pl rs ars) (lookO refs)) (.sl sz es) (.slice (pl.sl j).1 es.length (pl.sl j).2)) := by
 obtain ⟨h1,h2⟩ := sU hr
 have hat : ∀ r j,rs[r]? = some j -> ∃ o,own j = some o /\ lookO refs r = some (vP ob rs o) := by
  intro r j hj
  obtain ⟨o,ho⟩ := h2 j (List.mem_of_getElem? hj)
  refine ⟨o,by rw [hob j (List.mem_of_getElem? hj)]; exact ho,?_⟩
  rw [h1 r]
  simp [hj,ho]
 have hlook : ∀ r o,lookO refs r = some o -> ∃ j,rs[r]? = some j := by
  intro r o ho
  rw [h1 r] at ho
  simp only [zl,if_true,Nat.sub_zero] at ho
  cases hj : rs[r]? with
  | none => rw [hj] at ho; cases ho
  | some j => exact ⟨j,rfl⟩
 have hblk : ∀ r j,rs[r]? = some j -> (plG fr own w pl rs ars).blk r = pl.blk j := fun r j hj => by simp [plG,hj]
 have hsl : ∀ r j,rs[r]? = some j -> (plG fr own w pl rs ars).sl r = pl.sl j := fun r j hj => by simp [plG,hj]
 have hbo : ∀ r j,rs[r]? = some j -> aM (plG fr own w pl rs ars) (lookO refs) r = aM pl own j := by
  intro r j hj
  obtain ⟨o,ho,ho2⟩ := hat r j hj
  unfold aM
  rw [ho,ho2,hblk r j hj,hsl r j hj]
  cases o <;> rfl
 have hb0 : ∀ r b,aM (plG fr own w pl rs ars) (lookO refs) r = some b -> ∃ j,rs[r]? = some j /\ aM pl own j = some b := by
  intro r b hb
  cases hl : lookO refs r with
  | none => simp [aM,hl] at hb
  | some o =>
   obtain ⟨j,hj⟩ := hlook r o hl
   exact ⟨j,hj,by rw [<- hbo r j hj]; exact hb⟩
 have T0 : ∀ b,b < w.heap.size -> Sh pl own b -> Sh (plG fr own w pl rs ars) (lookO refs) b := by
  intro b hb hs
  refine ⟨.inl ⟨hb,.inl hs⟩,fun r hr => ?_⟩
  obtain ⟨j,_,h6⟩ := hb0 r b hr
  exact hs.2 j h6
 have H : Hand w pl own ob rs (plG fr own w pl rs ars) (lookO refs) := ⟨fun d v h => Rd.frame (fun _ _ _ => rfl) T0 h,hob,hat,hblk,hsl⟩
 refine ⟨⟨⟨fun g cs hg => ?_,fun i b hb => ?_,fun i b hb => ?_⟩,fun b => Iff.rfl,fun r o ho => ?_,fun r s b hr hs => ?_,fun r b hb => ?_,fun r b hb => ?_,rfl,rfl,rfl,lr _,fun _ _ _ => rfl,fun r ty cs b ho hb => ?_⟩,H,?_⟩
 obtain ⟨⟨ty,fz,h3⟩,h4⟩ := m.frOk.glob g cs hg
 have hlt := (Array.getElem?_eq_some_iff.1 h3).1
 refine ⟨⟨ty,fz,(m.keep g hlt h4).trans h3⟩,fun i hi => ?_⟩
 obtain ⟨j,hj,hgj⟩ := mem_XG.1 hi
 rcases m.base j g hgj with h5 | h5
 have hlt2 : g < fr.w0.heap.size := hlt
 omega
 exact h4 j h5
 obtain ⟨j,hj,hb⟩ := mem_XG.1 hb
 exact m.blk_lt hb
 obtain ⟨j,hj,hb⟩ := mem_XG.1 hb
 have := (gsQ.1 hj).1
 omega
 obtain ⟨j,hj⟩ := hlook r o ho
 obtain ⟨u,hu,hu2⟩ := hat r j hj
 rw [hu2] at ho
 simp only [oIQ] at ho
 subst ho
 have hobj := m.obj j u hu
 cases u with
 | box ty cells =>
  obtain ⟨vs,hv,hc⟩ := hobj
  exact ⟨vs,by rw [hblk r j hj]; exact hv,wH (fun _ _ h => H.c h) hc⟩
 | arr k e sz es =>
  obtain ⟨xs,hx,hc,hs⟩ := hobj
  refine ⟨xs,by rw [hsl r j hj,aG8]; exact hx,⟨hc.1,fun q d x hd hx => ?_⟩,hs⟩
  have hh := hc.2 q d x hd hx
  show aGJ w _ _ d x ((e.ov.map fun x => (x.1,aDO ob rs x.2)).lookup q)
  rw [lP]
  cases ho : e.ov.lookup q with
  | none => rw [ho] at hh; exact H.rd d x hh
  | some c => rw [ho] at hh; exact H.c hh
 obtain ⟨i,hi,h6⟩ := hb0 r b hr
 obtain ⟨j,hj,h7⟩ := hb0 s b hs
 have hij := m.inj i j b h6 h7
 subst hij
 exact (List.getElem?_inj (gsQ.1 hi).1 hn).1 (hi.trans hj.symm)
 exact .inr (mem_XG.2 (hb0 r b hb))
 obtain ⟨j,hj,hbj⟩ := mem_XG.1 hb
 obtain ⟨u,hu,hu2⟩ := hat r j hj
 cases u with
 | box ty cells =>
  refine .inl ⟨ty,_,hu2,?_⟩
  rw [hblk r j hj]
  simp only [aM,hu,oIQ] at hbj
  exact hbj
 | arr k e sz es => exact .inr ⟨_,_,_,_,hu2⟩
 obtain ⟨j,hj⟩ := hlook r _ ho
 obtain ⟨u,hu,hu2⟩ := hat r j hj
 rw [hu2] at ho
 simp only [oIQ] at ho
 rw [hblk r j hj]
 cases u with
 | box ty' cells =>
  simp only [vP,Ob.box.injEq] at ho
  obtain ⟨rfl,_⟩ := ho
  exact m.pin j _ _ b hu hb
 | arr k e sz es => simp only [vP] at ho; cases ho
 intro j hj hjr k e sz es hj'
 refine oM (m.obj j _ hj') (fun b hb => ?_) H.rd
 have hbj : aM pl own j = some b := by simp only [aM,hj']; exact hb
 refine ⟨.inl ⟨m.blk_lt hbj,.inr ⟨j,hj,hjr,hbj⟩⟩,fun r hr => ?_⟩
 obtain ⟨i,hi,h6⟩ := hb0 r b hr
 have := m.inj i j b h6 hbj
 subst this
 exact hjr (List.mem_of_getElem? hi)
end
end Go.V
