/- Part 29 of the proof. -/
import Derived.Test.YtgpedhfdniigoaaGreatDoorP28
set_option linter.all false
namespace Go.V
open Go.RowKit
section
variable {P : Program} {R : Wp P} {fr : Fr} {n : Nat} {root : Code} {Q : Exit -> Act -> World -> Prop} {G : List (Nat × List Value)} {a : Act} {w : World}
def aLV : Option (Path × SV) -> Bool
 | some ([],.c (.d (.v (.slice none 0 0)))) => true
 | _ => false
def aLW : Option C -> Bool
 | some (.d (.v (.slice none 0 0))) => true
 | _ => false
def aGG (t id e sz : Nat) (st : St) : Option St :=
 if aLV (aL st.env t) && (lookO st.own id).isNone then some ⟨aKS st.env t ([],.c (.ar id 0)),(id,.arr 0 e sz []) :: st.own⟩ else none
def aGH (i j id e sz : Nat) (st : St) : Option St :=
 match lookO st.own i with
 | some (.box ⟨.c ty,q⟩ cells) => if aLW cells[j]? && (lookO st.own id).isNone then some ⟨st.env,aBC st.own [(id,.arr 0 e sz []),(i,.box ⟨.c ty,q⟩ (cells.set j (.ar id 0)))]⟩ else none
 | _ => none
theorem aK7 {own : Own} {pl : Pl} (m : Mem fr own w pl) {id : Nat} (hi : own id = none) (e sz : Nat) : ∃ pl',Mem fr (upd own id (.arr 0 e sz [])) w pl' /\ Later w pl own w pl' (upd own id (.arr 0 e sz [])) /\ COk w pl' (upd own id (.arr 0 e sz [])) (.ar id 0) (.slice none 0 0) := by
 obtain ⟨pl',m',L,hA⟩ := m.newArr (e := e) (sz := sz) (es := []) (w' := w) (A := none) (cap := 0) (xs := []) hi ⟨rfl,rfl,rfl,lr _,fun _ _ _ => rfl⟩ (World.ownsRow_nil w _ _ _) (fun ad h => by cases h) All2.nil (by simp)
 exact ⟨pl',m',L,0,e,sz,[],upd_same _ _ _,lr _,fun _ => by rw [hA]; rfl,rfl⟩
theorem aJK {st st' : St} {t id e sz : Nat} (h : aGG t id e sz st = some st') (hok : OkS fr n st a w) : OkS fr n st' a w := by
 unfold aGG at h
 split at h
 rename_i hc
 simp only [bIQ,Option.isNone_iff_eq_none] at hc
 simp only [oIQ] at h
 subst h
 obtain ⟨pl,hok⟩ := hok
 have hf : aL st.env t = some ([],.c (.d (.v (.slice none 0 0)))) := by
  have := hc.1
  unfold aLV at this
  split at this
  rename_i h; exact h
  cases this
 have hv : a.tmps.getD t undef = .slice none 0 0 := Rd.exact (hok.yes t [] _ hf holds_nil)
 obtain ⟨pl',m',L,hC⟩ := aK7 hok.mem hc.2 e sz
 have hown : lookO ((id,Ob.arr 0 e sz []) :: st.own) = upd (lookO st.own) id (.arr 0 e sz []) := by
  funext i
  by_cases hi : i = id
  subst hi; simp [lookO,upd]
  have : (id == i) = false := by simp; exact fun e => hi e.symm
  simp [lookO,this,upd,hi]
 have hok' := hok.later m' L
 refine ⟨pl',?_⟩
 simp only [hown,s4]
 refine ⟨m',hok'.defers,hok'.size,fun u p sv hu hh => ?_,fun u p sv hu hh => ?_,hok'.late⟩
 by_cases hut : u = t
 subst hut
 rw [upd_same] at hu
 simp only [oIQ,pIQ] at hu
 obtain ⟨rfl,rfl⟩ := hu
 rw [hv]; exact hC
 rw [upd_ne _ _ hut] at hu; exact hok'.yes u p sv hu hh
 by_cases hut : u = t
 subst hut
 rw [upd_same] at hu
 simp only [oIQ,pIQ] at hu
 obtain ⟨rfl,rfl⟩ := hu
 exact absurd holds_nil hh
 rw [upd_ne _ _ hut] at hu; exact hok'.no u p sv hu hh
 cases h
theorem aJL {st st' : St} {i j id e sz : Nat} (h : aGH i j id e sz st = some st') (hok : OkS fr n st a w) : OkS fr n st' a w := by
 unfold aGH at h
 split at h
 rename_i ty q cells hbx
 split at h
 rename_i hc
 simp only [bIQ,Option.isNone_iff_eq_none] at hc
 simp only [oIQ] at h
 subst h
 obtain ⟨pl,hok⟩ := hok
 have hf : cells[j]? = some (.d (.v (.slice none 0 0))) := by
  have := hc.1
  unfold aLW at this
  split at this
  rename_i h; exact h
  cases this
 obtain ⟨pl',m',L,hC⟩ := aK7 hok.mem hc.2 e sz
 have hne : i ≠ id := fun e => by rw [e,hc.2] at hbx; cases hbx
 have hbx' : upd (lookO st.own) id (.arr 0 e sz []) i = some (.box ⟨.c ty,q⟩ cells) := by rw [upd_ne _ _ hne]; exact hbx
 obtain ⟨vs,hb,hcells⟩ := m'.obj i _ hbx'
 obtain ⟨u,hu,hcu⟩ := hcells.get hf
 have huv : u = .slice none 0 0 := Rd.exact hcu
 have hset : All2 (COk w pl' (upd (lookO st.own) id (.arr 0 e sz []))) (cells.set j (.ar id 0)) vs := by
  refine ⟨by simpa using hcells.1,fun k c v hk hv => ?_⟩
  rw [List.getElem?_set] at hk
  split at hk
  rename_i hjk
  subst hjk
  split at hk
  simp only [oIQ] at hk
  subst hk
  rw [hu] at hv
  injection hv with hv
  rw [<- hv,huv]; exact hC
  cases hk
  exact hcells.2 k c v hk hv
 have hm2 := m'.turnBox hbx' hb hset
 have hw : w.setRow (pl'.blk i) vs.toArray = w := by
  have hh : (w.setRow (pl'.blk i) vs.toArray).heap = w.heap := by
   apply Array.ext_getElem?
   intro k
   by_cases hk : k = pl'.blk i
   subst hk; rw [setRow_heap w _ vs.toArray vs.toArray ty (0,0) hb]; exact hb.symm
   exact dQ _ _ _ hk
  have e : w.setRow (pl'.blk i) vs.toArray = { w with heap := (w.setRow (pl'.blk i) vs.toArray).heap } := rfl
  rw [e,hh]
 rw [hw] at hm2
 refine ⟨pl',?_⟩
 rw [gX]
 simp only [aY]
 exact (hok.later m' L).later hm2.1 hm2.2
 cases h
 cases h
def nI : List (Nat × Nat × Nat × Nat) -> St -> Option St
 | [],st => some st
 | (t,id,e,sz) :: r,st => match aGG t id e sz st with
  | some st' => nI r st'
  | none => none
def nJ : List (Nat × Nat × Nat × Nat × Nat) -> St -> Option St
 | [],st => some st
 | (i,j,id,e,sz) :: r,st => match aGH i j id e sz st with
  | some st' => nJ r st'
  | none => none
def aM5 (ss : List (Nat × Nat × Nat × Nat)) (cs : List (Nat × Nat × Nat × Nat × Nat)) (st : St) : Option St := match nI ss st with
 | some st' => nJ cs st'
 | none => none
theorem tT : ∀ {ss : List (Nat × Nat × Nat × Nat)} {st st' : St},nI ss st = some st' -> OkS fr n st a w -> OkS fr n st' a w
 | [],st,st',h,hok => by simp only [nI,oIQ] at h; subst h; exact hok
 | (t,id,e,sz) :: r,st,st',h,hok => by
  simp only [nI] at h
  split at h
  rename_i st1 h1; exact tT h (aJK h1 hok)
  cases h
theorem tU : ∀ {cs : List (Nat × Nat × Nat × Nat × Nat)} {st st' : St},nJ cs st = some st' -> OkS fr n st a w -> OkS fr n st' a w
 | [],st,st',h,hok => by simp only [nJ,oIQ] at h; subst h; exact hok
 | (i,j,id,e,sz) :: r,st,st',h,hok => by
  simp only [nJ] at h
  split at h
  rename_i st1 h1; exact tU h (aJL h1 hok)
  cases h
theorem aM4 {ss : List (Nat × Nat × Nat × Nat)} {cs : List (Nat × Nat × Nat × Nat × Nat)} {st st' : St} (h : aM5 ss cs st = some st') (hok : OkS fr n st a w) : OkS fr n st' a w := by
 unfold aM5 at h
 split at h
 rename_i st1 h1; exact tU h (tT h1 hok)
 cases h
def adK (pids : List Nat) (ss : List (Nat × Nat × Nat × Nat)) (cs : List (Nat × Nat × Nat × Nat × Nat)) (st st' : St) : Option (Stop × List (Option (Path × SV)) × List (Option Ob) × Bool × List Prop) :=
 match aM5 ss cs st with
 | some s => aHB pids s st'
 | none => none
theorem stepA {pids : List Nat} {G : List (Nat × List Value)} (hG : FrIs fr G pids) {now : Now} {st : St} (ss : List (Nat × Nat × Nat × Nat)) (cs : List (Nat × Nat × Nat × Nat × Nat)) (st' : St) (h : adK pids ss cs st st' = told (.loop []) st' []) (hk : W R fr n root Q now st') : W R fr n root Q now st := by
 unfold adK at h
 split at h
 rename_i s hs
 unfold aHB told at h
 simp only [oIQ,pIQ,and_true,true_and] at h
 obtain ⟨h1,h2,h3⟩ := h
 rw [bIQ] at h3
 obtain ⟨h3,h4⟩ := h3
 have hsel : ∀ a w,OkS fr n st a w -> OkS fr n st' a w := fun a w hok => aER h1 h2 (oH h3) (nZ _ hG.lat (aM4 hs hok))
 cases now with
 | code pos => exact fun c hc a w hok => hk c hc a w (hsel a w hok)
 | exit pos e => exact fun a w hok => hk a w (hsel a w hok)
 cases h
theorem oP {f : FuncId} {ins : List SV} {refs : bR} {out : SV} {post : bR} (h : Spec P G f ins refs out post) : Spec P G f ins refs (uP (lookO post) (fW []) out) (eL [] ⟨[],post⟩).own := by
 intro fr w pl args hw hG m ha
 refine (h fr w pl args hw hG m ha).mono ?_
 rintro e w' ⟨v,pl',rfl,m',hv⟩
 have hown : lookO (eL [] ⟨[],post⟩).own = bO (lookO post) (fW []) := by
  funext i
  simp only [eL]
  rw [iZ]
  unfold bO
  cases lookO post i <;> rfl
 refine ⟨v,pl',rfl,?_,?_⟩
 rw [hown]; exact mX m' (fun i hi => by simp [fW,hi])
 rw [hown]; exact q5 m' (fun i hi => by simp [fW,hi]) hv
end
end Go.V
