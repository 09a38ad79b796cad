/- Part 35 of the proof. -/
import Derived.Test.YtgpedhfdniigoaaGreatDoorP34
set_option linter.all false
namespace Go.V
open Go.RowKit
section
variable {P : Program} {R : Wp P} {fr : Fr} {n : Nat} {root : Code} {Q : Exit -> Act -> World -> Prop} {a : Act} {w : World}
def mvE (ij : List (Nat × Nat)) : cO -> Option cO
 | [] => some []
 | (t,p,sv) :: r => match tY ij false sv,mvE ij r with
  | some sv',some r' => some ((t,p,sv') :: r')
  | _,_ => none
theorem aFI {ij : List (Nat × Nat)} : ∀ {env env' : cO},mvE ij env = some env' -> ∀ {t p s'},aL env' t = some (p,s') -> ∃ s,aL env t = some (p,s) /\ tY ij false s = some s'
 | [],env',h,t,p,s',hf => by simp only [mvE,oIQ] at h; subst h; cases hf
 | (u,q,sv) :: r,env',h,t,p,s',hf => by
  simp only [mvE] at h
  split at h
  rename_i sv' r' h1 h2
  simp only [oIQ] at h
  subst h
  simp only [aL] at hf ⊢
  split at hf
  rename_i hu
  simp only [oIQ,pIQ] at hf
  obtain ⟨rfl,rfl⟩ := hf
  exact ⟨sv,by rw [if_pos hu],h1⟩
  rename_i hu
  obtain ⟨s,h3,h4⟩ := aFI h2 hf
  exact ⟨s,by rw [if_neg hu]; exact h3,h4⟩
  cases h
def aIS (i j : Nat) (own : bR) : List (Nat × Nat) := own.map fun x => (x.1,bif Nat.beq x.1 i then j else x.1)
def mvSt (i j : Nat) (st : St) : Option St :=
 bif (nodupB ((aIS i j st.own).map (·.1)) && nodupB ((aIS i j st.own).map (·.2))) && Nat.ble 100 i then
  match jR (aIS i j st.own) st.own,mvE (aIS i j st.own) st.env with
  | some own,some env => some ⟨env,own⟩
  | _,_ => none
 else none
theorem aG6 {st st' : St} {i j : Nat} (hl : fr.lat = []) (hfe : fr.free = false) (h : mvSt i j st = some st') (hok : OkS fr n st a w) : OkS fr n st' a w := by
 unfold mvSt at h
 generalize hc : ((nodupB ((aIS i j st.own).map (·.1)) && nodupB ((aIS i j st.own).map (·.2))) && Nat.ble 100 i) = b at h
 cases b with
 | false => cases h
 | true =>
  simp only [cond_true] at h
  simp only [bIQ] at hc
  obtain ⟨⟨h1,h2⟩,h3⟩ := hc
  split at h
  ·rename_i own env ho he
   simp only [oIQ] at h
   subst h
   obtain ⟨pl,hok⟩ := hok
   obtain ⟨pl',m',R⟩ := aKI (nX h2) (nX h1) (fun a b hab hlt => by
    obtain ⟨x,_,hx⟩ := mmQ.1 hab
    simp only [pIQ] at hx
    obtain ⟨rfl,rfl⟩ := hx
    cases hq : Nat.beq x.1 i with
    | false => rfl
    | true => have := Nat.eq_of_beq_eq_true hq; have := Nat.le_of_ble_eq_true h3; omega) ho hok.mem
   refine ⟨pl',m',hok.defers,hok.size,fun t p sv hf hh => ?_,fun t p sv hf hh => ?_,⟨fun q hq => (by rw [hl] at hq; cases hq),fun hf => (by rw [hfe] at hf; cases hf)⟩⟩
   ·obtain ⟨s,hs,hm⟩ := aFI he hf
    exact R.s hm (hok.yes t p s hs hh)
   ·obtain ⟨s,hs,hm⟩ := aFI he hf
    exact hok.no t p s hs hh
  ·cases h
theorem fP {G : List (Nat × List Value)} (hG : FrIs fr G []) {now : Now} {st : St} (i j : Nat) (st' : St) (h : mvSt i j st = some st') (hk : W R fr n root Q now st') : W R fr n root Q now st := by
 cases now with
 | code pos => exact fun c hc a w hok => hk c hc a w (aG6 hG.lat (hG.ds rfl).2 h hok)
 | exit pos e => exact fun a w hok => hk a w (aG6 hG.lat (hG.ds rfl).2 h hok)
end
end Go.V
