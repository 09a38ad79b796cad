/- Part 47 of the proof. -/
import Derived.Test.YtclaplngjmgnoaaGreatDoorP35
import Derived.Test.YtclaplngjmgnoaaGreatDoorP46
set_option linter.all false
namespace Go.V
open Go.RowKit
section
variable {P : Program} {R : Wp P} {fr : Fr} {n : Nat} {root : Code} {Q : Exit -> Act -> World -> Prop} {a : Act} {w : World}
def mvE (ij : List (Nat × Nat)) : bR -> Option bR
 | [] => some []
 | (t,p,sv) :: r => match sO ij false sv,mvE ij r with
  | some sv',some r' => some ((t,p,sv') :: r')
  | _,_ => none
theorem aFG {ij : List (Nat × Nat)} : ∀ {env env' : bR},mvE ij env = some env' -> ∀ {t p s'},aI env' t = some (p,s') -> ∃ s,aI env t = some (p,s) /\ sO ij false s = some s'
 | [],env',h,t,p,s',hf => by simp only [mvE,oIQ] at h; subst h; cases hf
 | (u,q,sv) :: r,env',h,t,p,s',hf => by
  simp only [mvE] at h;split at h;rename_i sv' r' h1 h2;simp only [oIQ] at h;subst h;simp only [aI] at hf ⊢;split at hf;rename_i hu;simp only [oIQ,pIQ] at hf;obtain ⟨rfl,rfl⟩ := hf;exact ⟨sv,by rw [if_pos hu],h1⟩;rename_i hu;obtain ⟨s,h3,h4⟩ := aFG h2 hf;exact ⟨s,by rw [if_neg hu]; exact h3,h4⟩;cases h
def aKE (i j : Nat) (own : aZ) : List (Nat × Nat) := own.map fun x => (x.1,bif Nat.beq x.1 i then j else x.1)
def aNV (i j : Nat) (st : St) : Option St :=
 bif (nodupB ((aKE i j st.own).map (·.1)) && nodupB ((aKE i j st.own).map (·.2))) && Nat.ble 100 i then
  match iA (aKE i j st.own) st.own,mvE (aKE i j st.own) st.env with
  | some own,some env => some ⟨env,own⟩
  | _,_ => none
 else none
theorem aHA {st st' : St} {i j : Nat} (hl : fr.lat = []) (h : aNV i j st = some st') (hok : OkS fr n st a w) : OkS fr n st' a w := by
 unfold aNV at h;generalize hc : ((nodupB ((aKE i j st.own).map (·.1)) && nodupB ((aKE i j st.own).map (·.2))) && Nat.ble 100 i) = b at h
 cases b with
 | false => cases h
 | true =>
  simp only [cond_true] at h;simp only [bIQ] at hc;obtain ⟨⟨h1,h2⟩,h3⟩ := hc;split at h
  ·rename_i own env ho he
   simp only [oIQ] at h;subst h;obtain ⟨pl,hok⟩ := hok;obtain ⟨pl',m',R⟩ := sM (gG h2) (gG h1) (fun a b hab hlt => by
    obtain ⟨x,_,hx⟩ := mm.1 hab;simp only [pIQ] at hx;obtain ⟨rfl,rfl⟩ := hx;cases hq : Nat.beq x.1 i with
    | false => rfl
    | true => have := Nat.eq_of_beq_eq_true hq; have := Nat.le_of_ble_eq_true h3; omega) ho hok.mem
   refine ⟨pl',m',hok.defers,hok.size,fun t p sv hf hh => ?_,fun t p sv hf hh => ?_,fun q hq => by rw [hl] at hq; cases hq⟩
   ·obtain ⟨s,hs,hm⟩ := aFG he hf
    exact R.s hm (hok.yes t p s hs hh)
   ·obtain ⟨s,hs,hm⟩ := aFG he hf
    exact hok.no t p s hs hh
  ·cases h
theorem stepMv {pids : List Nat} {G : List (Nat × List Value)} (hG : FrIs fr G pids) {now : Now} {st : St} (i j : Nat) (st' : St) (h : aNV i j st = some st') (hk : W R fr n root Q now st') : W R fr n root Q now st := by
 cases now with
 | code pos => exact fun c hc a w hok => hk c hc a w (aHA hG.lat h hok)
 | exit pos e => exact fun a w hok => hk a w (aHA hG.lat h hok)
end
end Go.V
