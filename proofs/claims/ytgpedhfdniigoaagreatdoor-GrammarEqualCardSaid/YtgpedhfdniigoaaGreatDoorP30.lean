/- Part 30 of the proof. -/
import Derived.Test.YtgpedhfdniigoaaGreatDoorP29
set_option linter.all false
namespace Go.V
open Go.RowKit
section
variable {P : Program} {fr : Fr} {n : Nat} {own : Own} {a : Act} {w : World} {pl : Pl} {D : Nat} {G : List (Nat × List Value)} {pids : List Nat}
end
section
variable {P : Program} {fr : Fr} {n : Nat} {a : Act} {w : World} {pl : Pl}
theorem d9 (j : Nat) (o : Ob) (l : bR) : lookO ((j,o) :: l) = upd (lookO l) j o := by
 funext i
 by_cases h : i = j
 subst h; simp [lookO,upd]
 have : (j == i) = false := by simp; exact fun e => h e.symm
 simp [lookO,upd,h,this]
end
section
variable {P : Program} {fr : Fr} {n : Nat} {root : Code} {Q : Exit -> Act -> World -> Prop} {G : List (Nat × List Value)}
theorem rD {P : Program} {R : Wp P} {fr : Fr} {n : Nat} {root : Code} {G : List (Nat × List Value)} (hG : FrIs fr G []) (hm : P.follows .mixedOrders = true) {now : Now} {st : St} {fn : Func} {out : SV} {post : bR} (hs : dM) (ids : List Nat) (out' : SV) (post' : bR) {cs : List Prop} (h : goR P G n root hs 1000 now st fn ids = some (out',post',cs)) (hc : conj cs) (ho : out' = out) (hp : lookO post' = lookO post) :
  W R fr n root (bodyPost P fn (uS fr out post)) now st := by
 have h1 : W R fr n root (bodyPost P fn (uS fr out post')) now st := aEN hG hm hs ids out' post' h hc ho rfl
 unfold uS at h1 ⊢
 rw [<- hp]; exact h1
end
end Go.V
