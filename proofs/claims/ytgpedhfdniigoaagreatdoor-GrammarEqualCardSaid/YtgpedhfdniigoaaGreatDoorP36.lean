/- Part 36 of the proof. -/
import Derived.Test.YtgpedhfdniigoaaGreatDoorP35
set_option linter.all false
namespace Go.V
open Go.RowKit
section
variable {P : Program} {R : Wp P} {fr : Fr} {n : Nat} {root : Code} {Q : Exit -> Act -> World -> Prop}
theorem aLF {own : Own} {w : World} {pl : Pl} (m : Mem fr own w pl) {i k : Nat} {e : TypeId} {sz : Nat} {es : LD} {pp idx off : Nat} {x : D} {ds : List D} (hi : own i = some (.arr k ⟨e,[(pp,.d x)]⟩ sz es)) (hp : pp = idx * sz + off) (hd : es[idx]? = some ds) (ho : off < sz) (hb : pp < 4611686018427387904) :
  Mem fr (upd own i (.arr k ⟨e,[]⟩ sz (es.set idx (ds.set off x)))) w pl /\ Later w pl own w pl (upd own i (.arr k ⟨e,[]⟩ sz (es.set idx (ds.set off x)))) := by
 obtain ⟨xs,hxs,hr,hss⟩ := m.obj i _ hi
 rw [show mkd (AT.mk e [(pp,C.d x)]).ov = false from iY hb] at hxs
 have hlt := (gsQ.1 hd).1
 have hdl : ds.length = sz := hss ds (List.mem_of_getElem? hd)
 have hsp : ds.set off x = aI ds off [x] := by
  rw [List.set_eq_take_append_cons_drop,if_pos (by omega)]; simp [aI]
 have hfl : (es.set idx (ds.set off x)).flatten = es.flatten.set pp x := by
  have h2 : pp < es.flatten.length := by
   have hb2 : (idx + 1) * sz <= es.length * sz := Nat.mul_le_mul_right _ hlt
   rw [Nat.succ_mul] at hb2
   rw [a8 hss]; omega
  rw [hsp,nD hss hd (by simp; omega),List.set_eq_take_append_cons_drop,if_pos h2,<- hp]
  simp [aI]
 have hall : AllO w pl own [] (es.set idx (ds.set off x)).flatten xs := by
  rw [hfl]
  refine ⟨by simp only [List.length_set]; exact hr.1,fun j d u hj hu => ?_⟩
  by_cases hq : j = pp
  subst hq
  have hl2 : j < es.flatten.length := by simpa using (gsQ.1 hj).1
  rw [List.getElem?_set_self hl2] at hj
  simp only [oIQ] at hj
  subst hj
  have := hr.2 j _ u (ge hl2) hu
  rw [show (AT.mk e [(j,C.d x)]).ov = [(j,.d x)] from rfl,gO,if_pos rfl] at this
  exact this
  rw [List.getElem?_set_ne (fun e => hq e.symm)] at hj
  have := hr.2 j d u hj hu
  rw [show (AT.mk e [(pp,C.d x)]).ov = [(pp,.d x)] from rfl,gO,if_neg hq] at this
  exact this
 refine Mem.set m i _ rfl rfl (fun j _ => ⟨rfl,rfl⟩) (fun b _ _ => rfl) (fun fc fd => ⟨xs,(by rw [List.length_set]; exact hxs),hall.mono fc fd,fun dd hdd => ?_⟩) (fun b hb => ?_) (fun ty cs h => by rw [hi] at h; cases h) (fun k2 e2 sz2 es2 h => ?_) rfl rfl rfl (lr _) (fun _ _ _ he => by cases he)
 exact (List.mem_or_eq_of_mem_set hdd).elim (hss dd) (fun he => by rw [he,List.length_set]; exact hdl)
 left
 simp only [aM,upd_same] at hb
 simp only [aM,hi]; exact hb
 rw [hi] at h
 injection h with h
 injection h with h1 h2 h3 h4
 subst h1; subst h2; subst h3; subst h4
 exact ⟨k,_,sz,_,rfl,lr _,fun _ => ⟨by simp,rfl,rfl⟩⟩
theorem aIC {G : List (Nat × List Value)} {f : FuncId} {ins : List SV} {refs : bR} {out : SV} {post post' : bR} (i j idx off : Nat) {k kj : Nat} {e e2 : TypeId} {sz sz2 : Nat} {es es2 : LD} {pp : Nat} {ds : List D} (h : Spec P G f ins refs out post)
  (hi : lookO post i = some (.arr k ⟨e,[(pp,.ar j kj)]⟩ sz es)) (hj : lookO post j = some (.arr kj ⟨e2,[]⟩ sz2 es2)) (hj1 : 100 <= j) (hij : i ≠ j) (hp : pp = idx * sz + off) (hd : es[idx]? = some ds) (ho : off < sz) (hb : pp < 4611686018427387904)
  (hpost : lookO post' = upd (bO (lookO post) (fun q => !(q == j))) i (.arr 0 ⟨e,[]⟩ sz (es.set idx (ds.set off (.sl sz2 es2))))) : Spec P G f ins refs (uP (lookO post) (fun q => !(q == j)) out) post' := by
 intro fr w pl args hw hG m ha
 refine (h fr w pl args hw hG m ha).mono ?_
 rintro e' w' ⟨v,pl',rfl,m',hv⟩
 have hk : ∀ q,q < 100 -> (fun q => !(q == j)) q = true := fun q hq => by simp; omega
 have m2 := mX m' hk
 have hv2 := q5 m' hk hv
 have hi' : bO (lookO post) (fun q => !(q == j)) i = some (.arr 0 ⟨e,[(pp,.d (.sl sz2 es2))]⟩ sz es) := by
  unfold bO
  have h1 : (!(i == j)) = true := by simpa using hij
  simp only [h1,if_true,hi,j8,mp1,List.map_nil,gR,hj]
  simp
 obtain ⟨m3,L⟩ := aLF m2 hi' hp hd ho hb
 rw [<- hpost] at m3 L
 exact ⟨v,pl',rfl,m3,L.sv hv2⟩
end
end Go.V
