/- Part 19 of the proof. -/
import Derived.Test.YtgpedhfdniigoaaGreatDoorP18
set_option linter.all false
namespace Go.V
open Go.RowKit
section
variable {P : Program} {fr : Fr} {n : Nat} {own : Own} {a : Act} {w w' : World} {pl : Pl} {o : Oper} {p : Path} {lk : Lk}
def avI (P : Program) (lk : Lk) (ob : Own) (t : TypeId) (x : Operand) (lo hi : Option Operand) : Option Eff :=
 match P.underlying t,lk [] x with
 | some (.slice el),some (.c (.ar i k)) => match ob i,P.info? el with
  | some (.arr k' ⟨e',[]⟩ sz es),some ti => if k' == k && ti.size == sz then (match kF lk lo 0,kF lk hi (es.length : Int) with
    | some (_,l),some (_,h) => some ⟨.c (.av i k' l.toNat (h.toNat - l.toNat)),[],[i],[0 <= l /\ l <= h /\ h <= (es.length : Int)]⟩
    | _,_ => none) else none
  | _,_ => none
 | _,_ => none
theorem aMX (m : Mem fr own w pl) (hl : aX a w pl own p lk) (hp : Eng.Holds a p) {t : TypeId} {x : Operand} {lo hi : Option Operand} (hop : o.op = .slice t x lo hi none) {ob : Own} {e : Eff} (h : avI P lk ob t x lo hi = some e) (hob : ∀ i ∈ e.touch,own i = ob i) (ho : conj e.obl) : Does P fr own a w pl o e := by
 unfold avI at h
 split at h
 rename_i el i k hu hx
 split at h
 rename_i k' e' sz es ti hi' hti
 split at h
 rename_i hc
 simp only [bIQ,beq_iff_eq] at hc
 obtain ⟨rfl,e2⟩ := hc
 split at h
 rename_i v1 l v2 hh hb1 hb2
 simp only [oIQ] at h
 subst h
 have hd : 0 <= l /\ l <= hh /\ hh <= (es.length : Int) := ho
 have hj : own i = some (.arr k' ⟨e',[]⟩ sz es) := by rw [hob i (by simp)]; exact hi'
 have hv := cD (w := w) (hl [] x _ hx holds_nil hp) hj
 obtain ⟨xs,hxs,hr,hs⟩ := m.obj i _ hj
 have hcap : es.length <= (pl.sl i).2 := by
  rcases hxs.2 with ⟨hA,h0⟩ | ⟨g,cap,cur,hA,hB,hg,hn,_⟩
  omega
  injection hA with _ _ h3; omega
 have hrun := l9 (lo := lo) (hi := hi) hop hu hti hv hl hp hb1 hb2 ⟨by omega,by omega,by omega⟩
 refine aJ m hrun ⟨k',_,sz,es,hj,lr _,fun _ => ⟨by omega,?_⟩,rfl⟩
 rw [e2]
 cases h
 cases h
 cases h
 cases h
def delE (P : Program) (lk : Lk) (ob : Own) (T : TypeId) (s x : Operand) : Option Eff :=
 match P.underlying T,rN lk ob x with
 | some (.slice e),some (szx,news,tx) => match P.info? e with
  | some i => match i.zero with
   | some z => if z.cells.size == i.size && decide (0 < i.size) && szx == i.size then
     match lk [] s with
     | some (.c (.av j k 0 h)) => match ob j with
      | some (.arr k' ⟨e',[]⟩ sz es) => if k' == k && e' == e && sz == i.size then some ⟨.c (.ar j (k + 1)),[(j,.arr (k + 1) ⟨e,[]⟩ sz (es.take h ++ news))],j :: tx,[(h + news.length) * (i.bytes + 1) <= 140737488355328]⟩ else none
      | _ => none
     | _ => none
    else none
   | none => none
  | none => none
 | _,_ => none
theorem delE_ok (m : Mem fr own w pl) (hl : aX a w pl own p lk) (hp : Eng.Holds a p) {T : TypeId} {s x : Operand} (hop : o.op = .call { callee := .builtin .append,args := #[s,x],argTypes := #[T,T] }) {ob : Own} {e : Eff} (h : delE P lk ob T s x = some e) (hob : ∀ i ∈ e.touch,own i = ob i) (ho : conj e.obl) : Does P fr own a w pl o e := by
 unfold delE at h
 have hrun : ∀ {v w'},(Builtin.append_ #[T,T] o.type #[a.eval s,a.eval x]).run P w = .ok v w' -> (execOp a.eval o).run P w = .ok (.value v) w' := by
  intro v w' hr
  unfold execOp
  simp only [hop,resolve,invoke,builtin,Sem.run_bind,Sem.run_pure,an,List.map_toArray,mp1,List.map_nil,hr]
 split at h
 rename_i el szx news tx hu hrx
 split at h
 rename_i i hi
 split at h
 rename_i z hz
 split at h
 rename_i hc
 simp only [bIQ,decide_eq_true_eq,beq_iff_eq] at hc
 obtain ⟨⟨hc1,hc2⟩,rfl⟩ := hc
 split at h
 rename_i j k hh hs
 split at h
 rename_i k' e' sz es hbx
 split at h
 rename_i hk
 simp only [bIQ,beq_iff_eq] at hk
 obtain ⟨⟨rfl,rfl⟩,rfl⟩ := hk
 simp only [oIQ] at h
 subst h
 have ho : (hh + news.length) * (i.bytes + 1) <= 140737488355328 := ho
 have hj : own j = some (.arr k' ⟨e',[]⟩ i.size es) := by rw [hob j (by simp),hbx]
 obtain ⟨hln,hv⟩ := tM (w := w) (hl [] s _ hs holds_nil hp) hj
 obtain ⟨A2,c2,xs2,hx2,hr2,hs2,_,hA2⟩ := jS m hl hp hrx (fun i hi => hob i (by simp [hi]))
 obtain ⟨xs,hxs,hr,hss⟩ := m.obj j _ hj
 have hv : a.eval s = .slice (pl.sl j).1 hh (pl.sl j).2 := by
  rw [hv]
  simp only [Nat.zero_mul,Nat.sub_zero]
  split
  rfl
  cases (pl.sl j).1 <;> simp [Addr.add]
 have hl2 : xs2.length = news.length * i.size := by rw [<- hr2.1,a8 hs2]
 obtain ⟨A',c',w',h1,h2,h3,h4⟩ := dI (P := P) (w := w) 0 T o.type e' i z hu hi hz hc1 hc2 (hxs.take (k := hh) (by omega)) hl2 (hO hr2) (hA2.imp (fun h => ⟨by rw [h.1]; rfl,h.2⟩) id) ho (zl _)
 intro K Q hK
 have hlen : (es.take hh ++ news).length = hh + news.length := by rw [la,lt1]; omega
 obtain ⟨pl',m',L,hA⟩ := m.turnArr (k' := k' + 1) (es' := es.take hh ++ news) (A := A') (cap := c') (xs := xs.take (hh * i.size) ++ xs2) hj h3 (by rw [hlen]; exact h2)
  (h4.imp id (fun h ad had => by rw [had] at h; simp only [Option.map_some,oIQ] at h; omega))
  (by
   rw [List.flatten_append]
   refine AllO.append ?_ (AllO.of hr2) (by intro x hx; cases hx)
   exact ⟨by rw [dG hss,lt1,lt1,hr.1],fun j d y hd' hy => by
    rw [dG hss,List.getElem?_take] at hd'
    rw [List.getElem?_take] at hy
    split at hd'
    rename_i hj; rw [if_pos hj] at hy; exact hr.2 j d y hd' hy
    cases hd'⟩) (fun ds hd => (List.mem_append.1 hd).elim (fun h => hss ds (List.mem_of_mem_take h)) (hs2 ds)) (.inl (by omega))
 have := hrun (v := .slice A' (hh + news.length) c') (w' := w') (by rw [hv,hx2]; exact h1)
 unfold Oper.wp
 rw [this,Oper.upon_value]
 exact hK _ _ pl' m' L (.inr ⟨k' + 1,⟨e',[]⟩,i.size,es.take hh ++ news,upd_same _ _ _,lr _,fun _ => by rw [hA,hlen],rfl⟩)
 cases h
 cases h
 cases h
 cases h
 cases h
 cases h
 cases h
def appO (P : Program) (lk : Lk) (ob : Own) (T : TypeId) (s x : Operand) : Option Eff :=
 match P.underlying T,lk [] x,lk [] s with
 | some (.slice e),some (.c (.ar j k)),some (.c (.ar i ki)) => match P.info? e,ob j,ob i with
  | some ti,some (.arr k' ⟨_,[(0,c)]⟩ 1 [[d]]),some (.arr ki' ⟨e',ov⟩ 1 es) => match ti.zero with
   | some z => if k' == k && ki' == ki && e' == e && z.cells.size == ti.size && ti.size == 1 && ov.all (fun y => decide (y.1 < es.length)) then
     some ⟨.c (.ar i (ki + 1)),[(i,.arr (ki + 1) ⟨e,ov ++ [(es.length,c)]⟩ 1 (es ++ [[d]]))],[i,j],[(es.length + 1) * (ti.bytes + 1) <= 140737488355328]⟩ else none
   | none => none
  | _,_,_ => none
 | _,_,_ => none
theorem AllO.snoc {ov : List (Nat × C)} {ds : List D} {xs : List Value} {n : Nat} {c : C} {d : D} {u : Value} (h : AllO w pl own ov ds xs) (hn : n = ds.length) (hov : ∀ y,y ∈ ov -> y.1 < n) (hc : COk w pl own c u) : AllO w pl own (ov ++ [(n,c)]) (ds ++ [d]) (xs ++ [u]) := by
 subst hn
 refine ⟨by simp [h.1],fun j d' x hd hx => ?_⟩
 rw [List.getElem?_append] at hd hx
 rw [List.lookup_append]
 split at hd
 rename_i hj
 rw [if_pos (by have := h.1; omega)] at hx
 have e : [(ds.length,c)].lookup j = none := by
  rw [List.lookup_eq_none_iff]
  intro p hp
  simp only [mc,List.not_mem_nil,or_false] at hp
  subst hp
  have hne : j ≠ ds.length := by omega
  simpa using hne
 rw [e,Option.or_none]
 exact h.2 j d' x hd hx
 rename_i hj
 rw [if_neg (by have := h.1; omega)] at hx
 have hn : ov.lookup j = none := by
  rw [List.lookup_eq_none_iff]
  intro p hp
  have := hov p hp
  have hne : j ≠ p.1 := by omega
  simpa using hne
 have hj1 : j - ds.length = 0 := by have := (gsQ.1 hd).1; simp at this; omega
 have hje : j = ds.length := by omega
 subst hje
 rw [hn]
 rw [<- h.1,Nat.sub_self] at hx
 simp only [cz,oIQ] at hx
 subst hx
 have e2 : (none : Option C).or ([(ds.length,c)].lookup ds.length) = some c := by simp [List.lookup]
 rw [e2]
 exact hc
theorem appO_ok (m : Mem fr own w pl) (hl : aX a w pl own p lk) (hp : Eng.Holds a p) {T : TypeId} {s x : Operand} (hop : o.op = .call { callee := .builtin .append,args := #[s,x],argTypes := #[T,T] }) {ob : Own} {e : Eff} (h : appO P lk ob T s x = some e) (hob : ∀ i ∈ e.touch,own i = ob i) (ho : conj e.obl) : Does P fr own a w pl o e := by
 unfold appO at h
 have hrun : ∀ {v w'},(Builtin.append_ #[T,T] o.type #[a.eval s,a.eval x]).run P w = .ok v w' -> (execOp a.eval o).run P w = .ok (.value v) w' := by
  intro v w' hr
  unfold execOp
  simp only [hop,resolve,invoke,builtin,Sem.run_bind,Sem.run_pure,an,List.map_toArray,mp1,List.map_nil,hr]
 split at h
 rename_i el j k q ki hu hx hs
 split at h
 rename_i i k' e1 c d ki' e' ov es hi hbx hbi
 split at h
 rename_i z hz
 split at h
 rename_i hc
 simp only [bIQ,beq_iff_eq,at1,decide_eq_true_eq] at hc
 obtain ⟨⟨⟨⟨⟨rfl,rfl⟩,rfl⟩,hc1⟩,hc2⟩,hov⟩ := hc
 simp only [oIQ] at h
 subst h
 have ho : (es.length + 1) * (i.bytes + 1) <= 140737488355328 := ho
 have hle : es.length + 1 <= (es.length + 1) * (i.bytes + 1) := Nat.le_mul_of_pos_right _ (by omega)
 have hj : own j = some (.arr k' ⟨e1,[(0,c)]⟩ 1 [[d]]) := by rw [hob j (by simp),hbx]
 have hq : own q = some (.arr ki' ⟨e',ov⟩ 1 es) := by rw [hob q (by simp),hbi]
 have hv := cD (w := w) (hl [] x _ hx holds_nil hp) hj
 have hvs := cD (w := w) (hl [] s _ hs holds_nil hp) hq
 have hmk : mkd ov = false := by
  unfold mkd
  rw [List.any_eq_false]
  intro y hy
  have := hov y hy
  have hne : y.1 ≠ 4611686018427387904 := by omega
  simpa using hne
 have hmk2 : mkd (ov ++ [(es.length,c)]) = false := by
  unfold mkd at hmk ⊢
  rw [List.any_append,hmk]
  have hne : es.length ≠ 4611686018427387904 := by omega
  simpa using hne
 obtain ⟨xs,hxs,hr,hss⟩ := m.obj q _ hq
 obtain ⟨us,hus,hur,_⟩ := m.obj j _ hj
 rw [show mkd (AT.mk e' ov).ov = false from hmk] at hxs
 have hfl : es.flatten.length = es.length := by rw [a8 hss]; omega
 have hul : us.length = 1 := hur.1.symm
 match us,hul,hus,hur with
 | [u],_,hus,hur =>
  have hcu : COk w pl own c u := hur.2 0 d u rfl rfl
  rcases hus.2 with ⟨_,h0⟩ | ⟨g,cap,cur,hvv,hB,hg,hn,hcap,hsz,htk⟩
  simp at h0
  injection hvv with hA1 hA2 hA3
  have hcell : ∀ (q : Nat) (y : Value),[u][q]? = some y -> w.cell? ⟨g,0 + q,none⟩ = some y := by
   intro q y hq
   rw [cell_of_row w g _ cur e1 (0,0) hg]
   rw [<- htk,List.getElem?_take] at hq
   split at hq
   simpa using hq
   cases hq
  obtain ⟨A',c',w',h1,h2,h3,h4⟩ := dI (P := P) (w := w) 0 T o.type e' i z hu hi hz hc1 (by omega) (by rw [hc2]; exact hxs) (A2 := some ⟨g,0,none⟩) (m := 1) (c2 := cap) (news := [u]) (by simp [hc2]) (fun y hy => by simp only [mc,List.not_mem_nil,or_false] at hy; rw [hy]; exact hcu.one)
   (.inr ⟨g,0,rfl,hcell⟩) ho (zl _)
  intro K Q hK
  have hlen : (es ++ [[d]]).length = es.length + 1 := by simp
  obtain ⟨pl',m',L,hA⟩ := m.turnArrO (k' := ki' + 1) (e' := ⟨e',ov ++ [(es.length,c)]⟩) (es' := es ++ [[d]]) (A := A') (cap := c') (xs := xs ++ [u]) hq h3 (by rw [hlen,show mkd (AT.mk e' (ov ++ [(es.length,c)])).ov = false from hmk2]; rw [hc2] at h2; exact h2)
   (h4.imp id (fun h ad had => by rw [had] at h; simp only [Option.map_some,oIQ] at h; omega))
   (by rw [List.flatten_append]; exact AllO.snoc hr hfl.symm hov hcu) (fun ds hd => by
    rcases List.mem_append.1 hd with h | h
    exact hss ds h
    simp only [mc,List.not_mem_nil,or_false] at h; rw [h]; rfl) (.inl (by omega))
  have := hrun (v := .slice A' (es.length + 1) c') (w' := w') (by rw [hvs,hv,hA1,hA3]; exact h1)
  unfold Oper.wp
  rw [this,Oper.upon_value]
  exact hK _ _ pl' m' L (.inr ⟨ki' + 1,⟨e',ov ++ [(es.length,c)]⟩,1,es ++ [[d]],upd_same _ _ _,lr _,fun _ => by rw [hA,hlen],rfl⟩)
 cases h
 cases h
 cases h
 cases h
def aFZ (P : Program) (t : TypeId) (f : Field) (k : Nat) : Bool := f.offset == k && !(f.name == "_") && (match P.underlying f.type with
 | some (.int _) => decide (0 < k)
 | some .string => k == 0
 | _ => false)
def qQ (P : Program) (t : TypeId) (n : Nat) : Bool := match P.underlying t with
 | some (.struct ⟨[f,g]⟩) => n == 2 && aFZ P t f 0 && aFZ P t g 1 && !P.stoodInHeld t && !P.eqGuardType P.depth t
 | some (.struct ⟨[f,g,h]⟩) => n == 3 && aFZ P t f 0 && aFZ P t g 1 && aFZ P t h 2 && !P.stoodInHeld t && !P.eqGuardType P.depth t
 | _ => false
theorem iL {t : TypeId} {f : Field} {k : Nat} (h : aFZ P t f k = true) : f.offset = k /\ f.name ≠ "_" /\ (isAgg f.type).run P w = .ok false w /\ ((k = 0 /\ P.underlying f.type = some .string) \/ (0 < k /\ ∃ u, P.underlying f.type = some (.int u))) := by
 unfold aFZ at h
 simp only [bIQ,Bool.not_eq_true',beq_iff_eq] at h
 obtain ⟨⟨h1,h2⟩,h3⟩ := h
 refine ⟨h1,by simpa using h2,?_⟩
 split at h3
 rename_i u hu; exact ⟨by simp [isAgg,run_underlying hu],.inr ⟨of_decide_eq_true h3,_,hu⟩⟩
 rename_i hu; exact ⟨by simp [isAgg,run_underlying hu],.inl ⟨by simpa using h3,hu⟩⟩
 cases h3
theorem u7 {d : Nat} {t : TypeId} (h : P.underlying t = some .string) (a b : ByteArray) : (Op.equalIn (d + 1) t (.string a) (.string b)).run P w = .ok (a == b) w := by
 simp [Op.equalIn,run_underlying h]
theorem aJ7 {d : Nat} {t : TypeId} (h : qQ P t 2 = true) (s s' : ByteArray) (i i' : Int) : (Op.equalIn (d + 1 + 1) t (.agg #[.string s,.int .i64 i]) (.agg #[.string s',.int .i64 i'])).run P w = .ok (s == s' && i == i') w := by
 unfold qQ at h
 split at h
 rename_i f g hu
 simp only [bIQ,Bool.not_eq_true',beq_iff_eq] at h
 obtain ⟨⟨⟨⟨_,h1⟩,h2⟩,h5⟩,h6⟩ := h
 obtain ⟨o1,n1,a1,k1⟩ := iL (w := w) h1
 obtain ⟨o2,n2,a2,k2⟩ := iL (w := w) h2
 have k1 : P.underlying f.type = some .string := k1.elim (fun h => h.2) (fun h => absurd h.1 (by decide))
 obtain ⟨_,u,k2⟩ := k2.resolve_left (fun h => absurd h.1 (by decide))
 have pr : program.run P w = .ok P w := rfl
 have q1 := u7 (d := d) (w := w) k1 s s'
 have q2 := iB (d := d) (w := w) k2 i i'
 rw [Op.equalIn]
 simp only [Sem.run_bind,run_underlying hu,an,pr,h5,Bool.false_eq_true,if_false]
 cases e1 : (s == s') <;> rw [e1] at q1 <;> cases e2 : (i == i') <;> rw [e2] at q2 <;> simp [n1,n2,part,o1,o2,a1,a2,q1,q2]
 simp at h
 cases h
theorem aJ6 {d : Nat} {t : TypeId} (h : qQ P t 3 = true) (s s' : ByteArray) (i i' j j' : Int) : (Op.equalIn (d + 1 + 1) t (.agg #[.string s,.int .i64 i,.int .i64 j]) (.agg #[.string s',.int .i64 i',.int .i64 j'])).run P w = .ok (s == s' && i == i' && j == j') w := by
 unfold qQ at h
 split at h
 simp at h
 rename_i f g e hu
 simp only [bIQ,Bool.not_eq_true',beq_iff_eq] at h
 obtain ⟨⟨⟨⟨⟨_,h1⟩,h2⟩,h3⟩,h5⟩,h6⟩ := h
 obtain ⟨o1,n1,a1,k1⟩ := iL (w := w) h1
 obtain ⟨o2,n2,a2,k2⟩ := iL (w := w) h2
 obtain ⟨o3,n3,a3,k3⟩ := iL (w := w) h3
 have k1 : P.underlying f.type = some .string := k1.elim (fun h => h.2) (fun h => absurd h.1 (by decide))
 obtain ⟨_,u,k2⟩ := k2.resolve_left (fun h => absurd h.1 (by decide))
 obtain ⟨_,v,k3⟩ := k3.resolve_left (fun h => absurd h.1 (by decide))
 have pr : program.run P w = .ok P w := rfl
 have q1 := u7 (d := d) (w := w) k1 s s'
 have q2 := iB (d := d) (w := w) k2 i i'
 have q3 := iB (d := d) (w := w) k3 j j'
 rw [Op.equalIn]
 simp only [Sem.run_bind,run_underlying hu,an,pr,h5,Bool.false_eq_true,if_false]
 cases e1 : (s == s') <;> rw [e1] at q1 <;> cases e2 : (i == i') <;> rw [e2] at q2 <;> cases e3 : (j == j') <;> rw [e3] at q3 <;> simp [n1,n2,n3,part,o1,o2,o3,a1,a2,a3,q1,q2,q3]
 cases h
theorem aJ5 {t : TypeId} (h : qQ P t 2 = true) (s s' : ByteArray) (i i' : Int) : (Op.equal t (.agg #[.string s,.int .i64 i]) (.agg #[.string s',.int .i64 i'])).run P w = .ok (s == s' && i == i') w := aJ7 (d := 9998) h s s' i i'
theorem aJ4 {t : TypeId} (h : qQ P t 3 = true) (s s' : ByteArray) (i i' j j' : Int) : (Op.equal t (.agg #[.string s,.int .i64 i,.int .i64 j]) (.agg #[.string s',.int .i64 i',.int .i64 j'])).run P w = .ok (s == s' && i == i' && j == j') w := aJ6 (d := 9998) h s s' i i' j j'
def eqsE (P : Program) (lk : Lk) (op : BinOp) (t : TypeId) (x y : Operand) : Option Eff :=
 match op,exO lk [] x,exO lk [] y with
 | .eql,some (.agg ⟨[.string s,.int .i64 i]⟩),some (.agg ⟨[.string s',.int .i64 i']⟩) => if qQ P t 2 then some ⟨.c (.d (.v (.bool (s == s' && i == i')))),[],[],[]⟩ else none
 | .neq,some (.agg ⟨[.string s,.int .i64 i]⟩),some (.agg ⟨[.string s',.int .i64 i']⟩) => if qQ P t 2 then some ⟨.c (.d (.v (.bool (!(s == s' && i == i'))))),[],[],[]⟩ else none
 | .eql,some (.agg ⟨[.string s,.int .i64 i,.int .i64 j]⟩),some (.agg ⟨[.string s',.int .i64 i',.int .i64 j']⟩) => if qQ P t 3 then some ⟨.c (.d (.v (.bool (s == s' && i == i' && j == j')))),[],[],[]⟩ else none
 | .neq,some (.agg ⟨[.string s,.int .i64 i,.int .i64 j]⟩),some (.agg ⟨[.string s',.int .i64 i',.int .i64 j']⟩) => if qQ P t 3 then some ⟨.c (.d (.v (.bool (!(s == s' && i == i' && j == j'))))),[],[],[]⟩ else none
 | _,_,_ => none
theorem tB {t : TypeId} {n : Nat} (h : qQ P t n = true) : P.eqGuardType P.depth t = false := by
 unfold qQ at h
 split at h
 simp only [bIQ,Bool.not_eq_true'] at h; exact h.2
 simp only [bIQ,Bool.not_eq_true'] at h; exact h.2
 cases h
theorem eqsE_ok (m : Mem fr own w pl) (hl : aX a w pl own p lk) (hp : Eng.Holds a p) {op : BinOp} {t : TypeId} {x y : Operand} {ty : TypeId} (hop : o.op = .binOp op t x y ty) {e : Eff} (h : eqsE P lk op t x y = some e) : Does P fr own a w pl o e := by
 unfold eqsE at h
 have pr : program.run P w = .ok P w := rfl
 split at h
 case h_5 => cases h
 case h_1 | h_2 =>
  rename_i s i s' i' hx hy
  split at h
  ·rename_i hd
   simp only [oIQ] at h
   subst h
   refine aJ (v := .bool _) m ?_ (Rd.v _ rfl)
   have hg := tB hd
   unfold execOp
   simp only [hop,bD hl hp holds_nil hx,bD hl hp holds_nil hy]
   simp only [eqGuard,binOp,Sem.run_bind,pr,an,hg]
   have := aJ5 (w := w) hd s s' i i'
   simp [this]
   exact fun hh => absurd (hg.symm.trans hh) (by simp)
  ·cases h
 case h_3 | h_4 =>
  rename_i s i j s' i' j' hx hy
  split at h
  ·rename_i hd
   simp only [oIQ] at h
   subst h
   refine aJ (v := .bool _) m ?_ (Rd.v _ rfl)
   have hg := tB hd
   unfold execOp
   simp only [hop,bD hl hp holds_nil hx,bD hl hp holds_nil hy]
   simp only [eqGuard,binOp,Sem.run_bind,pr,an,hg]
   have := aJ4 (w := w) hd s s' i i' j j'
   simp [this]
   exact fun hh => absurd (hg.symm.trans hh) (by simp)
  ·cases h
def opJ (P : Program) (G : List (Nat × List Value)) (lk : Lk) (ob : Own) (o : Oper) (nid : Nat) (hint : Hint) : Option Eff := match o.op with
 | .slice t x (some lo) hi none => match avI P lk ob t x (some lo) hi with
  | some e => some e
  | none => opI P G lk ob o nid hint
 | .slice t x none hi none => match hint with
  | .mask _ => avI P lk ob t x none hi
  | _ => opI P G lk ob o nid hint
 | .call { callee := .builtin .append,args := ⟨[s,x]⟩,argTypes := ⟨[T,T']⟩ } => if T == T' then (match delE P lk ob T s x with
  | some e => some e
  | none => match appO P lk ob T s x with
   | some e => some e
   | none => opI P G lk ob o nid hint) else none
 | .binOp op t x y _ => match eqsE P lk op t x y with
  | some e => some e
  | none => opI P G lk ob o nid hint
 | _ => opI P G lk ob o nid hint
theorem opJ_ok (m : Mem fr own w pl) (hl : aX a w pl own p lk) (hp : Eng.Holds a p) {ob : Own} {nid : Nat} {hint : Hint} {e : Eff} (h : opJ P fr.G lk ob o nid hint = some e) (hob : ∀ i ∈ e.touch,own i = ob i) (ho : conj e.obl) : fN P fr own a w pl o e := by
 unfold opJ at h
 split at h
 rename_i hop
 split at h
 rename_i h1
 simp only [oIQ] at h
 subst h
 exact (aMX m hl hp hop h1 hob ho).x
 exact sJ m hl hp h hob ho
 rename_i hop
 split at h
 exact (aMX m hl hp hop h hob ho).x
 exact sJ m hl hp h hob ho
 rename_i s x T T' hop
 split at h
 rename_i hT
 simp only [beq_iff_eq] at hT
 subst hT
 split at h
 rename_i h1
 simp only [oIQ] at h
 subst h
 exact (delE_ok m hl hp hop h1 hob ho).x
 split at h
 rename_i h1
 simp only [oIQ] at h
 subst h
 exact (appO_ok m hl hp hop h1 hob ho).x
 exact sJ m hl hp h hob ho
 cases h
 rename_i hop
 split at h
 rename_i h1
 simp only [oIQ] at h
 subst h
 exact (eqsE_ok m hl hp hop h1).x
 exact sJ m hl hp h hob ho
 exact sJ m hl hp h hob ho
end
end Go.V
