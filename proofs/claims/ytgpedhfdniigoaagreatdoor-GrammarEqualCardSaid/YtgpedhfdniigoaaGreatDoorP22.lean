/- Part 22 of the proof. -/
import Derived.Test.YtgpedhfdniigoaaGreatDoorP21
set_option linter.all false
namespace Go.V
open Go.RowKit
structure Rec where
 dst : Option Nat
 path : Path
 sv : SV
 upd : List (Nat × Ob)
 touch : List Nat
 uses : List Nat
 obs : List Obl
def Rec.obl (r : Rec) : List Prop := pOf r.obs
def jV (o : Oper) : List Nat := o.op.operands.toList.filterMap fun | .tmp t => some t | _ => none
def sQ (env : Env) (p : Path) (us : List Nat) : Lk := fun q x => match x with
 | .tmp t => if us.contains t then gW env p q (.tmp t) else none
 | x => gW env p q x
def j6 (n : Nat) (d : Option Nat) (p : Path) : Bool := match d with
 | some t => decide (t < n) && p.all (fun x => x.1 != t)
 | none => true
def chainB (env : Env) : Path -> Bool
 | [] => true
 | x :: r => (match env x.1 with
  | some (q,.c (.d (.v (.bool _)))) => q == r
  | _ => false) && chainB env r
def gP (env : Env) : Path -> Prop
 | [] => True
 | x :: r => (match env x.1 with
  | some (_,.c (.d (.v (.bool b)))) => b = x.2
  | _ => False) /\ gP env r
theorem n5 {fr : Fr} {n : Nat} {env : Env} {own : Own} {a : Act} {w : World} {pl : Pl} (h : Ok fr n env own a w pl) : ∀ {p : Path},chainB env p = true -> gP env p -> Eng.Holds a p
 | [],_,_ => fun x hx => by cases hx
 | x :: r,hc,hh => by
  simp only [chainB,bIQ] at hc
  obtain ⟨hc1,hc2⟩ := hc
  obtain ⟨hh1,hh2⟩ := hh
  have ih := n5 h hc2 hh2
  split at hc1
  rename_i q b hx
  simp only [beq_iff_eq] at hc1
  subst hc1
  rw [hx] at hh1
  have hv : a.tmps.getD x.1 undef = .bool b := Rd.exact (h.yes x.1 q _ hx ih)
  intro y hy
  rcases mc.1 hy with rfl | hy
  rw [hv]; exact congrArg Value.bool hh1
  exact ih y hy
  cases hc1
theorem fJ {env env' : Env} : ∀ {p : Path},(∀ x ∈ p,env' x.1 = env x.1) -> chainB env' p = chainB env p /\ gP env' p = gP env p
 | [],_ => ⟨rfl,rfl⟩
 | x :: r,h => by
  obtain ⟨h1,h2⟩ := fJ (p := r) fun y hy => h y (by simp [hy])
  simp only [chainB,gP,h x (by simp),h1,h2,and_self]
theorem aFO {env : Env} : ∀ (q : Path) {c : Prop},c -> imp env q c
 | [],_,h => h
 | x :: r,c,h => by
  unfold imp
  split
  exact fun _ => aFO r h
  exact aFO r h
def aFP (env : Env) (q : Path) (o : Obl) : Obl := ⟨imp env q o.p,o.b,fun h => aFO q (o.h h),o.k⟩
theorem aG0 (env : Env) (q : Path) (l : List Obl) : pOf (l.map (aFP env q)) = (pOf l).map (imp env q) := by simp [pOf,aFP,Function.comp_def]
def j3 (env : Env) : Path -> Bool
 | [] => true
 | x :: r => (match env x.1 with
  | some (_,.c (.d (.v (.bool b)))) => b == x.2
  | _ => false) && j3 env r
theorem holdsB_iff {env : Env} : ∀ {p : Path},j3 env p = true ↔ gP env p
 | [] => ⟨fun _ => trivial,fun _ => rfl⟩
 | x :: r => by
  simp only [j3,gP,bIQ,holdsB_iff (p := r)]
  refine and_congr ?_ Iff.rfl
  split
  simp
  simp
def holdsO (env : Env) (p : Path) : Obl := ⟨gP env p,j3 env p,holdsB_iff.1,false⟩
def notO (env : Env) (p : Path) : Obl := ⟨¬ gP env p,!j3 env p,fun h hh => (by rw [holdsB_iff.2 hh] at h; exact Bool.noConfusion h),false⟩
def aGZ (P : Program) (G : List (Nat × List Value)) (n rid : Nat) (ops : Array Oper) (env : cO) (own : bR) (i : Nat) (o : Oper) (hint : Hint) : Option Rec :=
 match pathOf ops (aL env) o with
 | some p => if closed (aL env) p && j6 n o.dst p then
   match opE P G (sQ (aL env) p (jV o)) (lookO own) o (100 * (rid + 1) + i) hint with
   | some e => if p.isEmpty || e.upd.isEmpty then some ⟨o.dst,p,e.sv,e.upd,e.touch,jV o ++ p.map (·.1),e.obs.map (aFP (aL env) p)⟩
     else if chainB (aL env) p then some ⟨o.dst,[],e.sv,e.upd,e.touch,jV o ++ p.map (·.1),holdsO (aL env) p :: e.obs.map (aFP (aL env) p)⟩ else none
   | none => none
  else none
 | none => none
def recD (n : Nat) (ops : Array Oper) (env : cO) (o : Oper) (sv : SV) : Option Rec :=
 match pathOf ops (aL env) o with
 | some p => if closed (aL env) p && j6 n o.dst p && chainB (aL env) p then some ⟨o.dst,p,sv,[],[],p.map (·.1),[notO (aL env) p]⟩ else none
 | none => none
def aKN (P : Program) (G : List (Nat × List Value)) (n rid : Nat) (ops : Array Oper) (env : cO) (own : bR) (i : Nat) (o : Oper) (hint : Hint) : Option Rec :=
 match hint with
 | .dead sv => recD n ops env o sv
 | hint => aGZ P G n rid ops env own i o hint
theorem n6 {fr : Fr} {n : Nat} {env : Env} {own : Own} {a : Act} {w : World} {pl : Pl} (h : Ok fr n env own a w pl) : ∀ {p : Path},chainB env p = true -> Eng.Holds a p -> gP env p
 | [],_,_ => trivial
 | x :: r,hc,hh => by
  simp only [chainB,bIQ] at hc
  obtain ⟨hc1,hc2⟩ := hc
  have hr : Eng.Holds a r := fun y hy => hh y (List.mem_cons_of_mem _ hy)
  have ih := n6 h hc2 hr
  refine ⟨?_,ih⟩
  split at hc1
  rename_i q b hx
  simp only [beq_iff_eq] at hc1
  subst hc1
  have hv : a.tmps.getD x.1 undef = .bool b := Rd.exact (h.yes x.1 q _ hx hr)
  have h2 := hh x List.mem_cons_self
  first | exact Value.bool.inj (hv.symm.trans h2) | (simp only [hx]; exact Value.bool.inj (hv.symm.trans h2))
  cases hc1
def d6 (env : Env) (r : Rec) : Env := match r.dst with
 | some t => upd env t (r.path,r.sv)
 | none => env
theorem tE {f : Prop -> Prop} (h : ∀ c,f c -> c) : ∀ {l : List Prop},conj (l.map f) -> conj l
 | [],_ => trivial
 | [c],hc => h c hc
 | c :: d :: r,hc => by
  obtain ⟨h1,h2⟩ := eZ (c := f c) (r := (d :: r).map f) hc
  exact ⟨h c h1,tE h h2⟩
section
variable {P : Program} {fr : Fr} {n rid : Nat} {Q : Exit -> Act -> World -> Prop} {ops : Array Oper}
theorem rec_ok0 {envL : cO} {ownL : bR} {i : Nat} {o : Oper} {hint : Hint} {r : Rec} (h : aGZ P fr.G n rid ops envL ownL i o hint = some r) (hobl : conj r.obl) (hoi : ops[i]? = some o)
  {env : Env} {own : Own} {a : Act} {w : World} {pl : Pl} (hok : Ok fr n env own a w pl) (hu : ∀ u ∈ r.uses,env u = aL envL u) (ht : ∀ j ∈ r.touch,own j = lookO ownL j)
  (hm : ∀ t,r.dst = some t -> ∀ u q sv,env u = some (q,sv) -> u ≠ t -> ∀ x ∈ q,x.1 ≠ t) {K : Act -> World -> Prop} (hK : ∀ a' w' pl',Ok fr n (d6 env r) (aY own r.upd) a' w' pl' -> K a' w') : fK P ops i K a w := by
 unfold aGZ at h
 split at h
 rename_i p hp
 split at h
 rename_i hc
 simp only [bIQ] at hc
 split at h
 rename_i e he
 split at h
 rename_i hpe
 simp only [oIQ] at h
 subst h
 simp only at hobl hu ht hm hK
 have hpu : ∀ x ∈ p,env x.1 = aL envL x.1 := fun x hx => hu x.1 (by simp only [List.mem_append,mmQ]; exact .inr ⟨x,hx,rfl⟩)
 have hpath : pathOf ops env o = some p := by
  have hp' := hp
  unfold pathOf at hp ⊢
  split at hp
  exact hp
  rename_i j want hg
  split at hp
  cases hp
  rename_i g hd
  split at hp
  rename_i q b hfd
  simp only [oIQ] at hp
  have : env g = aL envL g := hpu (g,want) (by rw [<- hp]; simp)
  simp only [hd,this,hfd,hp]
  cases hp
 have hcl : closed env p = true := by
  have h1 := hc.1
  simp only [closed,at1] at h1 ⊢
  intro x hx
  rw [hpu x hx]
  exact h1 x hx
 have hw := gK hok hpath
 have hlk : aX a w pl own p (sQ (aL envL) p (jV o)) := by
  intro q x sv hs hq hh
  refine gN hok p q x sv ?_ hq hh
  cases x with
  | tmp t =>
   simp only [sQ] at hs
   split at hs
   rename_i hin
   have : env t = aL envL t := hu t (by simp only [List.mem_append]; exact .inl (by simpa using hin))
   simp only [gW] at hs ⊢
   rw [this]; exact hs
   cases hs
  | const v => exact hs
  | global g => exact hs
  | func f => exact hs
 unfold fK
 rw [hoi]
 simp only
 by_cases hh : Eng.Holds a p
 rw [if_pos (hw.2 hh)]
 have ho : conj e.obl := tE (fun c hc' => aAO hok hh hcl p (fun _ h => h) (by rw [n0 p hpu]; exact hc')) (aG0 (aL envL) p e.obs ▸ (show conj (pOf (e.obs.map (aFP (aL envL) p))) from hobl))
 refine nU hok.mem hlk hh he ht ho K fun v w' pl' m' L hv => ?_
 refine hK _ w' pl' ?_
 have hok' := hok.later m' L
 cases hd : o.dst with
 | none => simp only [d6,hd]; exact hok'
 | some t =>
  have hdo := hc.2
  simp only [j6,hd,bIQ,decide_eq_true_eq,at1,bne_iff_ne] at hdo
  simp only [d6,hd]
  exact hok'.put hdo.1 (hm t hd) (fun x hx => hdo.2 x hx) (fun _ => hv.resolve_left (by rw [hd]; simp)) (fun h => absurd hh h)
 rw [if_neg (fun h => hh (hw.1 h))]
 have hue : e.upd = [] := by
  simp only [Bool.or_eq_true,List.isEmpty_iff] at hpe
  rcases hpe with h0 | h0
  subst h0; exact absurd holds_nil hh
  exact h0
 refine hK _ w pl ?_
 simp only [hue,aY]
 cases hd : o.dst with
 | none => simp only [d6,hd]; exact hok
 | some t =>
  have hdo := hc.2
  simp only [j6,hd,bIQ,decide_eq_true_eq,at1,bne_iff_ne] at hdo
  simp only [d6,hd]
  exact hok.put hdo.1 (hm t hd) (fun x hx => hdo.2 x hx) (fun h => absurd h hh) (fun _ => rfl)
 split at h
 rename_i hpe hch
 simp only [oIQ] at h
 subst h
 simp only at hobl hu ht hm hK
 have hpu : ∀ x ∈ p,env x.1 = aL envL x.1 := fun x hx => hu x.1 (by simp only [List.mem_append,mmQ]; exact .inr ⟨x,hx,rfl⟩)
 have hpath : pathOf ops env o = some p := by
  have hp' := hp
  unfold pathOf at hp ⊢
  split at hp
  exact hp
  rename_i j want hg
  split at hp
  cases hp
  rename_i g hd
  split at hp
  rename_i q b hfd
  simp only [oIQ] at hp
  have : env g = aL envL g := hpu (g,want) (by rw [<- hp]; simp)
  simp only [hd,this,hfd,hp]
  cases hp
 have hcl : closed env p = true := by
  have h1 := hc.1
  simp only [closed,at1] at h1 ⊢
  intro x hx
  rw [hpu x hx]
  exact h1 x hx
 have hw := gK hok hpath
 have hlk : aX a w pl own p (sQ (aL envL) p (jV o)) := by
  intro q x sv hs hq hh
  refine gN hok p q x sv ?_ hq hh
  cases x with
  | tmp t =>
   simp only [sQ] at hs
   split at hs
   rename_i hin
   have : env t = aL envL t := hu t (by simp only [List.mem_append]; exact .inl (by simpa using hin))
   simp only [gW] at hs ⊢
   rw [this]; exact hs
   cases hs
  | const v => exact hs
  | global g => exact hs
  | func f => exact hs
 obtain ⟨hP,hobl⟩ := eZ (c := gP (aL envL) p) (r := pOf (e.obs.map (aFP (aL envL) p))) hobl
 obtain ⟨q1,q2⟩ := fJ hpu
 have hh : Eng.Holds a p := n5 hok (by rw [q1]; exact hch) (by rw [q2]; exact hP)
 unfold fK
 rw [hoi]
 simp only
 rw [if_pos (hw.2 hh)]
 have ho : conj e.obl := tE (fun c hc' => aAO hok hh hcl p (fun _ h => h) (by rw [n0 p hpu]; exact hc')) (aG0 (aL envL) p e.obs ▸ (show conj (pOf (e.obs.map (aFP (aL envL) p))) from hobl))
 refine nU hok.mem hlk hh he ht ho K fun v w' pl' m' L hv => ?_
 refine hK _ w' pl' ?_
 have hok' := hok.later m' L
 cases hd : o.dst with
 | none => simp only [d6,hd]; exact hok'
 | some t =>
  have hdo := hc.2
  simp only [j6,hd,bIQ,decide_eq_true_eq,at1,bne_iff_ne] at hdo
  simp only [d6,hd]
  exact hok'.put hdo.1 (hm t hd) (fun x hx => by cases hx) (fun _ => hv.resolve_left (by rw [hd]; simp)) (fun h => absurd holds_nil h)
 cases h
 cases h
 cases h
 cases h
theorem recD_ok {envL : cO} {i : Nat} {o : Oper} {sv : SV} {r : Rec} (h : recD n ops envL o sv = some r) (hobl : conj r.obl) (hoi : ops[i]? = some o)
  {env : Env} {own : Own} {a : Act} {w : World} {pl : Pl} (hok : Ok fr n env own a w pl) (hu : ∀ u ∈ r.uses,env u = aL envL u)
  (hm : ∀ t,r.dst = some t -> ∀ u q sv,env u = some (q,sv) -> u ≠ t -> ∀ x ∈ q,x.1 ≠ t) {K : Act -> World -> Prop} (hK : ∀ a' w' pl',Ok fr n (d6 env r) (aY own r.upd) a' w' pl' -> K a' w') : fK P ops i K a w := by
 unfold recD at h
 split at h
 rename_i p hp
 split at h
 rename_i hc
 simp only [bIQ] at hc
 simp only [oIQ] at h
 subst h
 simp only at hobl hu hm hK
 have hpu : ∀ x ∈ p,env x.1 = aL envL x.1 := fun x hx => hu x.1 (by simp only [mmQ]; exact ⟨x,hx,rfl⟩)
 have hpath : pathOf ops env o = some p := by
  have hp' := hp
  unfold pathOf at hp ⊢
  split at hp
  exact hp
  rename_i j want hg
  split at hp
  cases hp
  rename_i g hd
  split at hp
  rename_i q b hfd
  simp only [oIQ] at hp
  have : env g = aL envL g := hpu (g,want) (by rw [<- hp]; simp)
  simp only [hd,this,hfd,hp]
  cases hp
 have hw := gK hok hpath
 obtain ⟨q1,q2⟩ := fJ hpu
 have hh : ¬ Eng.Holds a p := fun h => hobl (by rw [<- q2]; exact n6 hok (by rw [q1]; exact hc.2) h)
 unfold fK
 rw [hoi]
 simp only
 rw [if_neg (fun h => hh (hw.1 h))]
 refine hK _ w pl ?_
 simp only [aY]
 cases hd : o.dst with
 | none => simp only [d6,hd]; exact hok
 | some t =>
  have hdo := hc.1.2
  simp only [j6,hd,bIQ,decide_eq_true_eq,at1,bne_iff_ne] at hdo
  simp only [d6,hd]
  exact hok.put hdo.1 (hm t hd) (fun x hx => hdo.2 x hx) (fun h => absurd h hh) (fun _ => rfl)
 cases h
 cases h
theorem rec_ok {envL : cO} {ownL : bR} {i : Nat} {o : Oper} {hint : Hint} {r : Rec} (h : aKN P fr.G n rid ops envL ownL i o hint = some r) (hobl : conj r.obl) (hoi : ops[i]? = some o)
  {env : Env} {own : Own} {a : Act} {w : World} {pl : Pl} (hok : Ok fr n env own a w pl) (hu : ∀ u ∈ r.uses,env u = aL envL u) (ht : ∀ j ∈ r.touch,own j = lookO ownL j)
  (hm : ∀ t,r.dst = some t -> ∀ u q sv,env u = some (q,sv) -> u ≠ t -> ∀ x ∈ q,x.1 ≠ t) {K : Act -> World -> Prop} (hK : ∀ a' w' pl',Ok fr n (d6 env r) (aY own r.upd) a' w' pl' -> K a' w') : fK P ops i K a w := by
 unfold aKN at h
 split at h
 exact recD_ok h hobl hoi hok hu hm hK
 exact rec_ok0 h hobl hoi hok hu ht hm hK
abbrev dM := List (Nat × Nat × Hint)
def hintOf (hs : dM) (rid i : Nat) : Hint := match hs.find? (fun x => x.1 == rid && x.2.1 == i) with
 | some x => x.2.2
 | none => .none
def aKR (env : cO) (r : Rec) : cO := match r.dst with
 | some t => aKS env t (r.path,r.sv)
 | none => env
def mF (P : Program) (G : List (Nat × List Value)) (n rid : Nat) (ops : Array Oper) (hs : dM) : Nat -> List Oper -> cO -> bR -> Option (List Rec × cO × bR × List Prop)
 | _,[],env,own => some ([],env,own,[])
 | i,o :: l,env,own => match aKN P G n rid ops env own i o (hintOf hs rid i) with
  | some r => match mF P G n rid ops hs (i + 1) l (aKR env r) (aBC own r.upd) with
   | some (rs,env',own',cs) => some (r :: rs,env',own',r.obl ++ cs)
   | none => none
  | none => none
def cA : List Rec -> (Nat -> Bool) -> Nat -> Env -> Env
 | [],_,_,env => env
 | r :: rs,D,k,env => cA rs D (k + 1) (if D k then d6 env r else env)
def bW : List Rec -> (Nat -> Bool) -> Nat -> Own -> Own
 | [],_,_,own => own
 | r :: rs,D,k,own => bW rs D (k + 1) (if D k then aY own r.upd else own)
theorem pB (env : cO) (r : Rec) : aL (aKR env r) = d6 (aL env) r := by
 unfold aKR d6
 cases r.dst with
 | none => rfl
 | some t => exact s4 env t _
theorem c6 : ∀ {l m : List Prop},conj (l ++ m) -> conj l /\ conj m
 | [],m,h => ⟨trivial,h⟩
 | [c],m,h => eZ h
 | c :: d :: r,m,h => by
  obtain ⟨h1,h2⟩ := eZ (c := c) (r := (d :: r) ++ m) h
  obtain ⟨h3,h4⟩ := c6 (l := d :: r) h2
  exact ⟨⟨h1,h3⟩,h4⟩
theorem dB : ∀ (rs : List Rec) (D D' : Nat -> Bool) (k : Nat) (env env' : Env) (u : Nat),env u = env' u -> (∀ j r,rs[j]? = some r -> r.dst = some u -> D (k + j) = D' (k + j)) -> cA rs D k env u = cA rs D' k env' u
 | [],D,D',k,env,env',u,h,_ => h
 | r :: rs,D,D',k,env,env',u,h,hd => by
  refine dB rs D D' (k + 1) _ _ u ?_ (fun j r' hj hr => by have := hd (j + 1) r' (by simpa using hj) hr; rw [show k + 1 + j = k + (j + 1) by omega]; exact this)
  have h0 := hd 0 r rfl
  rw [Nat.add_zero] at h0
  by_cases hu : r.dst = some u
  rw [h0 hu]
  cases D' k with
  | true => simp only [if_true,d6,hu,upd_same]
  | false => simp only [Bool.false_eq_true,if_false]; exact h
  have hp : ∀ e : Env,d6 e r u = e u := by
   intro e
   unfold d6
   cases hd' : r.dst with
   | none => rfl
   | some t => exact upd_ne _ _ (fun e => hu (by rw [hd',e]))
  cases D k <;> cases D' k <;> simp only [Bool.false_eq_true,if_false,if_true,hp] <;> exact h
theorem oE : ∀ (rs : List Rec) (D : Nat -> Bool) (k : Nat) (env : Env) (u i : Nat) (r : Rec),rs[i]? = some r -> r.dst = some u -> D (k + i) = true -> (∀ j r',i < j -> rs[j]? = some r' -> r'.dst = some u -> D (k + j) = false) -> cA rs D k env u = some (r.path,r.sv)
 | [],D,k,env,u,i,r,h,_,_,_ => by simp at h
 | x :: rs,D,k,env,u,0,r,h,hr,hD,hl => by
  simp only [cz,oIQ] at h
  subst h
  rw [Nat.add_zero] at hD
  simp only [cA,hD,if_true]
  rw [dB rs D (fun _ => false) (k + 1) _ (d6 env x) u rfl (fun j r' hj hr' => by
   have := hl (j + 1) r' (by omega) (by simpa using hj) hr'
   rw [show k + 1 + j = k + (j + 1) by omega]; exact this)]
  have hno : ∀ (rs : List Rec) (k : Nat) (e : Env),cA rs (fun _ => false) k e = e := by
   intro rs
   induction rs with
   | nil => intro k e; rfl
   | cons y ys ih => intro k e; simp only [cA,Bool.false_eq_true,if_false]; exact ih _ _
  rw [hno,d6,hr]
  exact upd_same _ _ _
 | x :: rs,D,k,env,u,i + 1,r,h,hr,hD,hl => by
  simp only [cA]
  exact oE rs D (k + 1) _ u i r (by simpa using h) hr (by rw [show k + 1 + i = k + (i + 1) by omega]; exact hD) (fun j r' hj hj' hr' => by
   have := hl (j + 1) r' (by omega) (by simpa using hj') hr'
   rw [show k + 1 + j = k + (j + 1) by omega]; exact this)
def keys (l : List (Nat × Ob)) : List Nat := l.map (·.1)
theorem fO : ∀ (l : List (Nat × Ob)) (own : Own) (x : Nat),x ∉ keys l -> aY own l x = own x
 | [],own,x,_ => rfl
 | (i,o) :: r,own,x,h => by
  simp only [keys,mp1,mc,not_or] at h
  simp only [aY]
  rw [fO r _ x h.2,upd_ne _ _ h.1]
theorem wM : ∀ (l : List (Nat × Ob)) (own own' : Own) (x : Nat),x ∈ keys l -> aY own l x = aY own' l x
 | [],own,own',x,h => by simp [keys] at h
 | (i,o) :: r,own,own',x,h => by
  simp only [aY]
  by_cases hr : x ∈ keys r
  exact wM r _ _ x hr
  rw [fO r _ x hr,fO r _ x hr]
  simp only [keys,mp1,mc] at h
  rcases h with rfl | h
  rw [upd_same,upd_same]
  exact absurd h hr
theorem c8 : ∀ (rs : List Rec) (D D' : Nat -> Bool) (k : Nat) (own own' : Own) (x : Nat),own x = own' x -> (∀ j r,rs[j]? = some r -> x ∈ keys r.upd -> D (k + j) = D' (k + j)) -> bW rs D k own x = bW rs D' k own' x
 | [],D,D',k,own,own',x,h,_ => h
 | r :: rs,D,D',k,own,own',x,h,hd => by
  refine c8 rs D D' (k + 1) _ _ x ?_ (fun j r' hj hr => by have := hd (j + 1) r' (by simpa using hj) hr; rw [show k + 1 + j = k + (j + 1) by omega]; exact this)
  have h0 := hd 0 r rfl
  rw [Nat.add_zero] at h0
  by_cases hu : x ∈ keys r.upd
  rw [h0 hu]
  cases D' k with
  | true => simp only [if_true]; exact wM _ _ _ x hu
  | false => simp only [Bool.false_eq_true,if_false]; exact h
  cases D k <;> cases D' k <;> simp only [Bool.false_eq_true,if_false,if_true,fO _ _ x hu] <;> exact h
theorem nT : ∀ (rs : List Rec) (D : Nat -> Bool) (k : Nat) (own own' : Own) (x i : Nat) (r : Rec),rs[i]? = some r -> x ∈ keys r.upd -> D (k + i) = true -> (∀ j r',i < j -> rs[j]? = some r' -> x ∈ keys r'.upd -> D (k + j) = false) -> bW rs D k own x = aY own' r.upd x
 | [],D,k,own,own',x,i,r,h,_,_,_ => by simp at h
 | y :: rs,D,k,own,own',x,0,r,h,hr,hD,hl => by
  simp only [cz,oIQ] at h
  subst h
  rw [Nat.add_zero] at hD
  simp only [bW,hD,if_true]
  rw [c8 rs D (fun _ => false) (k + 1) _ (aY own' y.upd) x (wM _ _ _ x hr) (fun j r' hj hr' => by
   have := hl (j + 1) r' (by omega) (by simpa using hj) hr'
   rw [show k + 1 + j = k + (j + 1) by omega]; exact this)]
  have hno : ∀ (rs : List Rec) (k : Nat) (e : Own),bW rs (fun _ => false) k e = e := by
   intro rs
   induction rs with
   | nil => intro k e; rfl
   | cons y ys ih => intro k e; simp only [bW,Bool.false_eq_true,if_false]; exact ih _ _
  rw [hno]
 | y :: rs,D,k,own,own',x,i + 1,r,h,hr,hD,hl => by
  simp only [bW]
  exact nT rs D (k + 1) _ own' x i r (by simpa using h) hr (by rw [show k + 1 + i = k + (i + 1) by omega]; exact hD) (fun j r' hj hj' hr' => by
   have := hl (j + 1) r' (by omega) (by simpa using hj') hr'
   rw [show k + 1 + j = k + (j + 1) by omega]; exact this)
theorem gM {hs : dM} {G : List (Nat × List Value)} : ∀ {l : List Oper} {k : Nat} {env : cO} {own : bR} {rs : List Rec} {env' : cO} {own' : bR} {cs : List Prop},mF P G n rid ops hs k l env own = some (rs,env',own',cs) -> conj cs ->
  rs.length = l.length /\ aL env' = cA rs (fun _ => true) k (aL env) /\ lookO own' = bW rs (fun _ => true) k (lookO own) /\
   ∀ i r,rs[i]? = some r -> conj r.obl /\ ∃ o hint envi owni,l[i]? = some o /\ aKN P G n rid ops envi owni (k + i) o hint = some r /\ aL envi = cA rs (fun j => decide (j < k + i)) k (aL env) /\ lookO owni = bW rs (fun j => decide (j < k + i)) k (lookO own)
 | [],k,env,own,rs,env',own',cs,h,_ => by
  simp only [mF,oIQ,pIQ] at h
  obtain ⟨rfl,rfl,rfl,rfl⟩ := h
  exact ⟨rfl,rfl,rfl,fun i r hi => by simp at hi⟩
 | o :: l,k,env,own,rs,env',own',cs,h,hc => by
  simp only [mF] at h
  split at h
  rename_i r hr
  split at h
  rename_i rs' env1 own1 cs' hrs
  simp only [oIQ,pIQ] at h
  obtain ⟨rfl,rfl,rfl,rfl⟩ := h
  obtain ⟨hc1,hc2⟩ := c6 hc
  obtain ⟨h1,h2,h3,h4⟩ := gM hrs hc2
  refine ⟨by simp [h1],?_,?_,fun i r' hi => ?_⟩
  rw [h2,pB]; rfl
  rw [h3,gX]; rfl
  have hno : ∀ (rs : List Rec) (k k' : Nat) (e : Env),k <= k' -> cA rs (fun j => decide (j < k)) k' e = e := by
   intro rs
   induction rs with
   | nil => intro k k' e _; rfl
   | cons y ys ih => intro k k' e hk; simp only [cA,decide_eq_false (show ¬ k' < k by omega),Bool.false_eq_true,if_false]; exact ih _ _ _ (by omega)
  have hno' : ∀ (rs : List Rec) (k k' : Nat) (e : Own),k <= k' -> bW rs (fun j => decide (j < k)) k' e = e := by
   intro rs
   induction rs with
   | nil => intro k k' e _; rfl
   | cons y ys ih => intro k k' e hk; simp only [bW,decide_eq_false (show ¬ k' < k by omega),Bool.false_eq_true,if_false]; exact ih _ _ _ (by omega)
  cases i with
  | zero =>
   simp only [cz,oIQ] at hi
   subst hi
   exact ⟨hc1,o,_,env,own,rfl,hr,(hno _ _ _ _ (by omega)).symm,(hno' _ _ _ _ (by omega)).symm⟩
  | succ i =>
   obtain ⟨h5,o',hint,envi,owni,h6,h7,h8,h9⟩ := h4 i r' (by simpa using hi)
   have e1 : k + 1 + i = k + (i + 1) := by omega
   rw [e1] at h7 h8 h9
   refine ⟨h5,o',hint,envi,owni,by simpa using h6,h7,?_,?_⟩
   rw [h8,pB]; simp only [cA,decide_eq_true (show k < k + (i + 1) by omega),if_true]
   rw [h9,gX]; simp only [bW,decide_eq_true (show k < k + (i + 1) by omega),if_true]
  cases h
  cases h
end
end Go.V
