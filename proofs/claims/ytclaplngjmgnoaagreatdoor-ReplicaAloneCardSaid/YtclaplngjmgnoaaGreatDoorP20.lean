/- Part 20 of the proof: texts W12. -/
import Derived.Test.YtclaplngjmgnoaaGreatDoorP19
set_option linter.all false
namespace Go.V
open Go.RowKit
structure Rec where
 dst : Option Nat
 path : Path
 sv : SV
 upd : List (Nat × Ob)
 touch : List Nat
 uses : List Nat
 obs : List Obl
def Rec.obl (r : Rec) : List Prop := pOf r.obs
def iW (o : Oper) : List Nat := o.op.operands.toList.filterMap fun | .tmp t => some t | _ => none
def rB (env : Env) (p : Path) (us : List Nat) : Lk := fun q x => match x with
 | .tmp t => if us.contains t then i7 env p q (.tmp t) else none
 | x => i7 env p q x
def jE (n : Nat) (d : Option Nat) (p : Path) : Bool := match d with
 | some t => decide (t < n) && p.all (fun x => x.1 != t)
 | none => true
def chainB (env : Env) : Path -> Bool
 | [] => true
 | x :: r => (match env x.1 with
  | some (q, .c (.d (.v (.bool _)))) => q == r
  | _ => false) && chainB env r
def fV (env : Env) : Path -> Prop
 | [] => True
 | x :: r => (match env x.1 with
  | some (_, .c (.d (.v (.bool b)))) => b = x.2
  | _ => False) /\ fV env r
theorem nV {fr : Fr} {n : Nat} {env : Env} {own : Own} {a : Act} {w : World} {pl : Pl} (h : Ok fr n env own a w pl) : ∀ {p : Path}, chainB env p = true -> fV env p -> Eng.Holds a p
 | [], _, _ => fun x hx => by cases hx
 | x :: r, hc, hh => by
  simp only [chainB, bIQ] at hc
  obtain ⟨hc1, hc2⟩ := hc
  obtain ⟨hh1, hh2⟩ := hh
  have ih := nV h hc2 hh2
  split at hc1
  rename_i q b hx
  simp only [beq_iff_eq] at hc1
  subst hc1
  rw [hx] at hh1
  have hv : a.tmps.getD x.1 undef = .bool b := Rd.exact (h.yes x.1 q _ hx ih)
  intro y hy
  rcases List.mem_cons.1 hy with rfl | hy
  rw [hv]; exact congrArg Value.bool hh1
  exact ih y hy
  cases hc1
theorem eJ {env env' : Env} : ∀ {p : Path}, (∀ x ∈ p, env' x.1 = env x.1) -> chainB env' p = chainB env p /\ fV env' p = fV env p
 | [], _ => ⟨rfl, rfl⟩
 | x :: r, h => by
  obtain ⟨h1, h2⟩ := eJ (p := r) fun y hy => h y (by simp [hy])
  simp only [chainB, fV, h x (by simp), h1, h2, and_self]
theorem aDN {env : Env} : ∀ (q : Path) {c : Prop}, c -> imp env q c
 | [], _, h => h
 | x :: r, c, h => by
  unfold imp
  split
  exact fun _ => aDN r h
  exact aDN r h
def aDO (env : Env) (q : Path) (o : Obl) : Obl := ⟨imp env q o.p, o.b, fun h => aDN q (o.h h), o.k⟩
theorem aE3 (env : Env) (q : Path) (l : List Obl) : pOf (l.map (aDO env q)) = (pOf l).map (imp env q) := by simp [pOf, aDO, Function.comp_def]
def i8 (env : Env) : Path -> Bool
 | [] => true
 | x :: r => (match env x.1 with
  | some (_, .c (.d (.v (.bool b)))) => b == x.2
  | _ => false) && i8 env r
theorem holdsB_iff {env : Env} : ∀ {p : Path}, i8 env p = true ↔ fV env p
 | [] => ⟨fun _ => trivial, fun _ => rfl⟩
 | x :: r => by
  simp only [i8, fV, bIQ, holdsB_iff (p := r)]
  refine and_congr ?_ Iff.rfl
  split
  simp
  simp
def holdsO (env : Env) (p : Path) : Obl := ⟨fV env p, i8 env p, holdsB_iff.1, false⟩
def notO (env : Env) (p : Path) : Obl := ⟨¬ fV env p, !i8 env p, fun h hh => (by rw [holdsB_iff.2 hh] at h; exact Bool.noConfusion h), false⟩
def aEZ (P : Program) (G : List (Nat × List Value)) (n rid : Nat) (ops : Array Oper) (env : bN) (own : aZ) (i : Nat) (o : Oper) (hint : Hint) : Option Rec :=
 match pathOf ops (aE env) o with
 | some p => if closed (aE env) p && jE n o.dst p then
   match opE P G (rB (aE env) p (iW o)) (lookO own) o (100 * (rid + 1) + i) hint with
   | some e => if p.isEmpty || e.upd.isEmpty then some ⟨o.dst, p, e.sv, e.upd, e.touch, iW o ++ p.map (·.1), e.obs.map (aDO (aE env) p)⟩
     else if chainB (aE env) p then some ⟨o.dst, [], e.sv, e.upd, e.touch, iW o ++ p.map (·.1), holdsO (aE env) p :: e.obs.map (aDO (aE env) p)⟩ else none
   | none => none
  else none
 | none => none
def recD (n : Nat) (ops : Array Oper) (env : bN) (o : Oper) (sv : SV) : Option Rec :=
 match pathOf ops (aE env) o with
 | some p => if closed (aE env) p && jE n o.dst p && chainB (aE env) p then some ⟨o.dst, p, sv, [], [], p.map (·.1), [notO (aE env) p]⟩ else none
 | none => none
def aKU (P : Program) (G : List (Nat × List Value)) (n rid : Nat) (ops : Array Oper) (env : bN) (own : aZ) (i : Nat) (o : Oper) (hint : Hint) : Option Rec :=
 match hint with
 | .dead sv => recD n ops env o sv
 | hint => aEZ P G n rid ops env own i o hint
theorem nW {fr : Fr} {n : Nat} {env : Env} {own : Own} {a : Act} {w : World} {pl : Pl} (h : Ok fr n env own a w pl) : ∀ {p : Path}, chainB env p = true -> Eng.Holds a p -> fV env p
 | [], _, _ => trivial
 | x :: r, hc, hh => by
  simp only [chainB, bIQ] at hc
  obtain ⟨hc1, hc2⟩ := hc
  have hr : Eng.Holds a r := fun y hy => hh y (List.mem_cons_of_mem _ hy)
  have ih := nW h hc2 hr
  refine ⟨?_, ih⟩
  split at hc1
  rename_i q b hx
  simp only [beq_iff_eq] at hc1
  subst hc1
  have hv : a.tmps.getD x.1 undef = .bool b := Rd.exact (h.yes x.1 q _ hx hr)
  have h2 := hh x List.mem_cons_self
  first | exact Value.bool.inj (hv.symm.trans h2) | (simp only [hx]; exact Value.bool.inj (hv.symm.trans h2))
  cases hc1
def dH (env : Env) (r : Rec) : Env := match r.dst with
 | some t => upd env t (r.path, r.sv)
 | none => env
theorem sE {f : Prop -> Prop} (h : ∀ c, f c -> c) : ∀ {l : List Prop}, conj (l.map f) -> conj l
 | [], _ => trivial
 | [c], hc => h c hc
 | c :: d :: r, hc => by
  obtain ⟨h1, h2⟩ := eA (c := f c) (r := (d :: r).map f) hc
  exact ⟨h c h1, sE h h2⟩
section
variable {P : Program} {fr : Fr} {n rid : Nat} {Q : Exit -> Act -> World -> Prop} {ops : Array Oper}
theorem rec_ok0 {envL : bN} {ownL : aZ} {i : Nat} {o : Oper} {hint : Hint} {r : Rec} (h : aEZ P fr.G n rid ops envL ownL i o hint = some r) (hobl : conj r.obl) (hoi : ops[i]? = some o)
  {env : Env} {own : Own} {a : Act} {w : World} {pl : Pl} (hok : Ok fr n env own a w pl) (hu : ∀ u ∈ r.uses, env u = aE envL u) (ht : ∀ j ∈ r.touch, own j = lookO ownL j)
  (hm : ∀ t, r.dst = some t -> ∀ u q sv, env u = some (q, sv) -> u ≠ t -> ∀ x ∈ q, x.1 ≠ t) {K : Act -> World -> Prop} (hK : ∀ a' w' pl', Ok fr n (dH env r) (aS own r.upd) a' w' pl' -> K a' w') : dV P ops i K a w := by
 unfold aEZ at h
 split at h
 rename_i p hp
 split at h
 rename_i hc
 simp only [bIQ] at hc
 split at h
 rename_i e he
 split at h
 rename_i hpe
 simp only [oIQ] at h
 subst h
 simp only at hobl hu ht hm hK
 have hpu : ∀ x ∈ p, env x.1 = aE envL x.1 := fun x hx => hu x.1 (by simp only [List.mem_append, List.mem_map]; exact .inr ⟨x, hx, rfl⟩)
 have hpath : pathOf ops env o = some p := by
  have hp' := hp
  unfold pathOf at hp ⊢
  split at hp
  exact hp
  rename_i j want hg
  split at hp
  cases hp
  rename_i g hd
  split at hp
  rename_i q b hfd
  simp only [oIQ] at hp
  have : env g = aE envL g := hpu (g, want) (by rw [<- hp]; simp)
  simp only [hd, this, hfd, hp]
  cases hp
 have hcl : closed env p = true := by
  have h1 := hc.1
  simp only [closed, List.all_eq_true] at h1 ⊢
  intro x hx
  rw [hpu x hx]
  exact h1 x hx
 have hw := fM hok hpath
 have hlk : aW a w pl own p (rB (aE envL) p (iW o)) := by
  intro q x sv hs hq hh
  refine gR hok p q x sv ?_ hq hh
  cases x with
  | tmp t =>
   simp only [rB] at hs
   split at hs
   rename_i hin
   have : env t = aE envL t := hu t (by simp only [List.mem_append]; exact .inl (by simpa using hin))
   simp only [i7] at hs ⊢
   rw [this]; exact hs
   cases hs
  | const v => exact hs
  | global g => exact hs
  | func f => exact hs
 unfold dV
 rw [hoi]
 simp only
 by_cases hh : Eng.Holds a p
 rw [if_pos (hw.2 hh)]
 have ho : conj e.obl := sE (fun c hc' => xF hok hh hcl p (fun _ h => h) (by rw [nT p hpu]; exact hc')) (aE3 (aE envL) p e.obs ▸ (show conj (pOf (e.obs.map (aDO (aE envL) p))) from hobl))
 refine nM hok.mem hlk hh he ht ho K fun v w' pl' m' L hv => ?_
 refine hK _ w' pl' ?_
 have hok' := hok.later m' L
 cases hd : o.dst with
 | none => simp only [dH, hd]; exact hok'
 | some t =>
  have hdo := hc.2
  simp only [jE, hd, bIQ, decide_eq_true_eq, List.all_eq_true, bne_iff_ne] at hdo
  simp only [dH, hd]
  exact hok'.put hdo.1 (hm t hd) (fun x hx => hdo.2 x hx) (fun _ => hv.resolve_left (by rw [hd]; simp)) (fun h => absurd hh h)
 rw [if_neg (fun h => hh (hw.1 h))]
 have hue : e.upd = [] := by
  simp only [Bool.or_eq_true, List.isEmpty_iff] at hpe
  rcases hpe with h0 | h0
  subst h0; exact absurd holds_nil hh
  exact h0
 refine hK _ w pl ?_
 simp only [hue, aS]
 cases hd : o.dst with
 | none => simp only [dH, hd]; exact hok
 | some t =>
  have hdo := hc.2
  simp only [jE, hd, bIQ, decide_eq_true_eq, List.all_eq_true, bne_iff_ne] at hdo
  simp only [dH, hd]
  exact hok.put hdo.1 (hm t hd) (fun x hx => hdo.2 x hx) (fun h => absurd h hh) (fun _ => rfl)
 split at h
 rename_i hpe hch
 simp only [oIQ] at h
 subst h
 simp only at hobl hu ht hm hK
 have hpu : ∀ x ∈ p, env x.1 = aE envL x.1 := fun x hx => hu x.1 (by simp only [List.mem_append, List.mem_map]; exact .inr ⟨x, hx, rfl⟩)
 have hpath : pathOf ops env o = some p := by
  have hp' := hp
  unfold pathOf at hp ⊢
  split at hp
  exact hp
  rename_i j want hg
  split at hp
  cases hp
  rename_i g hd
  split at hp
  rename_i q b hfd
  simp only [oIQ] at hp
  have : env g = aE envL g := hpu (g, want) (by rw [<- hp]; simp)
  simp only [hd, this, hfd, hp]
  cases hp
 have hcl : closed env p = true := by
  have h1 := hc.1
  simp only [closed, List.all_eq_true] at h1 ⊢
  intro x hx
  rw [hpu x hx]
  exact h1 x hx
 have hw := fM hok hpath
 have hlk : aW a w pl own p (rB (aE envL) p (iW o)) := by
  intro q x sv hs hq hh
  refine gR hok p q x sv ?_ hq hh
  cases x with
  | tmp t =>
   simp only [rB] at hs
   split at hs
   rename_i hin
   have : env t = aE envL t := hu t (by simp only [List.mem_append]; exact .inl (by simpa using hin))
   simp only [i7] at hs ⊢
   rw [this]; exact hs
   cases hs
  | const v => exact hs
  | global g => exact hs
  | func f => exact hs
 obtain ⟨hP, hobl⟩ := eA (c := fV (aE envL) p) (r := pOf (e.obs.map (aDO (aE envL) p))) hobl
 obtain ⟨q1, q2⟩ := eJ hpu
 have hh : Eng.Holds a p := nV hok (by rw [q1]; exact hch) (by rw [q2]; exact hP)
 unfold dV
 rw [hoi]
 simp only
 rw [if_pos (hw.2 hh)]
 have ho : conj e.obl := sE (fun c hc' => xF hok hh hcl p (fun _ h => h) (by rw [nT p hpu]; exact hc')) (aE3 (aE envL) p e.obs ▸ (show conj (pOf (e.obs.map (aDO (aE envL) p))) from hobl))
 refine nM hok.mem hlk hh he ht ho K fun v w' pl' m' L hv => ?_
 refine hK _ w' pl' ?_
 have hok' := hok.later m' L
 cases hd : o.dst with
 | none => simp only [dH, hd]; exact hok'
 | some t =>
  have hdo := hc.2
  simp only [jE, hd, bIQ, decide_eq_true_eq, List.all_eq_true, bne_iff_ne] at hdo
  simp only [dH, hd]
  exact hok'.put hdo.1 (hm t hd) (fun x hx => by cases hx) (fun _ => hv.resolve_left (by rw [hd]; simp)) (fun h => absurd holds_nil h)
 cases h
 cases h
 cases h
 cases h
theorem recD_ok {envL : bN} {i : Nat} {o : Oper} {sv : SV} {r : Rec} (h : recD n ops envL o sv = some r) (hobl : conj r.obl) (hoi : ops[i]? = some o)
  {env : Env} {own : Own} {a : Act} {w : World} {pl : Pl} (hok : Ok fr n env own a w pl) (hu : ∀ u ∈ r.uses, env u = aE envL u)
  (hm : ∀ t, r.dst = some t -> ∀ u q sv, env u = some (q, sv) -> u ≠ t -> ∀ x ∈ q, x.1 ≠ t) {K : Act -> World -> Prop} (hK : ∀ a' w' pl', Ok fr n (dH env r) (aS own r.upd) a' w' pl' -> K a' w') : dV P ops i K a w := by
 unfold recD at h
 split at h
 rename_i p hp
 split at h
 rename_i hc
 simp only [bIQ] at hc
 simp only [oIQ] at h
 subst h
 simp only at hobl hu hm hK
 have hpu : ∀ x ∈ p, env x.1 = aE envL x.1 := fun x hx => hu x.1 (by simp only [List.mem_map]; exact ⟨x, hx, rfl⟩)
 have hpath : pathOf ops env o = some p := by
  have hp' := hp
  unfold pathOf at hp ⊢
  split at hp
  exact hp
  rename_i j want hg
  split at hp
  cases hp
  rename_i g hd
  split at hp
  rename_i q b hfd
  simp only [oIQ] at hp
  have : env g = aE envL g := hpu (g, want) (by rw [<- hp]; simp)
  simp only [hd, this, hfd, hp]
  cases hp
 have hw := fM hok hpath
 obtain ⟨q1, q2⟩ := eJ hpu
 have hh : ¬ Eng.Holds a p := fun h => hobl (by rw [<- q2]; exact nW hok (by rw [q1]; exact hc.2) h)
 unfold dV
 rw [hoi]
 simp only
 rw [if_neg (fun h => hh (hw.1 h))]
 refine hK _ w pl ?_
 simp only [aS]
 cases hd : o.dst with
 | none => simp only [dH, hd]; exact hok
 | some t =>
  have hdo := hc.1.2
  simp only [jE, hd, bIQ, decide_eq_true_eq, List.all_eq_true, bne_iff_ne] at hdo
  simp only [dH, hd]
  exact hok.put hdo.1 (hm t hd) (fun x hx => hdo.2 x hx) (fun h => absurd h hh) (fun _ => rfl)
 cases h
 cases h
theorem rec_ok {envL : bN} {ownL : aZ} {i : Nat} {o : Oper} {hint : Hint} {r : Rec} (h : aKU P fr.G n rid ops envL ownL i o hint = some r) (hobl : conj r.obl) (hoi : ops[i]? = some o)
  {env : Env} {own : Own} {a : Act} {w : World} {pl : Pl} (hok : Ok fr n env own a w pl) (hu : ∀ u ∈ r.uses, env u = aE envL u) (ht : ∀ j ∈ r.touch, own j = lookO ownL j)
  (hm : ∀ t, r.dst = some t -> ∀ u q sv, env u = some (q, sv) -> u ≠ t -> ∀ x ∈ q, x.1 ≠ t) {K : Act -> World -> Prop} (hK : ∀ a' w' pl', Ok fr n (dH env r) (aS own r.upd) a' w' pl' -> K a' w') : dV P ops i K a w := by
 unfold aKU at h
 split at h
 exact recD_ok h hobl hoi hok hu hm hK
 exact rec_ok0 h hobl hoi hok hu ht hm hK
abbrev bU := List (Nat × Nat × Hint)
def hintOf (hs : bU) (rid i : Nat) : Hint := match hs.find? (fun x => x.1 == rid && x.2.1 == i) with
 | some x => x.2.2
 | none => .none
def aK2 (env : bN) (r : Rec) : bN := match r.dst with
 | some t => s7 env t (r.path, r.sv)
 | none => env
def lS (P : Program) (G : List (Nat × List Value)) (n rid : Nat) (ops : Array Oper) (hs : bU) : Nat -> List Oper -> bN -> aZ -> Option (List Rec × bN × aZ × List Prop)
 | _, [], env, own => some ([], env, own, [])
 | i, o :: l, env, own => match aKU P G n rid ops env own i o (hintOf hs rid i) with
  | some r => match lS P G n rid ops hs (i + 1) l (aK2 env r) (dF own r.upd) with
   | some (rs, env', own', cs) => some (r :: rs, env', own', r.obl ++ cs)
   | none => none
  | none => none
def bM : List Rec -> (Nat -> Bool) -> Nat -> Env -> Env
 | [], _, _, env => env
 | r :: rs, D, k, env => bM rs D (k + 1) (if D k then dH env r else env)
def bI : List Rec -> (Nat -> Bool) -> Nat -> Own -> Own
 | [], _, _, own => own
 | r :: rs, D, k, own => bI rs D (k + 1) (if D k then aS own r.upd else own)
theorem pD (env : bN) (r : Rec) : aE (aK2 env r) = dH (aE env) r := by
 unfold aK2 dH
 cases r.dst with
 | none => rfl
 | some t => exact kZ env t _
theorem cX : ∀ {l m : List Prop}, conj (l ++ m) -> conj l /\ conj m
 | [], m, h => ⟨trivial, h⟩
 | [c], m, h => eA h
 | c :: d :: r, m, h => by
  obtain ⟨h1, h2⟩ := eA (c := c) (r := (d :: r) ++ m) h
  obtain ⟨h3, h4⟩ := cX (l := d :: r) h2
  exact ⟨⟨h1, h3⟩, h4⟩
theorem cC : ∀ (rs : List Rec) (D D' : Nat -> Bool) (k : Nat) (env env' : Env) (u : Nat), env u = env' u -> (∀ j r, rs[j]? = some r -> r.dst = some u -> D (k + j) = D' (k + j)) -> bM rs D k env u = bM rs D' k env' u
 | [], D, D', k, env, env', u, h, _ => h
 | r :: rs, D, D', k, env, env', u, h, hd => by
  refine cC rs D D' (k + 1) _ _ u ?_ (fun j r' hj hr => by have := hd (j + 1) r' (by simpa using hj) hr; rw [show k + 1 + j = k + (j + 1) by omega]; exact this)
  have h0 := hd 0 r rfl
  rw [Nat.add_zero] at h0
  by_cases hu : r.dst = some u
  rw [h0 hu]
  cases D' k with
  | true => simp only [if_true, dH, hu, upd_same]
  | false => simp only [Bool.false_eq_true, if_false]; exact h
  have hp : ∀ e : Env, dH e r u = e u := by
   intro e
   unfold dH
   cases hd' : r.dst with
   | none => rfl
   | some t => exact upd_ne _ _ (fun e => hu (by rw [hd', e]))
  cases D k <;> cases D' k <;> simp only [Bool.false_eq_true, if_false, if_true, hp] <;> exact h
theorem oA : ∀ (rs : List Rec) (D : Nat -> Bool) (k : Nat) (env : Env) (u i : Nat) (r : Rec), rs[i]? = some r -> r.dst = some u -> D (k + i) = true -> (∀ j r', i < j -> rs[j]? = some r' -> r'.dst = some u -> D (k + j) = false) -> bM rs D k env u = some (r.path, r.sv)
 | [], D, k, env, u, i, r, h, _, _, _ => by simp at h
 | x :: rs, D, k, env, u, 0, r, h, hr, hD, hl => by
  simp only [List.getElem?_cons_zero, oIQ] at h
  subst h
  rw [Nat.add_zero] at hD
  simp only [bM, hD, if_true]
  rw [cC rs D (fun _ => false) (k + 1) _ (dH env x) u rfl (fun j r' hj hr' => by
   have := hl (j + 1) r' (by omega) (by simpa using hj) hr'
   rw [show k + 1 + j = k + (j + 1) by omega]; exact this)]
  have hno : ∀ (rs : List Rec) (k : Nat) (e : Env), bM rs (fun _ => false) k e = e := by
   intro rs
   induction rs with
   | nil => intro k e; rfl
   | cons y ys ih => intro k e; simp only [bM, Bool.false_eq_true, if_false]; exact ih _ _
  rw [hno, dH, hr]
  exact upd_same _ _ _
 | x :: rs, D, k, env, u, i + 1, r, h, hr, hD, hl => by
  simp only [bM]
  exact oA rs D (k + 1) _ u i r (by simpa using h) hr (by rw [show k + 1 + i = k + (i + 1) by omega]; exact hD) (fun j r' hj hj' hr' => by
   have := hl (j + 1) r' (by omega) (by simpa using hj') hr'
   rw [show k + 1 + j = k + (j + 1) by omega]; exact this)
def keys (l : List (Nat × Ob)) : List Nat := l.map (·.1)
theorem eO : ∀ (l : List (Nat × Ob)) (own : Own) (x : Nat), x ∉ keys l -> aS own l x = own x
 | [], own, x, _ => rfl
 | (i, o) :: r, own, x, h => by
  simp only [keys, List.map_cons, List.mem_cons, not_or] at h
  simp only [aS]
  rw [eO r _ x h.2, upd_ne _ _ h.1]
theorem vU : ∀ (l : List (Nat × Ob)) (own own' : Own) (x : Nat), x ∈ keys l -> aS own l x = aS own' l x
 | [], own, own', x, h => by simp [keys] at h
 | (i, o) :: r, own, own', x, h => by
  simp only [aS]
  by_cases hr : x ∈ keys r
  exact vU r _ _ x hr
  rw [eO r _ x hr, eO r _ x hr]
  simp only [keys, List.map_cons, List.mem_cons] at h
  rcases h with rfl | h
  rw [upd_same, upd_same]
  exact absurd h hr
theorem b9 : ∀ (rs : List Rec) (D D' : Nat -> Bool) (k : Nat) (own own' : Own) (x : Nat), own x = own' x -> (∀ j r, rs[j]? = some r -> x ∈ keys r.upd -> D (k + j) = D' (k + j)) -> bI rs D k own x = bI rs D' k own' x
 | [], D, D', k, own, own', x, h, _ => h
 | r :: rs, D, D', k, own, own', x, h, hd => by
  refine b9 rs D D' (k + 1) _ _ x ?_ (fun j r' hj hr => by have := hd (j + 1) r' (by simpa using hj) hr; rw [show k + 1 + j = k + (j + 1) by omega]; exact this)
  have h0 := hd 0 r rfl
  rw [Nat.add_zero] at h0
  by_cases hu : x ∈ keys r.upd
  rw [h0 hu]
  cases D' k with
  | true => simp only [if_true]; exact vU _ _ _ x hu
  | false => simp only [Bool.false_eq_true, if_false]; exact h
  cases D k <;> cases D' k <;> simp only [Bool.false_eq_true, if_false, if_true, eO _ _ x hu] <;> exact h
theorem nL : ∀ (rs : List Rec) (D : Nat -> Bool) (k : Nat) (own own' : Own) (x i : Nat) (r : Rec), rs[i]? = some r -> x ∈ keys r.upd -> D (k + i) = true -> (∀ j r', i < j -> rs[j]? = some r' -> x ∈ keys r'.upd -> D (k + j) = false) -> bI rs D k own x = aS own' r.upd x
 | [], D, k, own, own', x, i, r, h, _, _, _ => by simp at h
 | y :: rs, D, k, own, own', x, 0, r, h, hr, hD, hl => by
  simp only [List.getElem?_cons_zero, oIQ] at h
  subst h
  rw [Nat.add_zero] at hD
  simp only [bI, hD, if_true]
  rw [b9 rs D (fun _ => false) (k + 1) _ (aS own' y.upd) x (vU _ _ _ x hr) (fun j r' hj hr' => by
   have := hl (j + 1) r' (by omega) (by simpa using hj) hr'
   rw [show k + 1 + j = k + (j + 1) by omega]; exact this)]
  have hno : ∀ (rs : List Rec) (k : Nat) (e : Own), bI rs (fun _ => false) k e = e := by
   intro rs
   induction rs with
   | nil => intro k e; rfl
   | cons y ys ih => intro k e; simp only [bI, Bool.false_eq_true, if_false]; exact ih _ _
  rw [hno]
 | y :: rs, D, k, own, own', x, i + 1, r, h, hr, hD, hl => by
  simp only [bI]
  exact nL rs D (k + 1) _ own' x i r (by simpa using h) hr (by rw [show k + 1 + i = k + (i + 1) by omega]; exact hD) (fun j r' hj hj' hr' => by
   have := hl (j + 1) r' (by omega) (by simpa using hj') hr'
   rw [show k + 1 + j = k + (j + 1) by omega]; exact this)
theorem fQ {hs : bU} {G : List (Nat × List Value)} : ∀ {l : List Oper} {k : Nat} {env : bN} {own : aZ} {rs : List Rec} {env' : bN} {own' : aZ} {cs : List Prop}, lS P G n rid ops hs k l env own = some (rs, env', own', cs) -> conj cs ->
  rs.length = l.length /\ aE env' = bM rs (fun _ => true) k (aE env) /\ lookO own' = bI rs (fun _ => true) k (lookO own) /\
   ∀ i r, rs[i]? = some r -> conj r.obl /\ ∃ o hint envi owni, l[i]? = some o /\ aKU P G n rid ops envi owni (k + i) o hint = some r /\ aE envi = bM rs (fun j => decide (j < k + i)) k (aE env) /\ lookO owni = bI rs (fun j => decide (j < k + i)) k (lookO own)
 | [], k, env, own, rs, env', own', cs, h, _ => by
  simp only [lS, oIQ, pIQ] at h
  obtain ⟨rfl, rfl, rfl, rfl⟩ := h
  exact ⟨rfl, rfl, rfl, fun i r hi => by simp at hi⟩
 | o :: l, k, env, own, rs, env', own', cs, h, hc => by
  simp only [lS] at h
  split at h
  rename_i r hr
  split at h
  rename_i rs' env1 own1 cs' hrs
  simp only [oIQ, pIQ] at h
  obtain ⟨rfl, rfl, rfl, rfl⟩ := h
  obtain ⟨hc1, hc2⟩ := cX hc
  obtain ⟨h1, h2, h3, h4⟩ := fQ hrs hc2
  refine ⟨by simp [h1], ?_, ?_, fun i r' hi => ?_⟩
  rw [h2, pD]; rfl
  rw [h3, bJ]; rfl
  have hno : ∀ (rs : List Rec) (k k' : Nat) (e : Env), k <= k' -> bM rs (fun j => decide (j < k)) k' e = e := by
   intro rs
   induction rs with
   | nil => intro k k' e _; rfl
   | cons y ys ih => intro k k' e hk; simp only [bM, decide_eq_false (show ¬ k' < k by omega), Bool.false_eq_true, if_false]; exact ih _ _ _ (by omega)
  have hno' : ∀ (rs : List Rec) (k k' : Nat) (e : Own), k <= k' -> bI rs (fun j => decide (j < k)) k' e = e := by
   intro rs
   induction rs with
   | nil => intro k k' e _; rfl
   | cons y ys ih => intro k k' e hk; simp only [bI, decide_eq_false (show ¬ k' < k by omega), Bool.false_eq_true, if_false]; exact ih _ _ _ (by omega)
  cases i with
  | zero =>
   simp only [List.getElem?_cons_zero, oIQ] at hi
   subst hi
   exact ⟨hc1, o, _, env, own, rfl, hr, (hno _ _ _ _ (by omega)).symm, (hno' _ _ _ _ (by omega)).symm⟩
  | succ i =>
   obtain ⟨h5, o', hint, envi, owni, h6, h7, h8, h9⟩ := h4 i r' (by simpa using hi)
   have e1 : k + 1 + i = k + (i + 1) := by omega
   rw [e1] at h7 h8 h9
   refine ⟨h5, o', hint, envi, owni, by simpa using h6, h7, ?_, ?_⟩
   rw [h8, pD]; simp only [bM, decide_eq_true (show k < k + (i + 1) by omega), if_true]
   rw [h9, bJ]; simp only [bI, decide_eq_true (show k < k + (i + 1) by omega), if_true]
  cases h
  cases h
end
end Go.V
