/- Part 20 of the proof: texts W12. -/
import Derived.Test.YtclaplngjmgnoaaGreatDoorP19
set_option linter.all false
namespace Go.V
open Go.RowKit
structure Rec where
 dst : Option Nat
 path : Path
 sv : SV
 upd : List (Nat × Ob)
 touch : List Nat
 uses : List Nat
 obs : List Obl
def Rec.obl (r : Rec) : List Prop := pOf r.obs
def iY (o : Oper) : List Nat := o.op.operands.toList.filterMap fun | .tmp t => some t | _ => none
def rI (env : Env) (p : Path) (us : List Nat) : Lk := fun q x => match x with
 | .tmp t => if us.contains t then jA env p q (.tmp t) else none
 | x => jA env p q x
def jG (n : Nat) (d : Option Nat) (p : Path) : Bool := match d with
 | some t => decide (t < n) && p.all (fun x => x.1 != t)
 | none => true
def chainB (env : Env) : Path -> Bool
 | [] => true
 | x :: r => (match env x.1 with
  | some (q, .c (.d (.v (.bool _)))) => q == r
  | _ => false) && chainB env r
def fZ (env : Env) : Path -> Prop
 | [] => True
 | x :: r => (match env x.1 with
  | some (_, .c (.d (.v (.bool b)))) => b = x.2
  | _ => False) /\ fZ env r
theorem oK {fr : Fr} {n : Nat} {env : Env} {own : Own} {a : Act} {w : World} {pl : Pl} (h : Ok fr n env own a w pl) : ∀ {p : Path}, chainB env p = true -> fZ env p -> Eng.Holds a p
 | [], _, _ => fun x hx => by cases hx
 | x :: r, hc, hh => by
  simp only [chainB, bIQ] at hc
  obtain ⟨hc1, hc2⟩ := hc
  obtain ⟨hh1, hh2⟩ := hh
  have ih := oK h hc2 hh2
  split at hc1
  rename_i q b hx
  simp only [beq_iff_eq] at hc1
  subst hc1
  rw [hx] at hh1
  have hv : a.tmps.getD x.1 undef = .bool b := Rd.exact (h.yes x.1 q _ hx ih)
  intro y hy
  rcases List.mem_cons.1 hy with rfl | hy
  rw [hv]; exact congrArg Value.bool hh1
  exact ih y hy
  cases hc1
theorem eI {env env' : Env} : ∀ {p : Path}, (∀ x ∈ p, env' x.1 = env x.1) -> chainB env' p = chainB env p /\ fZ env' p = fZ env p
 | [], _ => ⟨rfl, rfl⟩
 | x :: r, h => by
  obtain ⟨h1, h2⟩ := eI (p := r) fun y hy => h y (by simp [hy])
  simp only [chainB, fZ, h x (by simp), h1, h2, and_self]
theorem aDZ {env : Env} : ∀ (q : Path) {c : Prop}, c -> imp env q c
 | [], _, h => h
 | x :: r, c, h => by
  unfold imp
  split
  exact fun _ => aDZ r h
  exact aDZ r h
def aD0 (env : Env) (q : Path) (o : Obl) : Obl := ⟨imp env q o.p, o.b, fun h => aDZ q (o.h h), o.k⟩
theorem aFF (env : Env) (q : Path) (l : List Obl) : pOf (l.map (aD0 env q)) = (pOf l).map (imp env q) := by simp [pOf, aD0, Function.comp_def]
def jC (env : Env) : Path -> Bool
 | [] => true
 | x :: r => (match env x.1 with
  | some (_, .c (.d (.v (.bool b)))) => b == x.2
  | _ => false) && jC env r
theorem holdsB_iff {env : Env} : ∀ {p : Path}, jC env p = true ↔ fZ env p
 | [] => ⟨fun _ => trivial, fun _ => rfl⟩
 | x :: r => by
  simp only [jC, fZ, bIQ, holdsB_iff (p := r)]
  refine and_congr ?_ Iff.rfl
  split
  simp
  simp
def holdsO (env : Env) (p : Path) : Obl := ⟨fZ env p, jC env p, holdsB_iff.1, false⟩
def notO (env : Env) (p : Path) : Obl := ⟨¬ fZ env p, !jC env p, fun h hh => (by rw [holdsB_iff.2 hh] at h; exact Bool.noConfusion h), false⟩
def aFB (P : Program) (G : List (Nat × List Value)) (n rid : Nat) (ops : Array Oper) (env : bM) (own : aV) (i : Nat) (o : Oper) (hint : Hint) : Option Rec :=
 match pathOf ops (aE env) o with
 | some p => if closed (aE env) p && jG n o.dst p then
   match opE P G (rI (aE env) p (iY o)) (lookO own) o (100 * (rid + 1) + i) hint with
   | some e => if p.isEmpty || e.upd.isEmpty then some ⟨o.dst, p, e.sv, e.upd, e.touch, iY o ++ p.map (·.1), e.obs.map (aD0 (aE env) p)⟩
     else if chainB (aE env) p then some ⟨o.dst, [], e.sv, e.upd, e.touch, iY o ++ p.map (·.1), holdsO (aE env) p :: e.obs.map (aD0 (aE env) p)⟩ else none
   | none => none
  else none
 | none => none
def recD (n : Nat) (ops : Array Oper) (env : bM) (o : Oper) (sv : SV) : Option Rec :=
 match pathOf ops (aE env) o with
 | some p => if closed (aE env) p && jG n o.dst p && chainB (aE env) p then some ⟨o.dst, p, sv, [], [], p.map (·.1), [notO (aE env) p]⟩ else none
 | none => none
def aK4 (P : Program) (G : List (Nat × List Value)) (n rid : Nat) (ops : Array Oper) (env : bM) (own : aV) (i : Nat) (o : Oper) (hint : Hint) : Option Rec :=
 match hint with
 | .dead sv => recD n ops env o sv
 | hint => aFB P G n rid ops env own i o hint
theorem oM {fr : Fr} {n : Nat} {env : Env} {own : Own} {a : Act} {w : World} {pl : Pl} (h : Ok fr n env own a w pl) : ∀ {p : Path}, chainB env p = true -> Eng.Holds a p -> fZ env p
 | [], _, _ => trivial
 | x :: r, hc, hh => by
  simp only [chainB, bIQ] at hc
  obtain ⟨hc1, hc2⟩ := hc
  have hr : Eng.Holds a r := fun y hy => hh y (List.mem_cons_of_mem _ hy)
  have ih := oM h hc2 hr
  refine ⟨?_, ih⟩
  split at hc1
  rename_i q b hx
  simp only [beq_iff_eq] at hc1
  subst hc1
  have hv : a.tmps.getD x.1 undef = .bool b := Rd.exact (h.yes x.1 q _ hx hr)
  have h2 := hh x List.mem_cons_self
  first | exact Value.bool.inj (hv.symm.trans h2) | (simp only [hx]; exact Value.bool.inj (hv.symm.trans h2))
  cases hc1
def dG (env : Env) (r : Rec) : Env := match r.dst with
 | some t => upd env t (r.path, r.sv)
 | none => env
theorem sN {f : Prop -> Prop} (h : ∀ c, f c -> c) : ∀ {l : List Prop}, conj (l.map f) -> conj l
 | [], _ => trivial
 | [c], hc => h c hc
 | c :: d :: r, hc => by
  obtain ⟨h1, h2⟩ := d8 (c := f c) (r := (d :: r).map f) hc
  exact ⟨h c h1, sN h h2⟩
section
variable {P : Program} {fr : Fr} {n rid : Nat} {Q : Exit -> Act -> World -> Prop} {ops : Array Oper}
theorem rec_ok0 {envL : bM} {ownL : aV} {i : Nat} {o : Oper} {hint : Hint} {r : Rec} (h : aFB P fr.G n rid ops envL ownL i o hint = some r) (hobl : conj r.obl) (hoi : ops[i]? = some o)
  {env : Env} {own : Own} {a : Act} {w : World} {pl : Pl} (hok : Ok fr n env own a w pl) (hu : ∀ u ∈ r.uses, env u = aE envL u) (ht : ∀ j ∈ r.touch, own j = lookO ownL j)
  (hm : ∀ t, r.dst = some t -> ∀ u q sv, env u = some (q, sv) -> u ≠ t -> ∀ x ∈ q, x.1 ≠ t) {K : Act -> World -> Prop} (hK : ∀ a' w' pl', Ok fr n (dG env r) (aW own r.upd) a' w' pl' -> K a' w') : d3 P ops i K a w := by
 unfold aFB at h
 split at h
 rename_i p hp
 split at h
 rename_i hc
 simp only [bIQ] at hc
 split at h
 rename_i e he
 split at h
 rename_i hpe
 simp only [oIQ] at h
 subst h
 simp only at hobl hu ht hm hK
 have hpu : ∀ x ∈ p, env x.1 = aE envL x.1 := fun x hx => hu x.1 (by simp only [List.mem_append, List.mem_map]; exact .inr ⟨x, hx, rfl⟩)
 have hpath : pathOf ops env o = some p := by
  have hp' := hp
  unfold pathOf at hp ⊢
  split at hp
  exact hp
  rename_i j want hg
  split at hp
  cases hp
  rename_i g hd
  split at hp
  rename_i q b hfd
  simp only [oIQ] at hp
  have : env g = aE envL g := hpu (g, want) (by rw [<- hp]; simp)
  simp only [hd, this, hfd, hp]
  cases hp
 have hcl : closed env p = true := by
  have h1 := hc.1
  simp only [closed, List.all_eq_true] at h1 ⊢
  intro x hx
  rw [hpu x hx]
  exact h1 x hx
 have hw := fQ hok hpath
 have hlk : aZ a w pl own p (rI (aE envL) p (iY o)) := by
  intro q x sv hs hq hh
  refine gW hok p q x sv ?_ hq hh
  cases x with
  | tmp t =>
   simp only [rI] at hs
   split at hs
   rename_i hin
   have : env t = aE envL t := hu t (by simp only [List.mem_append]; exact .inl (by simpa using hin))
   simp only [jA] at hs ⊢
   rw [this]; exact hs
   cases hs
  | const v => exact hs
  | global g => exact hs
  | func f => exact hs
 unfold d3
 rw [hoi]
 simp only
 by_cases hh : Eng.Holds a p
 rw [if_pos (hw.2 hh)]
 have ho : conj e.obl := sN (fun c hc' => xT hok hh hcl p (fun _ h => h) (by rw [oI p hpu]; exact hc')) (aFF (aE envL) p e.obs ▸ (show conj (pOf (e.obs.map (aD0 (aE envL) p))) from hobl))
 refine nY hok.mem hlk hh he ht ho K fun v w' pl' m' L hv => ?_
 refine hK _ w' pl' ?_
 have hok' := hok.later m' L
 cases hd : o.dst with
 | none => simp only [dG, hd]; exact hok'
 | some t =>
  have hdo := hc.2
  simp only [jG, hd, bIQ, decide_eq_true_eq, List.all_eq_true, bne_iff_ne] at hdo
  simp only [dG, hd]
  exact hok'.put hdo.1 (hm t hd) (fun x hx => hdo.2 x hx) (fun _ => hv.resolve_left (by rw [hd]; simp)) (fun h => absurd hh h)
 rw [if_neg (fun h => hh (hw.1 h))]
 have hue : e.upd = [] := by
  simp only [Bool.or_eq_true, List.isEmpty_iff] at hpe
  rcases hpe with h0 | h0
  subst h0; exact absurd holds_nil hh
  exact h0
 refine hK _ w pl ?_
 simp only [hue, aW]
 cases hd : o.dst with
 | none => simp only [dG, hd]; exact hok
 | some t =>
  have hdo := hc.2
  simp only [jG, hd, bIQ, decide_eq_true_eq, List.all_eq_true, bne_iff_ne] at hdo
  simp only [dG, hd]
  exact hok.put hdo.1 (hm t hd) (fun x hx => hdo.2 x hx) (fun h => absurd h hh) (fun _ => rfl)
 split at h
 rename_i hpe hch
 simp only [oIQ] at h
 subst h
 simp only at hobl hu ht hm hK
 have hpu : ∀ x ∈ p, env x.1 = aE envL x.1 := fun x hx => hu x.1 (by simp only [List.mem_append, List.mem_map]; exact .inr ⟨x, hx, rfl⟩)
 have hpath : pathOf ops env o = some p := by
  have hp' := hp
  unfold pathOf at hp ⊢
  split at hp
  exact hp
  rename_i j want hg
  split at hp
  cases hp
  rename_i g hd
  split at hp
  rename_i q b hfd
  simp only [oIQ] at hp
  have : env g = aE envL g := hpu (g, want) (by rw [<- hp]; simp)
  simp only [hd, this, hfd, hp]
  cases hp
 have hcl : closed env p = true := by
  have h1 := hc.1
  simp only [closed, List.all_eq_true] at h1 ⊢
  intro x hx
  rw [hpu x hx]
  exact h1 x hx
 have hw := fQ hok hpath
 have hlk : aZ a w pl own p (rI (aE envL) p (iY o)) := by
  intro q x sv hs hq hh
  refine gW hok p q x sv ?_ hq hh
  cases x with
  | tmp t =>
   simp only [rI] at hs
   split at hs
   rename_i hin
   have : env t = aE envL t := hu t (by simp only [List.mem_append]; exact .inl (by simpa using hin))
   simp only [jA] at hs ⊢
   rw [this]; exact hs
   cases hs
  | const v => exact hs
  | global g => exact hs
  | func f => exact hs
 obtain ⟨hP, hobl⟩ := d8 (c := fZ (aE envL) p) (r := pOf (e.obs.map (aD0 (aE envL) p))) hobl
 obtain ⟨q1, q2⟩ := eI hpu
 have hh : Eng.Holds a p := oK hok (by rw [q1]; exact hch) (by rw [q2]; exact hP)
 unfold d3
 rw [hoi]
 simp only
 rw [if_pos (hw.2 hh)]
 have ho : conj e.obl := sN (fun c hc' => xT hok hh hcl p (fun _ h => h) (by rw [oI p hpu]; exact hc')) (aFF (aE envL) p e.obs ▸ (show conj (pOf (e.obs.map (aD0 (aE envL) p))) from hobl))
 refine nY hok.mem hlk hh he ht ho K fun v w' pl' m' L hv => ?_
 refine hK _ w' pl' ?_
 have hok' := hok.later m' L
 cases hd : o.dst with
 | none => simp only [dG, hd]; exact hok'
 | some t =>
  have hdo := hc.2
  simp only [jG, hd, bIQ, decide_eq_true_eq, List.all_eq_true, bne_iff_ne] at hdo
  simp only [dG, hd]
  exact hok'.put hdo.1 (hm t hd) (fun x hx => by cases hx) (fun _ => hv.resolve_left (by rw [hd]; simp)) (fun h => absurd holds_nil h)
 cases h
 cases h
 cases h
 cases h
theorem recD_ok {envL : bM} {i : Nat} {o : Oper} {sv : SV} {r : Rec} (h : recD n ops envL o sv = some r) (hobl : conj r.obl) (hoi : ops[i]? = some o)
  {env : Env} {own : Own} {a : Act} {w : World} {pl : Pl} (hok : Ok fr n env own a w pl) (hu : ∀ u ∈ r.uses, env u = aE envL u)
  (hm : ∀ t, r.dst = some t -> ∀ u q sv, env u = some (q, sv) -> u ≠ t -> ∀ x ∈ q, x.1 ≠ t) {K : Act -> World -> Prop} (hK : ∀ a' w' pl', Ok fr n (dG env r) (aW own r.upd) a' w' pl' -> K a' w') : d3 P ops i K a w := by
 unfold recD at h
 split at h
 rename_i p hp
 split at h
 rename_i hc
 simp only [bIQ] at hc
 simp only [oIQ] at h
 subst h
 simp only at hobl hu hm hK
 have hpu : ∀ x ∈ p, env x.1 = aE envL x.1 := fun x hx => hu x.1 (by simp only [List.mem_map]; exact ⟨x, hx, rfl⟩)
 have hpath : pathOf ops env o = some p := by
  have hp' := hp
  unfold pathOf at hp ⊢
  split at hp
  exact hp
  rename_i j want hg
  split at hp
  cases hp
  rename_i g hd
  split at hp
  rename_i q b hfd
  simp only [oIQ] at hp
  have : env g = aE envL g := hpu (g, want) (by rw [<- hp]; simp)
  simp only [hd, this, hfd, hp]
  cases hp
 have hw := fQ hok hpath
 obtain ⟨q1, q2⟩ := eI hpu
 have hh : ¬ Eng.Holds a p := fun h => hobl (by rw [<- q2]; exact oM hok (by rw [q1]; exact hc.2) h)
 unfold d3
 rw [hoi]
 simp only
 rw [if_neg (fun h => hh (hw.1 h))]
 refine hK _ w pl ?_
 simp only [aW]
 cases hd : o.dst with
 | none => simp only [dG, hd]; exact hok
 | some t =>
  have hdo := hc.1.2
  simp only [jG, hd, bIQ, decide_eq_true_eq, List.all_eq_true, bne_iff_ne] at hdo
  simp only [dG, hd]
  exact hok.put hdo.1 (hm t hd) (fun x hx => hdo.2 x hx) (fun h => absurd h hh) (fun _ => rfl)
 cases h
 cases h
theorem rec_ok {envL : bM} {ownL : aV} {i : Nat} {o : Oper} {hint : Hint} {r : Rec} (h : aK4 P fr.G n rid ops envL ownL i o hint = some r) (hobl : conj r.obl) (hoi : ops[i]? = some o)
  {env : Env} {own : Own} {a : Act} {w : World} {pl : Pl} (hok : Ok fr n env own a w pl) (hu : ∀ u ∈ r.uses, env u = aE envL u) (ht : ∀ j ∈ r.touch, own j = lookO ownL j)
  (hm : ∀ t, r.dst = some t -> ∀ u q sv, env u = some (q, sv) -> u ≠ t -> ∀ x ∈ q, x.1 ≠ t) {K : Act -> World -> Prop} (hK : ∀ a' w' pl', Ok fr n (dG env r) (aW own r.upd) a' w' pl' -> K a' w') : d3 P ops i K a w := by
 unfold aK4 at h
 split at h
 exact recD_ok h hobl hoi hok hu hm hK
 exact rec_ok0 h hobl hoi hok hu ht hm hK
abbrev bW := List (Nat × Nat × Hint)
def hintOf (hs : bW) (rid i : Nat) : Hint := match hs.find? (fun x => x.1 == rid && x.2.1 == i) with
 | some x => x.2.2
 | none => .none
def aLD (env : bM) (r : Rec) : bM := match r.dst with
 | some t => tF env t (r.path, r.sv)
 | none => env
def lY (P : Program) (G : List (Nat × List Value)) (n rid : Nat) (ops : Array Oper) (hs : bW) : Nat -> List Oper -> bM -> aV -> Option (List Rec × bM × aV × List Prop)
 | _, [], env, own => some ([], env, own, [])
 | i, o :: l, env, own => match aK4 P G n rid ops env own i o (hintOf hs rid i) with
  | some r => match lY P G n rid ops hs (i + 1) l (aLD env r) (dE own r.upd) with
   | some (rs, env', own', cs) => some (r :: rs, env', own', r.obl ++ cs)
   | none => none
  | none => none
def bP : List Rec -> (Nat -> Bool) -> Nat -> Env -> Env
 | [], _, _, env => env
 | r :: rs, D, k, env => bP rs D (k + 1) (if D k then dG env r else env)
def bK : List Rec -> (Nat -> Bool) -> Nat -> Own -> Own
 | [], _, _, own => own
 | r :: rs, D, k, own => bK rs D (k + 1) (if D k then aW own r.upd else own)
theorem pL (env : bM) (r : Rec) : aE (aLD env r) = dG (aE env) r := by
 unfold aLD dG
 cases r.dst with
 | none => rfl
 | some t => exact lC env t _
theorem dM : ∀ {l m : List Prop}, conj (l ++ m) -> conj l /\ conj m
 | [], m, h => ⟨trivial, h⟩
 | [c], m, h => d8 h
 | c :: d :: r, m, h => by
  obtain ⟨h1, h2⟩ := d8 (c := c) (r := (d :: r) ++ m) h
  obtain ⟨h3, h4⟩ := dM (l := d :: r) h2
  exact ⟨⟨h1, h3⟩, h4⟩
theorem cD : ∀ (rs : List Rec) (D D' : Nat -> Bool) (k : Nat) (env env' : Env) (u : Nat), env u = env' u -> (∀ j r, rs[j]? = some r -> r.dst = some u -> D (k + j) = D' (k + j)) -> bP rs D k env u = bP rs D' k env' u
 | [], D, D', k, env, env', u, h, _ => h
 | r :: rs, D, D', k, env, env', u, h, hd => by
  refine cD rs D D' (k + 1) _ _ u ?_ (fun j r' hj hr => by have := hd (j + 1) r' (by simpa using hj) hr; rw [show k + 1 + j = k + (j + 1) by omega]; exact this)
  have h0 := hd 0 r rfl
  rw [Nat.add_zero] at h0
  by_cases hu : r.dst = some u
  rw [h0 hu]
  cases D' k with
  | true => simp only [if_true, dG, hu, upd_same]
  | false => simp only [Bool.false_eq_true, if_false]; exact h
  have hp : ∀ e : Env, dG e r u = e u := by
   intro e
   unfold dG
   cases hd' : r.dst with
   | none => rfl
   | some t => exact upd_ne _ _ (fun e => hu (by rw [hd', e]))
  cases D k <;> cases D' k <;> simp only [Bool.false_eq_true, if_false, if_true, hp] <;> exact h
theorem oR : ∀ (rs : List Rec) (D : Nat -> Bool) (k : Nat) (env : Env) (u i : Nat) (r : Rec), rs[i]? = some r -> r.dst = some u -> D (k + i) = true -> (∀ j r', i < j -> rs[j]? = some r' -> r'.dst = some u -> D (k + j) = false) -> bP rs D k env u = some (r.path, r.sv)
 | [], D, k, env, u, i, r, h, _, _, _ => by simp at h
 | x :: rs, D, k, env, u, 0, r, h, hr, hD, hl => by
  simp only [List.getElem?_cons_zero, oIQ] at h
  subst h
  rw [Nat.add_zero] at hD
  simp only [bP, hD, if_true]
  rw [cD rs D (fun _ => false) (k + 1) _ (dG env x) u rfl (fun j r' hj hr' => by
   have := hl (j + 1) r' (by omega) (by simpa using hj) hr'
   rw [show k + 1 + j = k + (j + 1) by omega]; exact this)]
  have hno : ∀ (rs : List Rec) (k : Nat) (e : Env), bP rs (fun _ => false) k e = e := by
   intro rs
   induction rs with
   | nil => intro k e; rfl
   | cons y ys ih => intro k e; simp only [bP, Bool.false_eq_true, if_false]; exact ih _ _
  rw [hno, dG, hr]
  exact upd_same _ _ _
 | x :: rs, D, k, env, u, i + 1, r, h, hr, hD, hl => by
  simp only [bP]
  exact oR rs D (k + 1) _ u i r (by simpa using h) hr (by rw [show k + 1 + i = k + (i + 1) by omega]; exact hD) (fun j r' hj hj' hr' => by
   have := hl (j + 1) r' (by omega) (by simpa using hj') hr'
   rw [show k + 1 + j = k + (j + 1) by omega]; exact this)
def keys (l : List (Nat × Ob)) : List Nat := l.map (·.1)
theorem eN : ∀ (l : List (Nat × Ob)) (own : Own) (x : Nat), x ∉ keys l -> aW own l x = own x
 | [], own, x, _ => rfl
 | (i, o) :: r, own, x, h => by
  simp only [keys, List.map_cons, List.mem_cons, not_or] at h
  simp only [aW]
  rw [eN r _ x h.2, upd_ne _ _ h.1]
theorem wC : ∀ (l : List (Nat × Ob)) (own own' : Own) (x : Nat), x ∈ keys l -> aW own l x = aW own' l x
 | [], own, own', x, h => by simp [keys] at h
 | (i, o) :: r, own, own', x, h => by
  simp only [aW]
  by_cases hr : x ∈ keys r
  exact wC r _ _ x hr
  rw [eN r _ x hr, eN r _ x hr]
  simp only [keys, List.map_cons, List.mem_cons] at h
  rcases h with rfl | h
  rw [upd_same, upd_same]
  exact absurd h hr
theorem cC : ∀ (rs : List Rec) (D D' : Nat -> Bool) (k : Nat) (own own' : Own) (x : Nat), own x = own' x -> (∀ j r, rs[j]? = some r -> x ∈ keys r.upd -> D (k + j) = D' (k + j)) -> bK rs D k own x = bK rs D' k own' x
 | [], D, D', k, own, own', x, h, _ => h
 | r :: rs, D, D', k, own, own', x, h, hd => by
  refine cC rs D D' (k + 1) _ _ x ?_ (fun j r' hj hr => by have := hd (j + 1) r' (by simpa using hj) hr; rw [show k + 1 + j = k + (j + 1) by omega]; exact this)
  have h0 := hd 0 r rfl
  rw [Nat.add_zero] at h0
  by_cases hu : x ∈ keys r.upd
  rw [h0 hu]
  cases D' k with
  | true => simp only [if_true]; exact wC _ _ _ x hu
  | false => simp only [Bool.false_eq_true, if_false]; exact h
  cases D k <;> cases D' k <;> simp only [Bool.false_eq_true, if_false, if_true, eN _ _ x hu] <;> exact h
theorem nW : ∀ (rs : List Rec) (D : Nat -> Bool) (k : Nat) (own own' : Own) (x i : Nat) (r : Rec), rs[i]? = some r -> x ∈ keys r.upd -> D (k + i) = true -> (∀ j r', i < j -> rs[j]? = some r' -> x ∈ keys r'.upd -> D (k + j) = false) -> bK rs D k own x = aW own' r.upd x
 | [], D, k, own, own', x, i, r, h, _, _, _ => by simp at h
 | y :: rs, D, k, own, own', x, 0, r, h, hr, hD, hl => by
  simp only [List.getElem?_cons_zero, oIQ] at h
  subst h
  rw [Nat.add_zero] at hD
  simp only [bK, hD, if_true]
  rw [cC rs D (fun _ => false) (k + 1) _ (aW own' y.upd) x (wC _ _ _ x hr) (fun j r' hj hr' => by
   have := hl (j + 1) r' (by omega) (by simpa using hj) hr'
   rw [show k + 1 + j = k + (j + 1) by omega]; exact this)]
  have hno : ∀ (rs : List Rec) (k : Nat) (e : Own), bK rs (fun _ => false) k e = e := by
   intro rs
   induction rs with
   | nil => intro k e; rfl
   | cons y ys ih => intro k e; simp only [bK, Bool.false_eq_true, if_false]; exact ih _ _
  rw [hno]
 | y :: rs, D, k, own, own', x, i + 1, r, h, hr, hD, hl => by
  simp only [bK]
  exact nW rs D (k + 1) _ own' x i r (by simpa using h) hr (by rw [show k + 1 + i = k + (i + 1) by omega]; exact hD) (fun j r' hj hj' hr' => by
   have := hl (j + 1) r' (by omega) (by simpa using hj') hr'
   rw [show k + 1 + j = k + (j + 1) by omega]; exact this)
theorem fU {hs : bW} {G : List (Nat × List Value)} : ∀ {l : List Oper} {k : Nat} {env : bM} {own : aV} {rs : List Rec} {env' : bM} {own' : aV} {cs : List Prop}, lY P G n rid ops hs k l env own = some (rs, env', own', cs) -> conj cs ->
  rs.length = l.length /\ aE env' = bP rs (fun _ => true) k (aE env) /\ lookO own' = bK rs (fun _ => true) k (lookO own) /\
   ∀ i r, rs[i]? = some r -> conj r.obl /\ ∃ o hint envi owni, l[i]? = some o /\ aK4 P G n rid ops envi owni (k + i) o hint = some r /\ aE envi = bP rs (fun j => decide (j < k + i)) k (aE env) /\ lookO owni = bK rs (fun j => decide (j < k + i)) k (lookO own)
 | [], k, env, own, rs, env', own', cs, h, _ => by
  simp only [lY, oIQ, pIQ] at h
  obtain ⟨rfl, rfl, rfl, rfl⟩ := h
  exact ⟨rfl, rfl, rfl, fun i r hi => by simp at hi⟩
 | o :: l, k, env, own, rs, env', own', cs, h, hc => by
  simp only [lY] at h
  split at h
  rename_i r hr
  split at h
  rename_i rs' env1 own1 cs' hrs
  simp only [oIQ, pIQ] at h
  obtain ⟨rfl, rfl, rfl, rfl⟩ := h
  obtain ⟨hc1, hc2⟩ := dM hc
  obtain ⟨h1, h2, h3, h4⟩ := fU hrs hc2
  refine ⟨by simp [h1], ?_, ?_, fun i r' hi => ?_⟩
  rw [h2, pL]; rfl
  rw [h3, bH]; rfl
  have hno : ∀ (rs : List Rec) (k k' : Nat) (e : Env), k <= k' -> bP rs (fun j => decide (j < k)) k' e = e := by
   intro rs
   induction rs with
   | nil => intro k k' e _; rfl
   | cons y ys ih => intro k k' e hk; simp only [bP, decide_eq_false (show ¬ k' < k by omega), Bool.false_eq_true, if_false]; exact ih _ _ _ (by omega)
  have hno' : ∀ (rs : List Rec) (k k' : Nat) (e : Own), k <= k' -> bK rs (fun j => decide (j < k)) k' e = e := by
   intro rs
   induction rs with
   | nil => intro k k' e _; rfl
   | cons y ys ih => intro k k' e hk; simp only [bK, decide_eq_false (show ¬ k' < k by omega), Bool.false_eq_true, if_false]; exact ih _ _ _ (by omega)
  cases i with
  | zero =>
   simp only [List.getElem?_cons_zero, oIQ] at hi
   subst hi
   exact ⟨hc1, o, _, env, own, rfl, hr, (hno _ _ _ _ (by omega)).symm, (hno' _ _ _ _ (by omega)).symm⟩
  | succ i =>
   obtain ⟨h5, o', hint, envi, owni, h6, h7, h8, h9⟩ := h4 i r' (by simpa using hi)
   have e1 : k + 1 + i = k + (i + 1) := by omega
   rw [e1] at h7 h8 h9
   refine ⟨h5, o', hint, envi, owni, by simpa using h6, h7, ?_, ?_⟩
   rw [h8, pL]; simp only [bP, decide_eq_true (show k < k + (i + 1) by omega), if_true]
   rw [h9, bH]; simp only [bK, decide_eq_true (show k < k + (i + 1) by omega), if_true]
  cases h
  cases h
end
end Go.V
