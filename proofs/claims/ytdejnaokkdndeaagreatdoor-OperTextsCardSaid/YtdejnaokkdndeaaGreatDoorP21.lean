/- Part 21 of the proof: texts W12. -/
import Derived.Test.YtdejnaokkdndeaaGreatDoorP20
set_option linter.all false
namespace Go.V
open Go.RowKit
structure Rec where
 dst : Option Nat
 path : Path
 sv : SV
 upd : List (Nat × Ob)
 touch : List Nat
 uses : List Nat
 obs : List Obl
def Rec.obl (r : Rec) : List Prop := pOf r.obs
def iZ (o : Oper) : List Nat := o.op.operands.toList.filterMap fun | .tmp t => some t | _ => none
def pV (env : Env) (p : Path) (us : List Nat) : Lk := fun q x => match x with
 | .tmp t => if us.contains t then jB env p q (.tmp t) else none
 | x => jB env p q x
def jJ (n : Nat) (d : Option Nat) (p : Path) : Bool := match d with
 | some t => decide (t < n) && p.all (fun x => x.1 != t)
 | none => true
def chainB (env : Env) : Path → Bool
 | [] => true
 | x :: r => (match env x.1 with
  | some (q, .c (.d (.v (.bool _)))) => q == r
  | _ => false) && chainB env r
def gJ (env : Env) : Path → Prop
 | [] => True
 | x :: r => (match env x.1 with
  | some (_, .c (.d (.v (.bool b)))) => b = x.2
  | _ => False) ∧ gJ env r
theorem mP {fr : Fr} {n : Nat} {env : Env} {own : Own} {a : Act} {w : World} {pl : Pl} (h : Ok fr n env own a w pl) : ∀ {p : Path}, chainB env p = true → gJ env p → Eng.Holds a p
 | [], _, _ => fun x hx => by cases hx
 | x :: r, hc, hh => by
  simp only [chainB, Bool.and_eq_true] at hc
  obtain ⟨hc1, hc2⟩ := hc
  obtain ⟨hh1, hh2⟩ := hh
  have ih := mP h hc2 hh2
  split at hc1
  rename_i q b hx
  simp only [beq_iff_eq] at hc1
  subst hc1
  rw [hx] at hh1
  have hv : a.tmps.getD x.1 undef = .bool b := Rd.exact (h.yes x.1 q _ hx ih)
  intro y hy
  rcases List.mem_cons.1 hy with rfl | hy
  rw [hv]; exact congrArg Value.bool hh1
  exact ih y hy
  cases hc1
theorem eR {env env' : Env} : ∀ {p : Path}, (∀ x ∈ p, env' x.1 = env x.1) → chainB env' p = chainB env p ∧ gJ env' p = gJ env p
 | [], _ => ⟨rfl, rfl⟩
 | x :: r, h => by
  obtain ⟨h1, h2⟩ := eR (p := r) fun y hy => h y (by simp [hy])
  simp only [chainB, gJ, h x (by simp), h1, h2, and_self]
theorem aAJ {env : Env} : ∀ (q : Path) {c : Prop}, c → imp env q c
 | [], _, h => h
 | x :: r, c, h => by
  unfold imp
  split
  exact fun _ => aAJ r h
  exact aAJ r h
def aAK (env : Env) (q : Path) (o : Obl) : Obl := ⟨imp env q o.p, o.b, fun h => aAJ q (o.h h), o.k⟩
theorem aBR (env : Env) (q : Path) (l : List Obl) : pOf (l.map (aAK env q)) = (pOf l).map (imp env q) := by simp [pOf, aAK, Function.comp_def]
def jF (env : Env) : Path → Bool
 | [] => true
 | x :: r => (match env x.1 with
  | some (_, .c (.d (.v (.bool b)))) => b == x.2
  | _ => false) && jF env r
theorem holdsB_iff {env : Env} : ∀ {p : Path}, jF env p = true ↔ gJ env p
 | [] => ⟨fun _ => trivial, fun _ => rfl⟩
 | x :: r => by
  simp only [jF, gJ, Bool.and_eq_true, holdsB_iff (p := r)]
  refine and_congr ?_ Iff.rfl
  split
  simp
  simp
def holdsO (env : Env) (p : Path) : Obl := ⟨gJ env p, jF env p, holdsB_iff.1, false⟩
def notO (env : Env) (p : Path) : Obl := ⟨¬ gJ env p, !jF env p, fun h hh => (by rw [holdsB_iff.2 hh] at h; exact Bool.noConfusion h), false⟩
def aBP (P : Program) (G : List (Nat × List Value)) (n rid : Nat) (ops : Array Oper) (env : bK) (own : aS) (i : Nat) (o : Oper) (hint : Hint) : Option Rec :=
 match pathOf ops (aF env) o with
 | some p => if closed (aF env) p && jJ n o.dst p then
   match opE P G (pV (aF env) p (iZ o)) (lookO own) o (100 * (rid + 1) + i) hint with
   | some e => if p.isEmpty || e.upd.isEmpty then some ⟨o.dst, p, e.sv, e.upd, e.touch, iZ o ++ p.map (·.1), e.obs.map (aAK (aF env) p)⟩
     else if chainB (aF env) p then some ⟨o.dst, [], e.sv, e.upd, e.touch, iZ o ++ p.map (·.1), holdsO (aF env) p :: e.obs.map (aAK (aF env) p)⟩ else none
   | none => none
  else none
 | none => none
def recD (n : Nat) (ops : Array Oper) (env : bK) (o : Oper) (sv : SV) : Option Rec :=
 match pathOf ops (aF env) o with
 | some p => if closed (aF env) p && jJ n o.dst p && chainB (aF env) p then some ⟨o.dst, p, sv, [], [], p.map (·.1), [notO (aF env) p]⟩ else none
 | none => none
def aGC (P : Program) (G : List (Nat × List Value)) (n rid : Nat) (ops : Array Oper) (env : bK) (own : aS) (i : Nat) (o : Oper) (hint : Hint) : Option Rec :=
 match hint with
 | .dead sv => recD n ops env o sv
 | hint => aBP P G n rid ops env own i o hint
theorem mQ {fr : Fr} {n : Nat} {env : Env} {own : Own} {a : Act} {w : World} {pl : Pl} (h : Ok fr n env own a w pl) : ∀ {p : Path}, chainB env p = true → Eng.Holds a p → gJ env p
 | [], _, _ => trivial
 | x :: r, hc, hh => by
  simp only [chainB, Bool.and_eq_true] at hc
  obtain ⟨hc1, hc2⟩ := hc
  have hr : Eng.Holds a r := fun y hy => hh y (List.mem_cons_of_mem _ hy)
  have ih := mQ h hc2 hr
  refine ⟨?_, ih⟩
  split at hc1
  rename_i q b hx
  simp only [beq_iff_eq] at hc1
  subst hc1
  have hv : a.tmps.getD x.1 undef = .bool b := Rd.exact (h.yes x.1 q _ hx hr)
  have h2 := hh x List.mem_cons_self
  first | exact Value.bool.inj (hv.symm.trans h2) | (simp only [hx]; exact Value.bool.inj (hv.symm.trans h2))
  cases hc1
def dA (env : Env) (r : Rec) : Env := match r.dst with
 | some t => upd env t (r.path, r.sv)
 | none => env
theorem qP {f : Prop → Prop} (h : ∀ c, f c → c) : ∀ {l : List Prop}, conj (l.map f) → conj l
 | [], _ => trivial
 | [c], hc => h c hc
 | c :: d :: r, hc => by
  obtain ⟨h1, h2⟩ := eG (c := f c) (r := (d :: r).map f) hc
  exact ⟨h c h1, qP h h2⟩
section
variable {P : Program} {fr : Fr} {n rid : Nat} {Q : Exit → Act → World → Prop} {ops : Array Oper}
theorem rec_ok0 {envL : bK} {ownL : aS} {i : Nat} {o : Oper} {hint : Hint} {r : Rec} (h : aBP P fr.G n rid ops envL ownL i o hint = some r) (hobl : conj r.obl) (hoi : ops[i]? = some o)
  {env : Env} {own : Own} {a : Act} {w : World} {pl : Pl} (hok : Ok fr n env own a w pl) (hu : ∀ u ∈ r.uses, env u = aF envL u) (ht : ∀ j ∈ r.touch, own j = lookO ownL j)
  (hm : ∀ t, r.dst = some t → ∀ u q sv, env u = some (q, sv) → u ≠ t → ∀ x ∈ q, x.1 ≠ t) {K : Act → World → Prop} (hK : ∀ a' w' pl', Ok fr n (dA env r) (aM own r.upd) a' w' pl' → K a' w') : eS P ops i K a w := by
 unfold aBP at h
 split at h
 rename_i p hp
 split at h
 rename_i hc
 simp only [Bool.and_eq_true] at hc
 split at h
 rename_i e he
 split at h
 rename_i hpe
 simp only [Option.some.injEq] at h
 subst h
 simp only at hobl hu ht hm hK
 have hpu : ∀ x ∈ p, env x.1 = aF envL x.1 := fun x hx => hu x.1 (by simp only [List.mem_append, List.mem_map]; exact .inr ⟨x, hx, rfl⟩)
 have hpath : pathOf ops env o = some p := by
  have hp' := hp
  unfold pathOf at hp ⊢
  split at hp
  exact hp
  rename_i j want hg
  split at hp
  cases hp
  rename_i g hd
  split at hp
  rename_i q b hfd
  simp only [Option.some.injEq] at hp
  have : env g = aF envL g := hpu (g, want) (by rw [← hp]; simp)
  simp only [hd, this, hfd, hp]
  cases hp
 have hcl : closed env p = true := by
  have h1 := hc.1
  simp only [closed, List.all_eq_true] at h1 ⊢
  intro x hx
  rw [hpu x hx]
  exact h1 x hx
 have hw := f9 hok hpath
 have hlk : aO a w pl own p (pV (aF envL) p (iZ o)) := by
  intro q x sv hs hq hh
  refine gG hok p q x sv ?_ hq hh
  cases x with
  | tmp t =>
   simp only [pV] at hs
   split at hs
   rename_i hin
   have : env t = aF envL t := hu t (by simp only [List.mem_append]; exact .inl (by simpa using hin))
   simp only [jB] at hs ⊢
   rw [this]; exact hs
   cases hs
  | const v => exact hs
  | global g => exact hs
  | func f => exact hs
 unfold eS
 rw [hoi]
 simp only
 by_cases hh : Eng.Holds a p
 rw [if_pos (hw.2 hh)]
 have ho : conj e.obl := qP (fun c hc' => uP hok hh hcl p (fun _ h => h) (by rw [mO p hpu]; exact hc')) (aBR (aF envL) p e.obs ▸ (show conj (pOf (e.obs.map (aAK (aF envL) p))) from hobl))
 refine mM hok.mem hlk hh he ht ho K fun v w' pl' m' L hv => ?_
 refine hK _ w' pl' ?_
 have hok' := hok.later m' L
 cases hd : o.dst with
 | none => simp only [dA, hd]; exact hok'
 | some t =>
  have hdo := hc.2
  simp only [jJ, hd, Bool.and_eq_true, decide_eq_true_eq, List.all_eq_true, bne_iff_ne] at hdo
  simp only [dA, hd]
  exact hok'.put hdo.1 (hm t hd) (fun x hx => hdo.2 x hx) (fun _ => hv.resolve_left (by rw [hd]; simp)) (fun h => absurd hh h)
 rw [if_neg (fun h => hh (hw.1 h))]
 have hue : e.upd = [] := by
  simp only [Bool.or_eq_true, List.isEmpty_iff] at hpe
  rcases hpe with h0 | h0
  subst h0; exact absurd holds_nil hh
  exact h0
 refine hK _ w pl ?_
 simp only [hue, aM]
 cases hd : o.dst with
 | none => simp only [dA, hd]; exact hok
 | some t =>
  have hdo := hc.2
  simp only [jJ, hd, Bool.and_eq_true, decide_eq_true_eq, List.all_eq_true, bne_iff_ne] at hdo
  simp only [dA, hd]
  exact hok.put hdo.1 (hm t hd) (fun x hx => hdo.2 x hx) (fun h => absurd h hh) (fun _ => rfl)
 split at h
 rename_i hpe hch
 simp only [Option.some.injEq] at h
 subst h
 simp only at hobl hu ht hm hK
 have hpu : ∀ x ∈ p, env x.1 = aF envL x.1 := fun x hx => hu x.1 (by simp only [List.mem_append, List.mem_map]; exact .inr ⟨x, hx, rfl⟩)
 have hpath : pathOf ops env o = some p := by
  have hp' := hp
  unfold pathOf at hp ⊢
  split at hp
  exact hp
  rename_i j want hg
  split at hp
  cases hp
  rename_i g hd
  split at hp
  rename_i q b hfd
  simp only [Option.some.injEq] at hp
  have : env g = aF envL g := hpu (g, want) (by rw [← hp]; simp)
  simp only [hd, this, hfd, hp]
  cases hp
 have hcl : closed env p = true := by
  have h1 := hc.1
  simp only [closed, List.all_eq_true] at h1 ⊢
  intro x hx
  rw [hpu x hx]
  exact h1 x hx
 have hw := f9 hok hpath
 have hlk : aO a w pl own p (pV (aF envL) p (iZ o)) := by
  intro q x sv hs hq hh
  refine gG hok p q x sv ?_ hq hh
  cases x with
  | tmp t =>
   simp only [pV] at hs
   split at hs
   rename_i hin
   have : env t = aF envL t := hu t (by simp only [List.mem_append]; exact .inl (by simpa using hin))
   simp only [jB] at hs ⊢
   rw [this]; exact hs
   cases hs
  | const v => exact hs
  | global g => exact hs
  | func f => exact hs
 obtain ⟨hP, hobl⟩ := eG (c := gJ (aF envL) p) (r := pOf (e.obs.map (aAK (aF envL) p))) hobl
 obtain ⟨q1, q2⟩ := eR hpu
 have hh : Eng.Holds a p := mP hok (by rw [q1]; exact hch) (by rw [q2]; exact hP)
 unfold eS
 rw [hoi]
 simp only
 rw [if_pos (hw.2 hh)]
 have ho : conj e.obl := qP (fun c hc' => uP hok hh hcl p (fun _ h => h) (by rw [mO p hpu]; exact hc')) (aBR (aF envL) p e.obs ▸ (show conj (pOf (e.obs.map (aAK (aF envL) p))) from hobl))
 refine mM hok.mem hlk hh he ht ho K fun v w' pl' m' L hv => ?_
 refine hK _ w' pl' ?_
 have hok' := hok.later m' L
 cases hd : o.dst with
 | none => simp only [dA, hd]; exact hok'
 | some t =>
  have hdo := hc.2
  simp only [jJ, hd, Bool.and_eq_true, decide_eq_true_eq, List.all_eq_true, bne_iff_ne] at hdo
  simp only [dA, hd]
  exact hok'.put hdo.1 (hm t hd) (fun x hx => by cases hx) (fun _ => hv.resolve_left (by rw [hd]; simp)) (fun h => absurd holds_nil h)
 cases h
 cases h
 cases h
 cases h
theorem recD_ok {envL : bK} {i : Nat} {o : Oper} {sv : SV} {r : Rec} (h : recD n ops envL o sv = some r) (hobl : conj r.obl) (hoi : ops[i]? = some o)
  {env : Env} {own : Own} {a : Act} {w : World} {pl : Pl} (hok : Ok fr n env own a w pl) (hu : ∀ u ∈ r.uses, env u = aF envL u)
  (hm : ∀ t, r.dst = some t → ∀ u q sv, env u = some (q, sv) → u ≠ t → ∀ x ∈ q, x.1 ≠ t) {K : Act → World → Prop} (hK : ∀ a' w' pl', Ok fr n (dA env r) (aM own r.upd) a' w' pl' → K a' w') : eS P ops i K a w := by
 unfold recD at h
 split at h
 rename_i p hp
 split at h
 rename_i hc
 simp only [Bool.and_eq_true] at hc
 simp only [Option.some.injEq] at h
 subst h
 simp only at hobl hu hm hK
 have hpu : ∀ x ∈ p, env x.1 = aF envL x.1 := fun x hx => hu x.1 (by simp only [List.mem_map]; exact ⟨x, hx, rfl⟩)
 have hpath : pathOf ops env o = some p := by
  have hp' := hp
  unfold pathOf at hp ⊢
  split at hp
  exact hp
  rename_i j want hg
  split at hp
  cases hp
  rename_i g hd
  split at hp
  rename_i q b hfd
  simp only [Option.some.injEq] at hp
  have : env g = aF envL g := hpu (g, want) (by rw [← hp]; simp)
  simp only [hd, this, hfd, hp]
  cases hp
 have hw := f9 hok hpath
 obtain ⟨q1, q2⟩ := eR hpu
 have hh : ¬ Eng.Holds a p := fun h => hobl (by rw [← q2]; exact mQ hok (by rw [q1]; exact hc.2) h)
 unfold eS
 rw [hoi]
 simp only
 rw [if_neg (fun h => hh (hw.1 h))]
 refine hK _ w pl ?_
 simp only [aM]
 cases hd : o.dst with
 | none => simp only [dA, hd]; exact hok
 | some t =>
  have hdo := hc.1.2
  simp only [jJ, hd, Bool.and_eq_true, decide_eq_true_eq, List.all_eq_true, bne_iff_ne] at hdo
  simp only [dA, hd]
  exact hok.put hdo.1 (hm t hd) (fun x hx => hdo.2 x hx) (fun h => absurd h hh) (fun _ => rfl)
 cases h
 cases h
theorem rec_ok {envL : bK} {ownL : aS} {i : Nat} {o : Oper} {hint : Hint} {r : Rec} (h : aGC P fr.G n rid ops envL ownL i o hint = some r) (hobl : conj r.obl) (hoi : ops[i]? = some o)
  {env : Env} {own : Own} {a : Act} {w : World} {pl : Pl} (hok : Ok fr n env own a w pl) (hu : ∀ u ∈ r.uses, env u = aF envL u) (ht : ∀ j ∈ r.touch, own j = lookO ownL j)
  (hm : ∀ t, r.dst = some t → ∀ u q sv, env u = some (q, sv) → u ≠ t → ∀ x ∈ q, x.1 ≠ t) {K : Act → World → Prop} (hK : ∀ a' w' pl', Ok fr n (dA env r) (aM own r.upd) a' w' pl' → K a' w') : eS P ops i K a w := by
 unfold aGC at h
 split at h
 exact recD_ok h hobl hoi hok hu hm hK
 exact rec_ok0 h hobl hoi hok hu ht hm hK
abbrev bO := List (Nat × Nat × Hint)
def hintOf (hs : bO) (rid i : Nat) : Hint := match hs.find? (fun x => x.1 == rid && x.2.1 == i) with
 | some x => x.2.2
 | none => .none
def aGH (env : bK) (r : Rec) : bK := match r.dst with
 | some t => aGI env t (r.path, r.sv)
 | none => env
def lG (P : Program) (G : List (Nat × List Value)) (n rid : Nat) (ops : Array Oper) (hs : bO) : Nat → List Oper → bK → aS → Option (List Rec × bK × aS × List Prop)
 | _, [], env, own => some ([], env, own, [])
 | i, o :: l, env, own => match aGC P G n rid ops env own i o (hintOf hs rid i) with
  | some r => match lG P G n rid ops hs (i + 1) l (aGH env r) (bU own r.upd) with
   | some (rs, env', own', cs) => some (r :: rs, env', own', r.obl ++ cs)
   | none => none
  | none => none
def bF : List Rec → (Nat → Bool) → Nat → Env → Env
 | [], _, _, env => env
 | r :: rs, D, k, env => bF rs D (k + 1) (if D k then dA env r else env)
def bA : List Rec → (Nat → Bool) → Nat → Own → Own
 | [], _, _, own => own
 | r :: rs, D, k, own => bA rs D (k + 1) (if D k then aM own r.upd else own)
theorem nZ (env : bK) (r : Rec) : aF (aGH env r) = dA (aF env) r := by
 unfold aGH dA
 cases r.dst with
 | none => rfl
 | some t => exact qI env t _
theorem cO : ∀ {l m : List Prop}, conj (l ++ m) → conj l ∧ conj m
 | [], m, h => ⟨trivial, h⟩
 | [c], m, h => eG h
 | c :: d :: r, m, h => by
  obtain ⟨h1, h2⟩ := eG (c := c) (r := (d :: r) ++ m) h
  obtain ⟨h3, h4⟩ := cO (l := d :: r) h2
  exact ⟨⟨h1, h3⟩, h4⟩
theorem bT : ∀ (rs : List Rec) (D D' : Nat → Bool) (k : Nat) (env env' : Env) (u : Nat), env u = env' u → (∀ j r, rs[j]? = some r → r.dst = some u → D (k + j) = D' (k + j)) → bF rs D k env u = bF rs D' k env' u
 | [], D, D', k, env, env', u, h, _ => h
 | r :: rs, D, D', k, env, env', u, h, hd => by
  refine bT rs D D' (k + 1) _ _ u ?_ (fun j r' hj hr => by have := hd (j + 1) r' (by simpa using hj) hr; rw [show k + 1 + j = k + (j + 1) by omega]; exact this)
  have h0 := hd 0 r rfl
  rw [Nat.add_zero] at h0
  by_cases hu : r.dst = some u
  rw [h0 hu]
  cases D' k with
  | true => simp only [if_true, dA, hu, upd_same]
  | false => simp only [Bool.false_eq_true, if_false]; exact h
  have hp : ∀ e : Env, dA e r u = e u := by
   intro e
   unfold dA
   cases hd' : r.dst with
   | none => rfl
   | some t => exact upd_ne _ _ (fun e => hu (by rw [hd', e]))
  cases D k <;> cases D' k <;> simp only [Bool.false_eq_true, if_false, if_true, hp] <;> exact h
theorem mU : ∀ (rs : List Rec) (D : Nat → Bool) (k : Nat) (env : Env) (u i : Nat) (r : Rec), rs[i]? = some r → r.dst = some u → D (k + i) = true → (∀ j r', i < j → rs[j]? = some r' → r'.dst = some u → D (k + j) = false) → bF rs D k env u = some (r.path, r.sv)
 | [], D, k, env, u, i, r, h, _, _, _ => by simp at h
 | x :: rs, D, k, env, u, 0, r, h, hr, hD, hl => by
  simp only [List.getElem?_cons_zero, Option.some.injEq] at h
  subst h
  rw [Nat.add_zero] at hD
  simp only [bF, hD, if_true]
  rw [bT rs D (fun _ => false) (k + 1) _ (dA env x) u rfl (fun j r' hj hr' => by
   have := hl (j + 1) r' (by omega) (by simpa using hj) hr'
   rw [show k + 1 + j = k + (j + 1) by omega]; exact this)]
  have hno : ∀ (rs : List Rec) (k : Nat) (e : Env), bF rs (fun _ => false) k e = e := by
   intro rs
   induction rs with
   | nil => intro k e; rfl
   | cons y ys ih => intro k e; simp only [bF, Bool.false_eq_true, if_false]; exact ih _ _
  rw [hno, dA, hr]
  exact upd_same _ _ _
 | x :: rs, D, k, env, u, i + 1, r, h, hr, hD, hl => by
  simp only [bF]
  exact mU rs D (k + 1) _ u i r (by simpa using h) hr (by rw [show k + 1 + i = k + (i + 1) by omega]; exact hD) (fun j r' hj hj' hr' => by
   have := hl (j + 1) r' (by omega) (by simpa using hj') hr'
   rw [show k + 1 + j = k + (j + 1) by omega]; exact this)
def keys (l : List (Nat × Ob)) : List Nat := l.map (·.1)
theorem eX : ∀ (l : List (Nat × Ob)) (own : Own) (x : Nat), x ∉ keys l → aM own l x = own x
 | [], own, x, _ => rfl
 | (i, o) :: r, own, x, h => by
  simp only [keys, List.map_cons, List.mem_cons, not_or] at h
  simp only [aM]
  rw [eX r _ x h.2, upd_ne _ _ h.1]
theorem tL : ∀ (l : List (Nat × Ob)) (own own' : Own) (x : Nat), x ∈ keys l → aM own l x = aM own' l x
 | [], own, own', x, h => by simp [keys] at h
 | (i, o) :: r, own, own', x, h => by
  simp only [aM]
  by_cases hr : x ∈ keys r
  exact tL r _ _ x hr
  rw [eX r _ x hr, eX r _ x hr]
  simp only [keys, List.map_cons, List.mem_cons] at h
  rcases h with rfl | h
  rw [upd_same, upd_same]
  exact absurd h hr
theorem bS : ∀ (rs : List Rec) (D D' : Nat → Bool) (k : Nat) (own own' : Own) (x : Nat), own x = own' x → (∀ j r, rs[j]? = some r → x ∈ keys r.upd → D (k + j) = D' (k + j)) → bA rs D k own x = bA rs D' k own' x
 | [], D, D', k, own, own', x, h, _ => h
 | r :: rs, D, D', k, own, own', x, h, hd => by
  refine bS rs D D' (k + 1) _ _ x ?_ (fun j r' hj hr => by have := hd (j + 1) r' (by simpa using hj) hr; rw [show k + 1 + j = k + (j + 1) by omega]; exact this)
  have h0 := hd 0 r rfl
  rw [Nat.add_zero] at h0
  by_cases hu : x ∈ keys r.upd
  rw [h0 hu]
  cases D' k with
  | true => simp only [if_true]; exact tL _ _ _ x hu
  | false => simp only [Bool.false_eq_true, if_false]; exact h
  cases D k <;> cases D' k <;> simp only [Bool.false_eq_true, if_false, if_true, eX _ _ x hu] <;> exact h
theorem mL : ∀ (rs : List Rec) (D : Nat → Bool) (k : Nat) (own own' : Own) (x i : Nat) (r : Rec), rs[i]? = some r → x ∈ keys r.upd → D (k + i) = true → (∀ j r', i < j → rs[j]? = some r' → x ∈ keys r'.upd → D (k + j) = false) → bA rs D k own x = aM own' r.upd x
 | [], D, k, own, own', x, i, r, h, _, _, _ => by simp at h
 | y :: rs, D, k, own, own', x, 0, r, h, hr, hD, hl => by
  simp only [List.getElem?_cons_zero, Option.some.injEq] at h
  subst h
  rw [Nat.add_zero] at hD
  simp only [bA, hD, if_true]
  rw [bS rs D (fun _ => false) (k + 1) _ (aM own' y.upd) x (tL _ _ _ x hr) (fun j r' hj hr' => by
   have := hl (j + 1) r' (by omega) (by simpa using hj) hr'
   rw [show k + 1 + j = k + (j + 1) by omega]; exact this)]
  have hno : ∀ (rs : List Rec) (k : Nat) (e : Own), bA rs (fun _ => false) k e = e := by
   intro rs
   induction rs with
   | nil => intro k e; rfl
   | cons y ys ih => intro k e; simp only [bA, Bool.false_eq_true, if_false]; exact ih _ _
  rw [hno]
 | y :: rs, D, k, own, own', x, i + 1, r, h, hr, hD, hl => by
  simp only [bA]
  exact mL rs D (k + 1) _ own' x i r (by simpa using h) hr (by rw [show k + 1 + i = k + (i + 1) by omega]; exact hD) (fun j r' hj hj' hr' => by
   have := hl (j + 1) r' (by omega) (by simpa using hj') hr'
   rw [show k + 1 + j = k + (j + 1) by omega]; exact this)
theorem gE {hs : bO} {G : List (Nat × List Value)} : ∀ {l : List Oper} {k : Nat} {env : bK} {own : aS} {rs : List Rec} {env' : bK} {own' : aS} {cs : List Prop}, lG P G n rid ops hs k l env own = some (rs, env', own', cs) → conj cs →
  rs.length = l.length ∧ aF env' = bF rs (fun _ => true) k (aF env) ∧ lookO own' = bA rs (fun _ => true) k (lookO own) ∧
   ∀ i r, rs[i]? = some r → conj r.obl ∧ ∃ o hint envi owni, l[i]? = some o ∧ aGC P G n rid ops envi owni (k + i) o hint = some r ∧ aF envi = bF rs (fun j => decide (j < k + i)) k (aF env) ∧ lookO owni = bA rs (fun j => decide (j < k + i)) k (lookO own)
 | [], k, env, own, rs, env', own', cs, h, _ => by
  simp only [lG, Option.some.injEq, Prod.mk.injEq] at h
  obtain ⟨rfl, rfl, rfl, rfl⟩ := h
  exact ⟨rfl, rfl, rfl, fun i r hi => by simp at hi⟩
 | o :: l, k, env, own, rs, env', own', cs, h, hc => by
  simp only [lG] at h
  split at h
  rename_i r hr
  split at h
  rename_i rs' env1 own1 cs' hrs
  simp only [Option.some.injEq, Prod.mk.injEq] at h
  obtain ⟨rfl, rfl, rfl, rfl⟩ := h
  obtain ⟨hc1, hc2⟩ := cO hc
  obtain ⟨h1, h2, h3, h4⟩ := gE hrs hc2
  refine ⟨by simp [h1], ?_, ?_, fun i r' hi => ?_⟩
  rw [h2, nZ]; rfl
  rw [h3, bB]; rfl
  have hno : ∀ (rs : List Rec) (k k' : Nat) (e : Env), k ≤ k' → bF rs (fun j => decide (j < k)) k' e = e := by
   intro rs
   induction rs with
   | nil => intro k k' e _; rfl
   | cons y ys ih => intro k k' e hk; simp only [bF, decide_eq_false (show ¬ k' < k by omega), Bool.false_eq_true, if_false]; exact ih _ _ _ (by omega)
  have hno' : ∀ (rs : List Rec) (k k' : Nat) (e : Own), k ≤ k' → bA rs (fun j => decide (j < k)) k' e = e := by
   intro rs
   induction rs with
   | nil => intro k k' e _; rfl
   | cons y ys ih => intro k k' e hk; simp only [bA, decide_eq_false (show ¬ k' < k by omega), Bool.false_eq_true, if_false]; exact ih _ _ _ (by omega)
  cases i with
  | zero =>
   simp only [List.getElem?_cons_zero, Option.some.injEq] at hi
   subst hi
   exact ⟨hc1, o, _, env, own, rfl, hr, (hno _ _ _ _ (by omega)).symm, (hno' _ _ _ _ (by omega)).symm⟩
  | succ i =>
   obtain ⟨h5, o', hint, envi, owni, h6, h7, h8, h9⟩ := h4 i r' (by simpa using hi)
   have e1 : k + 1 + i = k + (i + 1) := by omega
   rw [e1] at h7 h8 h9
   refine ⟨h5, o', hint, envi, owni, by simpa using h6, h7, ?_, ?_⟩
   rw [h8, nZ]; simp only [bF, decide_eq_true (show k < k + (i + 1) by omega), if_true]
   rw [h9, bB]; simp only [bA, decide_eq_true (show k < k + (i + 1) by omega), if_true]
  cases h
  cases h
end
end Go.V
