/- Part 3 of the proof: texts Eng3. -/
import Derived.Test.YtmpgfchkkemngaaGreatDoorP2
import Derived.Deep.LoopGhost
set_option linter.all false
namespace Go.Eng
open Go.RowKit
def closed (env : List En) (p : Path) : Bool := p.all fun x => match find env x.1 with
 | some (q, .v (.bool _)) => sub q p
 | _ => false
def imp (env : List En) : Path → Prop → Prop
 | [], c => c
 | x :: r, c => match find env x.1 with
  | some (_, .v (.bool b)) => b = x.2 → imp env r c
  | _ => imp env r c
theorem imp_use {n : Nat} {env : List En} {ns : List Nat} {a : Act} (hf : Fits n env ns a) {p : Path} (hp : Holds a p) (hc : closed env p = true) {c : Prop} : ∀ q : Path, (∀ x ∈ q, x ∈ p) → imp env q c → c
 | [], _, h => h
 | x :: r, hq, h => by
  have hx : x ∈ p := hq x (by simp)
  have hr := imp_use hf hp hc (c := c) r (fun y hy => hq y (by simp [hy]))
  simp only [closed, List.all_eq_true] at hc
  have h1 := hc x hx
  unfold imp at h
  split at h
  ·rename_i q b hfd
   rw [hfd] at h1
   simp only [] at h1
   have h2 := hf.yes x.1 q _ hfd (sub_holds h1 hp)
   rw [hp x hx] at h2
   simp only [SV.val, Value.bool.injEq] at h2
   exact hr (h h2.symm)
  ·exact hr h
def place (n : Nat) (ops : Array Oper) (env : List En) (o : Oper) : Option (Nat × Path) :=
 match o.dst, pathOf ops env o with
 | some t, some p => if t < n && !mentions env t && closed env p && p.all (fun x => x.1 != t) then some (t, p) else none
 | _, _ => none
def ev1 (P : Program) (n : Nat) (ops : Array Oper) (own : List Bx) (env : List En) (o : Oper) : Option (List En × Option Prop) :=
 match place n ops env o with
 | some (t, p) => match opS P env own p o with
  | some (sv, some obl) => some (⟨t, p, sv⟩ :: drop env t, some (imp env p obl))
  | some (sv, none) => some (⟨t, p, sv⟩ :: drop env t, none)
  | none => none
 | none => none
def ev (P : Program) (n : Nat) (ops : Array Oper) (own : List Bx) : List Oper → List En → Option (List En × List Prop)
 | [], env => some (env, [])
 | o :: r, env => match ev1 P n ops own env o with
  | some (env', some c) => match ev P n ops own r env' with
   | some (env'', cs) => some (env'', c :: cs)
   | none => none
  | some (env', none) => ev P n ops own r env'
  | none => none
def conj : List Prop → Prop
 | [] => True
 | [c] => c
 | c :: r => c ∧ conj r
theorem conj_cons {c : Prop} {r : List Prop} (h : conj (c :: r)) : c ∧ conj r := by
 cases r with
 | nil => exact ⟨h, trivial⟩
 | cons d r => exact h
def kn (l : List (Nat × SV)) : List En := l.map fun x => ⟨x.1, [], x.2⟩
def slots (l : List (Nat × SV)) : List Nat := l.map (·.1)
def svs (l : List (Nat × SV)) : List (Option (Path × SV)) := l.map fun x => some ([], x.2)
def got (env : List En) (ks : List Nat) : List (Option (Path × SV)) := ks.map (find env)
theorem find_kn {l : List (Nat × SV)} {t : Nat} {p : Path} {sv : SV} (h : find (kn l) t = some (p, sv)) : p = [] ∧ (t, sv) ∈ l := by
 induction l with
 | nil => simp [kn, find] at h
 | cons x r ih =>
  simp only [kn, List.map_cons, find, beq_iff_eq] at h
  split at h
  ·rename_i hx
   simp only [Option.some.injEq, Prod.mk.injEq] at h
   obtain ⟨rfl, rfl⟩ := h
   exact ⟨rfl, by subst hx; simp⟩
  ·obtain ⟨h1, h2⟩ := ih h
   exact ⟨h1, by simp [h2]⟩
theorem Fits.keep {n : Nat} {env : List En} {ns : List Nat} {a : Act} (hf : Fits n env ns a) {l : List (Nat × SV)} (h : got env (slots l) = svs l) : Fits n (kn l) ns a := by
 have hall : ∀ t sv, (t, sv) ∈ l → find env t = some ([], sv) := by
  intro t sv hm
  simp only [got, slots, svs, List.map_map] at h
  have := List.map_inj_left.1 h (t, sv) hm
  simpa using this
 refine ⟨hf.defers, hf.size, fun t p sv hfd _ => ?_, fun t p sv hfd hh => ?_⟩
 ·obtain ⟨rfl, hm⟩ := find_kn hfd
  exact hf.yes t [] sv (hall t sv hm) (by simp [Holds])
 ·obtain ⟨rfl, hm⟩ := find_kn hfd
  exact absurd (by simp [Holds]) hh
def Run (P : Program) (n : Nat) (c : Code) (Q : Exit → Act → World → Prop) (env : List En) (own : List Bx) (w : World) : Prop := ∀ a, Fits n env (nums own) a → c.wp P Q a w
def RunI (P : Program) (n : Nat) (ops : Array Oper) (j : Nat) (Q : Exit → Act → World → Prop) (env : List En) (own : List Bx) (w : World) : Prop := ∀ a, Fits n env (nums own) a → wpList P ops Q (ops.toList.drop j) a w
def At (n : Nat) (Q : Exit → Act → World → Prop) (e : Exit) (env : List En) (own : List Bx) (w : World) : Prop := ∀ a, Fits n env (nums own) a → Q e a w
section
variable {P : Program} {n : Nat} {ops : Array Oper} {Q : Exit → Act → World → Prop} {own : List Bx} {w : World} {env : List En}
theorem place_spec {o : Oper} {t : Nat} {p : Path} (h : place n ops env o = some (t, p)) : o.dst = some t ∧ pathOf ops env o = some p ∧ t < n ∧ mentions env t = false ∧ closed env p = true ∧ ∀ x ∈ p, x.1 ≠ t := by
 unfold place at h
 split at h
 ·rename_i t' p' hd hp
  split at h
  ·rename_i hb
   simp only [Option.some.injEq, Prod.mk.injEq] at h
   obtain ⟨rfl, rfl⟩ := h
   simp only [Bool.and_eq_true, decide_eq_true_eq, Bool.not_eq_true', List.all_eq_true, bne_iff_ne, ne_eq] at hb
   exact ⟨hd, hp, hb.1.1.1, hb.1.1.2, hb.1.2, hb.2⟩
  ·cases h
 ·cases h
theorem ev1_ok {env' : List En} {o : Oper} {c : Option Prop} {a : Act} (hf : Fits n env (nums own) a) (hown : OwnOk w own) (h : ev1 P n ops own env o = some (env', c)) (hc : okP c) {r : List Oper}
  (hr : ∀ a', Fits n env' (nums own) a' → wpList P ops Q r a' w) : wpList P ops Q (o :: r) a w := by
 unfold ev1 at h
 split at h
 ·rename_i t p hpl
  obtain ⟨hd, hp, htn, hm, hcl, hpt⟩ := place_spec hpl
  have fin : ∀ sv obl, opS P env own p o = some (sv, obl) → (Holds a p → okP obl) → env' = ⟨t, p, sv⟩ :: drop env t → wpList P ops Q (o :: r) a w := by
   rintro sv obl hop hobl rfl
   unfold wpList
   have hw := wanted_iff hf hp
   by_cases hh : Holds a p
   ·rw [if_pos (hw.2 hh)]
    refine .inl ?_
    have := opS_ok hf hh hown hop (hobl hh)
    unfold Oper.wp
    rw [this, Oper.upon_value, hd]
    exact hr _ (hf.put htn hm (fun x hx => hpt x hx) (fun _ => rfl) (fun h => absurd hh h))
   ·rw [if_neg (fun h => hh (hw.1 h)), hd]
    exact hr _ (hf.put htn hm (fun x hx => hpt x hx) (fun h => absurd h hh) (fun _ => rfl))
  split at h
  ·rename_i sv obl hop
   simp only [Option.some.injEq, Prod.mk.injEq] at h
   obtain ⟨rfl, rfl⟩ := h
   exact fin sv (some obl) hop (fun hh => imp_use hf hh hcl p (fun _ h => h) hc) rfl
  ·rename_i sv hop
   simp only [Option.some.injEq, Prod.mk.injEq] at h
   obtain ⟨rfl, rfl⟩ := h
   exact fin sv none hop (fun _ => trivial) rfl
  ·cases h
 ·cases h
theorem ev_ok : ∀ (l : List Oper) {env env' : List En} {c : List Prop} {a : Act} {r : List Oper}, Fits n env (nums own) a → OwnOk w own → ev P n ops own l env = some (env', c) → conj c →
  (∀ a', Fits n env' (nums own) a' → wpList P ops Q r a' w) → wpList P ops Q (l ++ r) a w
 | [], env, env', c, a, r, hf, _, h, _, hr => by
  simp only [ev, Option.some.injEq, Prod.mk.injEq] at h
  obtain ⟨rfl, _⟩ := h
  exact hr a hf
 | o :: l, env, env', c, a, r, hf, hown, h, hc, hr => by
  simp only [ev] at h
  split at h
  ·rename_i env1 c1 h1
   split at h
   ·rename_i env2 c2 h2
    simp only [Option.some.injEq, Prod.mk.injEq] at h
    obtain ⟨rfl, rfl⟩ := h
    obtain ⟨hc1, hc2⟩ := conj_cons hc
    exact ev1_ok hf hown h1 hc1 fun a' hf' => ev_ok l hf' hown h2 hc2 hr
   ·cases h
  ·rename_i env1 h1
   exact ev1_ok hf hown h1 trivial fun a' hf' => ev_ok l hf' hown h hc hr
  ·cases h
def evI (P : Program) (n : Nat) (ops : Array Oper) (own : List Bx) (j k : Nat) (env : List En) : Option (List En × List Prop) := ev P n ops own ((ops.toList.drop j).take (k - j)) env
def evK (P : Program) (n : Nat) (ops : Array Oper) (own : List Bx) (j k : Nat) (env : List En) (ks : List Nat) : Option (List (Option (Path × SV)) × List Prop) :=
 match evI P n ops own j k env with
 | some (env', c) => some (got env' ks, c)
 | none => none
theorem segE {j : Nat} (k : Nat) (env' : List En) (c : List Prop) (hjk : j ≤ k) (hev : evI P n ops own j k env = some (env', c)) (hown : OwnOk w own) (hc : conj c) (h : RunI P n ops k Q env' own w) : RunI P n ops j Q env own w := by
 intro a hf
 have := ev_ok (r := ops.toList.drop k) ((ops.toList.drop j).take (k - j)) hf hown hev hc h
 have e : (ops.toList.drop j).take (k - j) ++ ops.toList.drop k = ops.toList.drop j := by
  have := List.take_append_drop (k - j) (ops.toList.drop j)
  rw [List.drop_drop, show j + (k - j) = k by omega] at this
  exact this
 rw [e] at this
 exact this
theorem seg {j : Nat} (k : Nat) (l : List (Nat × SV)) (c : List Prop) (hjk : j ≤ k) (hev : evK P n ops own j k env (slots l) = some (svs l, c)) (hown : OwnOk w own) (hc : conj c) (h : RunI P n ops k Q (kn l) own w) : RunI P n ops j Q env own w := by
 unfold evK at hev
 split at hev
 ·rename_i env1 c1 h1
  simp only [Option.some.injEq, Prod.mk.injEq] at hev
  obtain ⟨h2, rfl⟩ := hev
  exact segE k env1 c1 hjk h1 hown hc (fun a hf => h a (hf.keep h2))
 ·cases hev
def gotE (env env' : List En) : List (Option (Path × SV)) := env'.map fun e => find env e.slot
def svsE (env' : List En) : List (Option (Path × SV)) := env'.map fun e => some (e.path, e.sv)
def evE (P : Program) (n : Nat) (ops : Array Oper) (own : List Bx) (j k : Nat) (env env' : List En) : Option (List (Option (Path × SV)) × List Prop) :=
 match evI P n ops own j k env with
 | some (env1, c) => some (gotE env1 env', c)
 | none => none
theorem find_mem {env : List En} {t : Nat} {p : Path} {sv : SV} (h : find env t = some (p, sv)) : ∃ e ∈ env, e.slot = t ∧ e.path = p ∧ e.sv = sv := by
 induction env with
 | nil => simp [find] at h
 | cons e r ih =>
  simp only [find, beq_iff_eq] at h
  split at h
  ·rename_i hx
   simp only [Option.some.injEq, Prod.mk.injEq] at h
   exact ⟨e, by simp, hx, h.1, h.2⟩
  ·obtain ⟨e', h1, h2⟩ := ih h
   exact ⟨e', by simp [h1], h2⟩
theorem Fits.keepE {ns : List Nat} {a : Act} (hf : Fits n env ns a) {env' : List En} (h : gotE env env' = svsE env') : Fits n env' ns a := by
 have hall : ∀ t p sv, find env' t = some (p, sv) → find env t = some (p, sv) := by
  intro t p sv hfd
  obtain ⟨e, hm, rfl, rfl, rfl⟩ := find_mem hfd
  exact List.map_inj_left.1 h e hm
 exact ⟨hf.defers, hf.size, fun t p sv hfd => hf.yes t p sv (hall t p sv hfd), fun t p sv hfd => hf.no t p sv (hall t p sv hfd)⟩
theorem segK {j : Nat} (k : Nat) (env' : List En) (c : List Prop) (hjk : j ≤ k) (hev : evE P n ops own j k env env' = some (svsE env', c)) (hown : OwnOk w own) (hc : conj c) (h : RunI P n ops k Q env' own w) : RunI P n ops j Q env own w := by
 unfold evE at hev
 split at hev
 ·rename_i env1 c1 h1
  simp only [Option.some.injEq, Prod.mk.injEq] at hev
  obtain ⟨h2, rfl⟩ := hev
  exact segE k env1 c1 hjk h1 hown hc (fun a hf => h a (hf.keepE h2))
 ·cases hev
theorem run_region {id : Nat} (h : RunI P n ops 0 Q env own w) : Run P n (.region id ops false) Q env own w := fun a hf => wp_region_list (by simpa using h a hf)
theorem runI_end {j : Nat} (hj : ops.size = j) (h : At n Q .normal env own w) : RunI P n ops j Q env own w := by
 intro a hf
 rw [List.drop_eq_nil_of_le (by simp; omega)]
 exact wpList_nil (h a hf)
theorem run_seq {x y : Code} (h : Run P n x (Exit.then (y.wp P Q) Q) env own w) : Run P n (.seq x y) Q env own w := fun a hf => wp_seq (h a hf)
theorem at_then {y : Code} (h : Run P n y Q env own w) : At n (Exit.then (y.wp P Q) Q) .normal env own w := h
theorem run_cond {c : Operand} {x y : Code} (b : Bool) (hc : lookV env (nums own) [] c = some (.bool b)) (ht : b = true → Run P n x Q env own w) (hf : b = false → Run P n y Q env own w) : Run P n (.cond c x y) Q env own w :=
 fun a hfa => wp_cond_split (lookV_eq hfa (by simp [Holds]) hc) (fun h => ht h a hfa) (fun h => hf h a hfa)
theorem run_block {id : Nat} {c : Code} (h : Run P n c (Exit.inBlock id Q) env own w) : Run P n (.block id c) Q env own w := fun a hf => wp_block (h a hf)
theorem run_skip (h : At n Q .normal env own w) : Run P n .skip Q env own w := fun a hf => wp_skip (h a hf)
theorem run_exit {id : Nat} (h : At n Q (.exit id) env own w) : Run P n (.exit id) Q env own w := fun a hf => wp_exit (h a hf)
theorem run_ret (h : At n Q .ret env own w) : Run P n .ret Q env own w := fun a hf => wp_ret (h a hf)
theorem at_then_exit {id : Nat} {K : Act → World → Prop} (h : At n Q (.exit id) env own w) : At n (Exit.then K Q) (.exit id) env own w := h
theorem at_then_ret {K : Act → World → Prop} (h : At n Q .ret env own w) : At n (Exit.then K Q) .ret env own w := h
theorem at_block {id : Nat} (h : At n Q .normal env own w) : At n (Exit.inBlock id Q) .normal env own w := h
theorem at_block_ret {id : Nat} (h : At n Q .ret env own w) : At n (Exit.inBlock id Q) .ret env own w := h
theorem at_block_exit {id : Nat} (h : At n Q .normal env own w) : At n (Exit.inBlock id Q) (.exit id) env own w := fun a hf => by simp only [Exit.inBlock, if_true]; exact h a hf
theorem at_block_out {id k : Nat} (hk : k ≠ id) (h : At n Q (.exit k) env own w) : At n (Exit.inBlock id Q) (.exit k) env own w := fun a hf => by simp only [Exit.inBlock, if_neg hk]; exact h a hf
def Handed (n : Nat) {σ : Type} (m : σ → Nat) (l : σ → List (Nat × SV)) (bx : σ → List Bx) (Inv : σ → World → Prop) (x : σ) (a' : Act) (w' : World) : Prop := ∃ y, m y < m x ∧ Inv y w' ∧ Fits n (kn (l y)) (nums (bx y)) a'
theorem run_loop {σ : Type} {body : Code} (m : σ → Nat) (l : σ → List (Nat × SV)) (bx : σ → List Bx) (Inv : σ → World → Prop) (x : σ) (h0 : Inv x w) (hk : got env (slots (l x)) = svs (l x)) (hb : nums (bx x) = nums own)
  (round : ∀ (x : σ) (w : World), Inv x w → Run P n body (Exit.then (Handed n m l bx Inv x) Q) (kn (l x)) (bx x) w) : Run P n (.loop body) Q env own w := by
 intro a hf
 refine wp_loop_ghost (fun k a w => ∃ y, m y = k ∧ Inv y w ∧ Fits n (kn (l y)) (nums (bx y)) a) (m x) ⟨x, rfl, h0, by rw [hb]; exact hf.keep hk⟩ ?_
 rintro k a w ⟨y, rfl, hI, hfy⟩
 refine wp_mono (round y w hI a hfy) ?_
 intro e a' w' hq
 cases e with
 | normal => obtain ⟨z, hz, hI', hf'⟩ := hq; exact ⟨m z, hz, z, rfl, hI', hf'⟩
 | _ => exact hq
theorem at_round {σ : Type} {m : σ → Nat} {l : σ → List (Nat × SV)} {bx : σ → List Bx} {Inv : σ → World → Prop} {x : σ} (y : σ) (hm : m y < m x) (hI : Inv y w) (hk : got env (slots (l y)) = svs (l y)) (hb : nums (bx y) = nums own) :
  At n (Exit.then (Handed n m l bx Inv x) Q) .normal env own w := fun a hf => ⟨y, hm, hI, by rw [hb]; exact hf.keep hk⟩
end
end Go.Eng
