/- Part 34 of the proof: texts U33j, U33k, X8, V33s, V33t, U33n, V33u, V33v, U33p, U33l, U33q. -/
import Derived.Test.YtclaplngjmgnoaaGreatDoorP32
import Derived.Test.YtclaplngjmgnoaaGreatDoorP33
set_option linter.all false
set_option maxRecDepth 100000
namespace Go.Proofs.YtclaplngjmgnoaaGreatDoor
open Go.RowKit Go.V
variable {g : Gv}
theorem evalXT (p row : D) (u : ByteArray) (h : conj [SX g 211 (evI p row) (oL u), SX g 210 [.c (.d p)] (.c (cB true)), SX g 209 [.agg g0C, .c (.d p)] (y20)]) : SX g 140 (evI p row) (oL u) :=
 sX (fun _ => none) (fun _ => none) (fun _ => none) (T := [bD 211 (oL u), bD 210 (.c (cB true)), bD 209 (y20)]) (by kernel_rfl) h
theorem aMI (p row : D) (e : Int) (h : conj [SX g 211 (evI p row) (oE e), SX g 210 [.c (.d p)] (.c (cB true)), SX g 209 [.agg g0C, .c (.d p)] (y20)]) : SX g 140 (evI p row) (oE e) :=
 sX (fun _ => none) (fun _ => none) (fun _ => none) (T := [bD 211 (oE e), bD 210 (.c (cB true)), bD 209 (y20)]) (by kernel_rfl) h
theorem aKH (p row : D) (u : ByteArray) (h : conj [SX g 140 (evI p row) (oL u)]) : SX g 89 (evI p row) (aT u) :=
 sX (fun _ => none) (fun _ => none) (fun _ => none) (T := [bD 140 (oL u)]) (by kernel_rfl) h
theorem aG9 (p row : D) (h : conj [SX g 141 [.c (cI 16)] (oF 16), SX g 140 (evI p row) (oE 16)]) : SX g 89 (evI p row) (oF 16) :=
 sX (fun _ => none) (fun _ => none) (fun _ => none) (T := [bD 140 (oE 16), bD 141 (oF 16)]) (by kernel_rfl) h
theorem aG8 (p row : D) (h : conj [SX g 141 [.c (cI 18)] (oF 18), SX g 140 (evI p row) (oE 18)]) : SX g 89 (evI p row) (oF 18) :=
 sX (fun _ => none) (fun _ => none) (fun _ => none) (T := [bD 140 (oE 18), bD 141 (oF 18)]) (by kernel_rfl) h
theorem fitsXTT (s t : ByteArray) (h : conj [RgT g t, RgT g s]) : SX g 342 [kK, .c (cM 7 [[.i 1, .s s, .i 0, .i 0, .i 0, .sl 1 [], .sl 1 []], [.i 1, .s t, .i 0, .i 0, .i 0, .sl 1 [], .sl 1 []]])] (.c (cB true)) :=
 sX (fun _ => none) (fun _ => none) (fun _ => none) (T := [bD 145 (.c (cB true))]) (by kernel_rfl) h
abbrev y21 : SV := .agg [cI 0, cS (S []), cI 0, cI 0, cI 0, cM 1 [], cM 1 []]
theorem fitsXTN (s t : ByteArray) (h : conj [SX g 145 [y21] (.c (cB true)), RgT g s]) : SX g 342 [kK, .c (cM 7 [[.i 1, .s s, .i 0, .i 0, .i 0, .sl 1 [], .sl 1 []], [.i 0, .s (S []), .i 0, .i 0, .i 0, .sl 1 [], .sl 1 []]])] (.c (cB true)) :=
 sX (fun _ => none) (fun _ => none) (fun _ => none) (T := [bD 145 (.c (cB true))]) (by kernel_rfl) h
theorem fitsXNT (s t : ByteArray) (h : conj [RgT g t, SX g 145 [y21] (.c (cB true))]) : SX g 342 [kK, .c (cM 7 [[.i 0, .s (S []), .i 0, .i 0, .i 0, .sl 1 [], .sl 1 []], [.i 1, .s t, .i 0, .i 0, .i 0, .sl 1 [], .sl 1 []]])] (.c (cB true)) :=
 sX (fun _ => none) (fun _ => none) (fun _ => none) (T := [bD 145 (.c (cB true))]) (by kernel_rfl) h
theorem fitsXNN (s t : ByteArray) (h : conj [SX g 145 [y21] (.c (cB true)), SX g 145 [y21] (.c (cB true))]) : SX g 342 [kK, .c (cM 7 [[.i 0, .s (S []), .i 0, .i 0, .i 0, .sl 1 [], .sl 1 []], [.i 0, .s (S []), .i 0, .i 0, .i 0, .sl 1 [], .sl 1 []]])] (.c (cB true)) :=
 sX (fun _ => none) (fun _ => none) (fun _ => none) (T := [bD 145 (.c (cB true))]) (by kernel_rfl) h
theorem wL  : SX g 145 [y21] (.c (cB true)) :=
 sX (fun _ => none) (fun _ => none) (fun _ => none) (T := []) (cs := []) (by kernel_rfl) trivial
end Go.Proofs.YtclaplngjmgnoaaGreatDoor
namespace Go.Proofs.YtclaplngjmgnoaaGreatDoor
open Go.RowKit Go.V
variable {g : Gv}
def eBx (f : FuncId) (tell : Nat → Option (SV × Int)) : Ent Tryz.prog (Gl g) where
 f := f
 ask := fun k ins refs => match refs with
  | [(0, .box ty [c0, _])] => match tell k with
   | some (out, q) => some (out, [(0, .box ty [c0, cI q])], [V.Spec Tryz.prog (Gl g) f ins refs out [(0, .box ty [c0, cI q])]])
   | none => none
  | _ => none
 ok := by
  intro k ins refs post out cs h hc
  split at h
  split at h
  cases h; exact hc
  cases h
  cases h
end Go.Proofs.YtclaplngjmgnoaaGreatDoor
namespace Go.V
open Go.RowKit
def xG (l : List Nat) (j : Nat) : Bool := l.any (Nat.beq j)
def nodupB : List Nat → Bool
 | [] => true
 | x :: r => !(xG r x) && nodupB r
theorem hasN_iff {l : List Nat} {j : Nat} : xG l j = true ↔ j ∈ l := by
 unfold xG
 rw [List.any_eq_true]
 constructor
 rintro ⟨x, hx, h⟩; rw [Nat.eq_of_beq_eq_true h]; exact hx
 intro h; exact ⟨j, h, Nat.beq_refl j⟩
theorem tV : ∀ {l : List Nat}, nodupB l = true → l.Nodup
 | [], _ => List.nodup_nil
 | x :: r, h => by
  simp only [nodupB, Bool.and_eq_true, Bool.not_eq_true'] at h
  refine List.nodup_cons.2 ⟨fun hx => ?_, tV h.2⟩
  rw [hasN_iff.2 hx] at h
  cases h.1
def aAI (own : Own) (keep : Nat → Bool) : List Nat → Option bI
 | [] => some []
 | i :: r => match own i, aAI own keep r with
  | some o, some l => some ((i, kA own keep o) :: l)
  | _, _ => none
theorem qX {own : Own} {keep : Nat → Bool} : ∀ {l : List Nat} {p : bI}, aAI own keep l = some p → ∀ j, lookO p j = if j ∈ l then (match own j with | some o => some (kA own keep o) | none => none) else none
 | [], p, h, j => by
  simp only [aAI, Option.some.injEq] at h
  subst h
  simp [lookO]
 | i :: r, p, h, j => by
  simp only [aAI] at h
  split at h
  rename_i o l ho hl
  simp only [Option.some.injEq] at h
  subst h
  have ih := qX hl j
  by_cases hj : i = j
  subst hj
  simp [lookO, ho]
  have e2 : (i == j) = false := by simpa using hj
  have e3 : j ≠ i := fun h => hj h.symm
  simp only [lookO, e2, List.mem_cons, e3, false_or]
  exact ih
  cases h
def number (l : List Nat) : Nat → List (Nat × Nat)
 | k => match l with
  | [] => []
  | i :: r => (i, k) :: number r (k + 1)
theorem qY : ∀ (l : List Nat) (k : Nat), (number l k).map (·.1) = l
 | [], k => by simp [number]
 | i :: r, k => by simp [number, qY r (k + 1)]
theorem aAJ : ∀ (l : List Nat) (k : Nat) (j : Nat), j ∈ (number l k).map (·.2) → k ≤ j
 | [], k, j, h => by simp [number] at h
 | i :: r, k, j, h => by
  simp only [number, List.map_cons, List.mem_cons] at h
  rcases h with rfl | h
  ·exact Nat.le_refl _
  ·exact Nat.le_of_succ_le (aAJ r (k + 1) j h)
theorem tS : ∀ (l : List Nat) (k : Nat), ((number l k).map (·.2)).Nodup
 | [], k => by simp [number]
 | i :: r, k => by
  simp only [number, List.map_cons]
  refine List.nodup_cons.2 ⟨fun h => ?_, tS r (k + 1)⟩
  have := aAJ r (k + 1) k h
  omega
section
variable {P : Program} {G : List (Nat × List Value)}
def topN (T : List (Ent P G)) (ne : List (NE P)) (df : List (EntD P)) (orc : Nat → Option Bool) (lit : Nat → Option Value) (F d : Nat) (f : FuncId) (ins : List SV) : Option (SV × bI × List Prop) :=
 match (aIN T ne df orc lit F (fun _ => none) (d + 1)).call 100 f ins .e with
 | some r => match r.sv with
  | .c (.ar i _) =>
   match aAI r.own.get (xG (gC r.own.get 1000 [i] [])) (gC r.own.get 1000 [i] []) with
   | some obs => match z1 (number (gC r.own.get 1000 [i] []) 100) false (aD4 r.own.get (xG (gC r.own.get 1000 [i] [])) r.sv), iY (number (gC r.own.get 1000 [i] []) 100) obs with
    | some out, some post => bif nodupB (gC r.own.get 1000 [i] []) && (gC r.own.get 1000 [i] []).all (Nat.ble 100) then some (out, post, r.cs) else none
    | _, _ => none
   | none => none
  | _ => none
 | none => none
theorem kP {T : List (Ent P G)} {ne : List (NE P)} {df : List (EntD P)} (orc : Nat → Option Bool) (lit : Nat → Option Value) {F d : Nat} {f : FuncId} {ins : List SV} {out : SV} {post : bI} {cs : List Prop} (hm : P.follows .mixedOrders = true) (h : topN T ne df orc lit F d f ins = some (out, post, cs)) (hc : conj cs) : Spec P G f ins [] out post := by
 unfold topN at h
 split at h
 ·rename_i r hr
  split at h
  ·rename_i i kk hsv
   revert h
   generalize gC r.own.get 1000 [i] [] = ids
   intro h
   split at h
   ·rename_i obs ho
    split at h
    ·rename_i out' post' hout hpost
     cases hb : (nodupB ids && ids.all (Nat.ble 100)) with
     | false => rw [hb] at h; cases h
     | true =>
      rw [hb] at h
      simp only [cond_true, Option.some.injEq, Prod.mk.injEq] at h
      obtain ⟨rfl, rfl, rfl⟩ := h
      rw [Bool.and_eq_true] at hb
      obtain ⟨hnd, hall⟩ := hb
      have hnd := tV hnd
      have h100 : ∀ j ∈ ids, 100 ≤ j := fun j hj => Nat.le_of_ble_eq_true (List.all_eq_true.1 hall j hj)
      obtain ⟨c1, c2, c3⟩ := (mH (T := T) (ne := ne) (df := df) (orc := orc) (lit := lit) (F := F) (hnt := fun _ => none) hm (d + 1)).call _ _ _ _ _ hr
      intro fr w pl args hw hG m ha
      have hE : lookO [] = (Tr.e : Tr Ob).get := by funext i; rfl
      have hX : ∀ i b, (i, b) ∉ fr.X := by
       intro i b hib
       rcases m.bor i b hib with ⟨_, _, h, _⟩ | ⟨_, _, _, _, h⟩ <;> cases h
      refine (c3 fr (lookO []) w pl args hG.G hc (fun i _ => by rw [hE]) m ha).mono ?_
      rintro e w' ⟨v, pl', rfl, m', L, hs⟩
      rw [hE, ← c1] at m' hs
      have hk : cG r.own.get (xG ids) = lookO obs := by
       funext j
       rw [qX ho j]
       unfold cG
       by_cases hj : j ∈ ids
       ·rw [if_pos (hasN_iff.2 hj), if_pos hj]
        cases r.own.get j <;> rfl
       ·rw [if_neg hj]
        cases hq : xG ids j with
        | false => rfl
        | true => exact absurd (hasN_iff.1 hq) hj
      have m1 := j4 (keep := xG ids) m' fun i b h => absurd h (hX i b)
      have s1 := r7 (keep := xG ids) m' (fun i b h => absurd h (hX i b)) hs
      rw [hk] at m1 s1
      obtain ⟨pl2, m2, R⟩ := aCA (ij := number ids 100) (tS ids 100) (by rw [qY]; exact hnd) (fun a b hab hlt => by
       have : a ∈ (number ids 100).map (·.1) := List.mem_map.2 ⟨(a, b), hab, rfl⟩
       rw [qY] at this
       have := h100 a this
       omega) hpost m1
      exact ⟨v, pl2, rfl, m2, R.s hout s1⟩
    ·cases h
   ·cases h
  ·cases h
 ·cases h
end
def kR (dp : C → Option D) (ov : List (Nat × C)) : Nat → List (List D) → Option (List (List D))
 | _, [] => some []
 | j, [d] :: r => match kR dp ov (j + 1) r with
  | some r' => match ov.lookup j with
   | some c => match dp c with
    | some d' => some ([d'] :: r')
    | none => none
   | none => some ([d] :: r')
  | none => none
 | _, _ => none
def uU (own : Own) : Nat → C → Option D
 | 0, _ => none
 | f + 1, c => match c with
  | .d x => some x
  | .ar i k => match own i with
   | some (.arr k' e sz es) => bif Nat.beq k' k then (match e.ov with
    | [] => some (.sl sz es)
    | x :: r => bif Nat.beq sz 1 && !(mkd (x :: r)) then (match kR (uU own f) (x :: r) 0 es with
     | some es' => some (.sl 1 es')
     | none => none) else none) else none
   | _ => none
  | _ => none
theorem tP {dp : C → Option D} {ov : List (Nat × C)} : ∀ {es es' : List (List D)} {j : Nat}, kR dp ov j es = some es' → es'.length = es.length ∧ es'.flatten.length = es.flatten.length ∧ (∀ ds ∈ es', ds.length = 1) ∧
  ∀ q d', es'.flatten[q]? = some d' → ∃ d, es.flatten[q]? = some d ∧ ((∃ c, ov.lookup (j + q) = some c ∧ dp c = some d') ∨ (ov.lookup (j + q) = none ∧ d' = d))
 | [], es', j, h => by
  simp only [kR, Option.some.injEq] at h
  subst h
  simp
 | [] :: r, es', j, h => by simp [kR] at h
 | (_ :: _ :: _) :: r, es', j, h => by simp [kR] at h
 | [d] :: r, es', j, h => by
  simp only [kR] at h
  split at h
  rename_i r' hr
  obtain ⟨a1, a2, a3, a4⟩ := tP hr
  have tail : ∀ (y : D) q d', ([y] :: r').flatten[q + 1]? = some d' → ∃ x, ([d] :: r).flatten[q + 1]? = some x ∧ ((∃ c, ov.lookup (j + (q + 1)) = some c ∧ dp c = some d') ∨ (ov.lookup (j + (q + 1)) = none ∧ d' = x)) := by
   intro y q d' hq
   obtain ⟨x, hx, hc⟩ := a4 q d' (by simpa using hq)
   exact ⟨x, by simpa using hx, by rw [show j + (q + 1) = j + 1 + q by omega]; exact hc⟩
  split at h
  rename_i c hc
  split at h
  rename_i d1 hd
  simp only [Option.some.injEq] at h
  subst h
  refine ⟨by simp [a1], by simp [a2], fun ds hds => ?_, fun q d' hq => ?_⟩
  rcases List.mem_cons.1 hds with rfl | hds
  rfl
  exact a3 ds hds
  cases q with
  | zero =>
   simp only [List.flatten_cons, List.cons_append, List.getElem?_cons_zero, Option.some.injEq] at hq
   subst hq
   exact ⟨d, by simp, .inl ⟨c, hc, hd⟩⟩
  | succ q => exact tail _ q d' hq
  cases h
  rename_i hc
  simp only [Option.some.injEq] at h
  subst h
  refine ⟨by simp [a1], by simp [a2], fun ds hds => ?_, fun q d' hq => ?_⟩
  rcases List.mem_cons.1 hds with rfl | hds
  rfl
  exact a3 ds hds
  cases q with
  | zero =>
   simp only [List.flatten_cons, List.cons_append, List.getElem?_cons_zero, Option.some.injEq] at hq
   subst hq
   exact ⟨d, by simp, .inr ⟨hc, rfl⟩⟩
  | succ q => exact tail _ q d' hq
  cases h
theorem aBE {fr : Fr} {own : Own} {w : World} {pl : Pl} (m : Mem fr own w pl) (hX : ∀ i b, (i, b) ∉ fr.X) : ∀ {f : Nat} {c : C} {d : D} {v : Value}, uU own f c = some d → COk w pl own c v → Rd w (Sh pl (lookO [])) d v
 | 0, c, d, v, h, _ => by cases h
 | f + 1, c, d, v, h, hv => by
  have T : ∀ d v, Rd w (Sh pl own) d v → Rd w (Sh pl (lookO [])) d v := fun d v h => Rd.frame (fun _ _ _ => rfl) (fun _ _ h => ⟨h.1, fun j hj => by simp [aJ, lookO] at hj⟩) h
  cases c with
  | d x =>
   simp only [uU, Option.some.injEq] at h
   subst h
   exact T _ _ hv
  | ar i k =>
   simp only [uU] at h
   obtain ⟨k', e, sz, es, ho, hkk, hw, h1⟩ := hv
   rw [ho] at h
   simp only at h
   cases hb : Nat.beq k' k with
   | false => rw [hb] at h; cases h
   | true =>
    rw [hb] at h
    simp only [cond_true] at h
    have hk := Nat.eq_of_beq_eq_true hb
    have hblk : ∀ b, (pl.sl i).1.map (·.block) = some b → Sh pl (lookO []) b := by
     intro b hbb
     have hbi : aJ pl own i = some b := by simp only [aJ, ho]; exact hbb
     refine ⟨?_, fun j hj => by simp [aJ, lookO] at hj⟩
     rcases m.base i b hbi with h2 | h2
     ·exact (m.hS b).2 (.inr h2)
     ·exact absurd h2 (hX i b)
    obtain ⟨e, ov⟩ := e
    split at h
    ·rename_i hov
     have hov : ov = [] := hov
     subst hov
     simp only [Option.some.injEq] at h
     subst h
     rw [hw hk]
     exact sI (m.obj i _ ho) hblk T
    ·rename_i x r hov
     have hov : ov = x :: r := hov
     subst hov
     cases hz : (Nat.beq sz 1 && !(mkd (x :: r))) with
     | false => rw [hz] at h; cases h
     | true =>
      rw [hz] at h
      rw [Bool.and_eq_true, Bool.not_eq_true'] at hz
      obtain ⟨hz, hmk⟩ := hz
      have hz := Nat.eq_of_beq_eq_true hz
      subst hz
      simp only [cond_true] at h
      split at h
      ·rename_i es' hp
       simp only [Option.some.injEq] at h
       subst h
       obtain ⟨a1, a2, a3, a4⟩ := tP hp
       obtain ⟨xs, hx, hr, hs⟩ := m.obj i _ ho
       rw [hw hk, ← a1]
       rw [← a1] at hx
       have hx : ownsQ (mkd (x :: r)) w 0 e 1 (.slice (pl.sl i).1 es'.length (pl.sl i).2) es'.length xs := hx
       rw [hmk] at hx
       refine nD hx hblk ⟨by rw [a2]; exact hr.1, fun q d' u hd hu => ?_⟩ a3
       obtain ⟨d0, hd0, hc⟩ := a4 q d' hd
       have hq := hr.2 q d0 u hd0 hu
       rw [Nat.zero_add] at hc
       rcases hc with ⟨c, hl, hdp⟩ | ⟨hl, rfl⟩
       ·have hq : COk w pl own c u := by
         have := hq
         rw [hl] at this
         exact this
        exact aBE m hX hdp hq
       ·rw [hl] at hq
        exact T _ _ hq
      ·cases h
  | _ => simp [uU] at h
section
variable {P : Program} {G : List (Nat × List Value)}
def topD (T : List (Ent P G)) (ne : List (NE P)) (df : List (EntD P)) (orc : Nat → Option Bool) (lit : Nat → Option Value) (F d : Nat) (f : FuncId) (ins : List SV) : Option (SV × List Prop) :=
 match (aIN T ne df orc lit F (fun _ => none) (d + 1)).call 100 f ins .e with
 | some r => match r.sv with
  | .c c => match uU r.own.get 20 c with
   | some x => some (.c (.d x), r.cs)
   | none => none
  | _ => none
 | none => none
theorem wD {T : List (Ent P G)} {ne : List (NE P)} {df : List (EntD P)} (orc : Nat → Option Bool) (lit : Nat → Option Value) {F d : Nat} {f : FuncId} {ins : List SV} {out : SV} {cs : List Prop} (hm : P.follows .mixedOrders = true) (h : topD T ne df orc lit F d f ins = some (out, cs)) (hc : conj cs) : Spec P G f ins [] out [] := by
 unfold topD at h
 split at h
 rename_i r hr
 split at h
 rename_i c hsv
 split at h
 rename_i x hx
 simp only [Option.some.injEq, Prod.mk.injEq] at h
 obtain ⟨rfl, rfl⟩ := h
 obtain ⟨c1, c2, c3⟩ := (mH (T := T) (ne := ne) (df := df) (orc := orc) (lit := lit) (F := F) (hnt := fun _ => none) hm (d + 1)).call _ _ _ _ _ hr
 intro fr w pl args hw hG m ha
 have hE : lookO [] = (Tr.e : Tr Ob).get := by funext i; rfl
 have hX : ∀ i b, (i, b) ∉ fr.X := by
  intro i b hib
  rcases m.bor i b hib with ⟨_, _, h, _⟩ | ⟨_, _, _, _, h⟩ <;> cases h
 refine (c3 fr (lookO []) w pl args hG.G hc (fun i _ => by rw [hE]) m ha).mono ?_
 rintro e w' ⟨v, pl', rfl, m', L, hs⟩
 rw [hE, ← c1] at m' hs
 have hk : cG r.own.get (fun _ => false) = lookO [] := by funext i; simp [cG, lookO]
 refine ⟨v, pl', rfl, ?_, ?_⟩
 rw [← hk]; exact j4 m' fun i b h => absurd h (hX i b)
 rw [hsv] at hs
 exact aBE m' hX hx hs
 cases h
 cases h
 cases h
end
end Go.V
namespace Go.Proofs.YtclaplngjmgnoaaGreatDoor
open Go.RowKit Go.V
variable {g : Gv}
structure LitA (g : Gv) (f : FuncId) where
 ins : List SV
 out : SV
 post : bI
 ok : V.Spec Tryz.prog (Gl g) f ins [] out post
def w7 {f : FuncId} : List (LitA g f) → List SV → Option (LitA g f)
 | [], _ => none
 | e :: r, ins => bif allEq aGQ e.ins ins then some e else w7 r ins
theorem t7 {f : FuncId} : ∀ {T : List (LitA g f)} {ins : List SV} {e : LitA g f}, w7 T ins = some e → e.ins = ins
 | [], ins, e, h => by cases h
 | x :: r, ins, e, h => by
  unfold w7 at h
  cases hb : allEq aGQ x.ins ins with
  | false => rw [hb] at h; exact t7 h
  | true =>
   rw [hb] at h
   simp only [cond_true, Option.some.injEq] at h
   subst h
   exact iF (fun _ _ => aEJ) hb
def eLitsA (f : FuncId) (T : List (LitA g f)) : Ent Tryz.prog (Gl g) where
 f := f
 ask := fun _ ins refs => match refs with
  | [] => match w7 T ins with
   | some e => some (e.out, e.post, [])
   | none => none
  | _ => none
 ok := by
  intro k ins refs post out cs h _
  split at h
  split at h
  rename_i e he
  simp only [Option.some.injEq, Prod.mk.injEq] at h
  obtain ⟨rfl, rfl, _⟩ := h
  rw [← t7 he]
  exact e.ok
  cases h
  cases h
theorem vU : V.Spec Tryz.prog (Gl g) 202 [.c (cM 1 [[.s (S [])], [.s (S [1])], [.s (S [])], [.s (S [])], [.s (S [])], [.s (S [])], [.s (S [])], [.s (S [])], [.s (S [])], [.s (S [])]]), .c (cM 1 [[.s (S [])], [.s (S [])], [.s (S [])]])] [] (.c (.ar 100 0)) [(100, (.arr 0 225 1 [[.s (S [])], [.s (S [])], [.s (S [])], [.s (S [])], [.s (S [])], [.s (S [])], [.s (S [])], [.s (S [])], [.s (S [])], [.s (S [])]]))] :=
 kP (fun _ => none) (fun _ => none) (T := [aU 267 [⟨_, _, nN⟩, ⟨_, _, aLH⟩], aU 133 [⟨_, _, jR⟩]]) (ne := []) (df := []) (F := 100000) (d := 60) (cs := []) hmx (by kernel_rfl) trivial
theorem vS : V.Spec Tryz.prog (Gl g) 202 [.c (cM 1 [[.s (S [])], [.s (S [])], [.s (S [])], [.s (S [])], [.s (S [])], [.s (S [])], [.s (S [])], [.s (S [])], [.s (S [])], [.s (S [])]]), .c (cM 1 [[.s (S [])], [.s (S [2])], [.s (S [])], [.s (S [])], [.s (S [])]])] [] (.c (.ar 100 0)) [(100, (.arr 0 225 1 [[.s (S [])], [.s (S [])], [.s (S [])], [.s (S [])], [.s (S [])], [.s (S [])], [.s (S [])], [.s (S [])], [.s (S [])], [.s (S [])]]))] :=
 kP (fun _ => none) (fun _ => none) (T := [aU 267 [⟨_, _, nM⟩, ⟨_, _, nN⟩], aU 133 [⟨_, _, jR⟩]]) (ne := []) (df := []) (F := 100000) (d := 60) (cs := []) hmx (by kernel_rfl) trivial
theorem vR : V.Spec Tryz.prog (Gl g) 202 [.c (cM 1 [[.s (S [])], [.s (S [1])], [.s (S [])], [.s (S [])], [.s (S [])], [.s (S [])], [.s (S [])], [.s (S [])], [.s (S [])], [.s (S [])]]), .c (cM 1 [[.s (S [])], [.s (S [2])], [.s (S [])]])] [] (.c (.ar 100 0)) [(100, (.arr 0 225 1 [[.s (S [])], [.s (S [])], [.s (S [2])], [.s (S [])], [.s (S [])], [.s (S [])], [.s (S [])], [.s (S [])], [.s (S [])], [.s (S [])]]))] :=
 kP (fun _ => none) (fun _ => none) (T := [aU 267 [⟨_, _, nM⟩, ⟨_, _, nN⟩, ⟨_, _, aLG⟩, ⟨_, _, aLH⟩], aU 133 [⟨_, _, jR⟩, ⟨_, _, aEA⟩]]) (ne := []) (df := []) (F := 100000) (d := 60) (cs := []) hmx (by kernel_rfl) trivial
theorem vQ : V.Spec Tryz.prog (Gl g) 202 [.c (cM 1 [[.s (S [])], [.s (S [])], [.s (S [2])], [.s (S [])], [.s (S [])], [.s (S [])], [.s (S [])], [.s (S [])], [.s (S [])], [.s (S [])]]), .c (cM 1 [[.s (S [])], [.s (S [2])], [.s (S [])], [.s (S [])], [.s (S [])]])] [] (.c (.ar 100 0)) [(100, (.arr 0 225 1 [[.s (S [])], [.s (S [])], [.s (S [])], [.s (S [4])], [.s (S [])], [.s (S [])], [.s (S [])], [.s (S [])], [.s (S [])], [.s (S [])]]))] :=
 kP (fun _ => none) (fun _ => none) (T := [aU 267 [⟨_, _, nM⟩, ⟨_, _, nN⟩, ⟨_, _, aDH⟩, ⟨_, _, aDI⟩], aU 133 [⟨_, _, jR⟩, ⟨_, _, x8⟩]]) (ne := []) (df := []) (F := 100000) (d := 60) (cs := []) hmx (by kernel_rfl) trivial
theorem vP : V.Spec Tryz.prog (Gl g) 202 [.c (cM 1 [[.s (S [])], [.s (S [1])], [.s (S [])], [.s (S [])], [.s (S [])], [.s (S [])], [.s (S [])], [.s (S [])], [.s (S [])], [.s (S [])]]), .c (cM 1 [[.s (S [])], [.s (S [2])], [.s (S [2])]])] [] (.c (.ar 100 0)) [(100, (.arr 0 225 1 [[.s (S [])], [.s (S [])], [.s (S [2])], [.s (S [2])], [.s (S [])], [.s (S [])], [.s (S [])], [.s (S [])], [.s (S [])], [.s (S [])]]))] :=
 kP (fun _ => none) (fun _ => none) (T := [aU 267 [⟨_, _, nM⟩, ⟨_, _, aLG⟩], aU 133 [⟨_, _, jR⟩, ⟨_, _, aEA⟩, ⟨_, _, aNT⟩]]) (ne := []) (df := []) (F := 100000) (d := 60) (cs := []) hmx (by kernel_rfl) trivial
theorem vO : V.Spec Tryz.prog (Gl g) 202 [.c (cM 1 [[.s (S [])], [.s (S [])], [.s (S [2])], [.s (S [2])], [.s (S [])], [.s (S [])], [.s (S [])], [.s (S [])], [.s (S [])], [.s (S [])]]), .c (cM 1 [[.s (S [])], [.s (S [2])], [.s (S [2])], [.s (S [])], [.s (S [])]])] [] (.c (.ar 100 0)) [(100, (.arr 0 225 1 [[.s (S [])], [.s (S [])], [.s (S [])], [.s (S [4])], [.s (S [8])], [.s (S [4])], [.s (S [])], [.s (S [])], [.s (S [])], [.s (S [])]]))] :=
 kP (fun _ => none) (fun _ => none) (T := [aU 267 [⟨_, _, nM⟩, ⟨_, _, nN⟩, ⟨_, _, aDH⟩, ⟨_, _, aDI⟩], aU 133 [⟨_, _, jR⟩, ⟨_, _, x8⟩, ⟨_, _, aNS⟩, ⟨_, _, ad_4_0⟩]]) (ne := []) (df := []) (F := 100000) (d := 60) (cs := []) hmx (by kernel_rfl) trivial
theorem vN : V.Spec Tryz.prog (Gl g) 202 [.c (cM 1 [[.s (S [])], [.s (S [])], [.s (S [2])], [.s (S [2])], [.s (S [])], [.s (S [])], [.s (S [])], [.s (S [])], [.s (S [])], [.s (S [])]]), .c (cM 1 [[.s (S [])], [.s (S [2])], [.s (S [2])], [.s (S [6])], [.s (S [])]])] [] (.c (.ar 100 0)) [(100, (.arr 0 225 1 [[.s (S [])], [.s (S [])], [.s (S [])], [.s (S [4])], [.s (S [8])], [.s (S [16])], [.s (S [12])], [.s (S [])], [.s (S [])], [.s (S [])]]))] :=
 kP (fun _ => none) (fun _ => none) (T := [aU 267 [⟨_, _, nM⟩, ⟨_, _, mu_0_6⟩, ⟨_, _, nN⟩, ⟨_, _, aDH⟩, ⟨_, _, mu_2_6⟩, ⟨_, _, aDI⟩], aU 133 [⟨_, _, jR⟩, ⟨_, _, x8⟩, ⟨_, _, ad_0_12⟩, ⟨_, _, aNS⟩, ⟨_, _, ad_12_4⟩, ⟨_, _, ad_16_0⟩, ⟨_, _, ad_12_0⟩]]) (ne := []) (df := []) (F := 100000) (d := 60) (cs := []) hmx (by kernel_rfl) trivial
theorem checkX : V.Spec Tryz.prog (Gl g) 84 [.agg g0C, .c (cM 3 fO)] [] (.tup [(false, [cI 0]), (false, [cI 0])]) [] :=
 bF (fun _ => none) (fun _ => none) (T := [aU 130 [⟨_, _, wK⟩], aU 131 [⟨_, _, gfit0⟩, ⟨_, _, gfit1⟩, ⟨_, _, gfit2⟩, ⟨_, _, gfit3⟩, ⟨_, _, gfit4⟩, ⟨_, _, gfit5⟩, ⟨_, _, gfit6⟩], aU 133 [⟨_, _, ad_0_1⟩, ⟨_, _, ad_1_1⟩, ⟨_, _, aNT⟩, ⟨_, _, jR⟩, ⟨_, _, aEA⟩, ⟨_, _, x8⟩, ⟨_, _, ad_4_2⟩, ⟨_, _, ad_0_8⟩, ⟨_, _, ad_8_0⟩, ⟨_, _, ad_2_2⟩, ⟨_, _, ad_4_6⟩, ⟨_, _, ad_10_8⟩], eLitsA 202 [⟨_, _, _, vU⟩, ⟨_, _, _, vS⟩, ⟨_, _, _, vR⟩, ⟨_, _, _, vQ⟩, ⟨_, _, _, vP⟩, ⟨_, _, _, vO⟩, ⟨_, _, _, vN⟩]]) (ne := []) (df := []) (F := 100000) (d := 60) (cs := []) hmx (by kernel_rfl) trivial
end Go.Proofs.YtclaplngjmgnoaaGreatDoor
namespace Go.Proofs.YtclaplngjmgnoaaGreatDoor
open Go.RowKit Go.V
variable {g : Gv}
theorem iD : V.Spec Tryz.prog (Gl g) 85 [.c (.d (nlD))] [] (.c (cM 3 fO)) [] :=
 bF (fun _ => none) (fun k => mkL [188] [] k) (T := []) (ne := []) (df := []) (F := 100000) (d := 60) (cs := []) hmx (by kernel_rfl) trivial
theorem yV : V.Spec Tryz.prog (Gl g) 190 [.c (cS (S [103, 114, 97, 109, 109, 97, 114, 32, 116, 101, 120, 116, 115, 32, 49])), .c (.d (.v (.int .u8 32)))] [] (.c (cM 1 [[.s (S [103, 114, 97, 109, 109, 97, 114])], [.s (S [116, 101, 120, 116, 115])], [.s (S [49])]])) [] :=
 bF (fun _ => none) (fun _ => none) (T := []) (ne := []) (df := []) (F := 100000) (d := 60) (cs := []) hmx (by kernel_rfl) trivial
theorem vM : V.Spec Tryz.prog (Gl g) 271 [.c (cS (S [49]))] [] (.tup [(false, [cI 1]), (false, [cB true]), (false, [cB true])]) [] :=
 bF (fun _ => none) (fun _ => none) (T := []) (ne := []) (df := []) (F := 100000) (d := 60) (cs := []) hmx (by kernel_rfl) trivial
theorem yU : V.Spec Tryz.prog (Gl g) 190 [.c (cS (S [99, 111, 108, 117, 109, 110, 32, 97, 32, 116, 101, 120, 116])), .c (.d (.v (.int .u8 32)))] [] (.c (cM 1 [[.s (S [99, 111, 108, 117, 109, 110])], [.s (S [97])], [.s (S [116, 101, 120, 116])]])) [] :=
 bF (fun _ => none) (fun _ => none) (T := []) (ne := []) (df := []) (F := 100000) (d := 60) (cs := []) hmx (by kernel_rfl) trivial
theorem yT : V.Spec Tryz.prog (Gl g) 190 [.c (cS (S [99, 111, 108, 117, 109, 110, 32, 98, 32, 116, 101, 120, 116])), .c (.d (.v (.int .u8 32)))] [] (.c (cM 1 [[.s (S [99, 111, 108, 117, 109, 110])], [.s (S [98])], [.s (S [116, 101, 120, 116])]])) [] :=
 bF (fun _ => none) (fun _ => none) (T := []) (ne := []) (df := []) (F := 100000) (d := 60) (cs := []) hmx (by kernel_rfl) trivial
theorem yS : V.Spec Tryz.prog (Gl g) 190 [.c (cS (S [115, 121, 109, 98, 111, 108, 32, 84, 32, 116, 101, 120, 116, 32, 52])), .c (.d (.v (.int .u8 32)))] [] (.c (cM 1 [[.s (S [115, 121, 109, 98, 111, 108])], [.s (S [84])], [.s (S [116, 101, 120, 116])], [.s (S [52])]])) [] :=
 bF (fun _ => none) (fun _ => none) (T := []) (ne := []) (df := []) (F := 100000) (d := 60) (cs := []) hmx (by kernel_rfl) trivial
theorem vL : V.Spec Tryz.prog (Gl g) 271 [.c (cS (S [52]))] [] (.tup [(false, [cI 4]), (false, [cB true]), (false, [cB true])]) [] :=
 bF (fun _ => none) (fun _ => none) (T := []) (ne := []) (df := []) (F := 100000) (d := 60) (cs := []) hmx (by kernel_rfl) trivial
theorem yR : V.Spec Tryz.prog (Gl g) 190 [.c (cS (S [115, 121, 109, 98, 111, 108, 32, 85, 32, 116, 101, 120, 116, 32, 50])), .c (.d (.v (.int .u8 32)))] [] (.c (cM 1 [[.s (S [115, 121, 109, 98, 111, 108])], [.s (S [85])], [.s (S [116, 101, 120, 116])], [.s (S [50])]])) [] :=
 bF (fun _ => none) (fun _ => none) (T := []) (ne := []) (df := []) (F := 100000) (d := 60) (cs := []) hmx (by kernel_rfl) trivial
theorem vK : V.Spec Tryz.prog (Gl g) 271 [.c (cS (S [50]))] [] (.tup [(false, [cI 2]), (false, [cB true]), (false, [cB true])]) [] :=
 bF (fun _ => none) (fun _ => none) (T := []) (ne := []) (df := []) (F := 100000) (d := 60) (cs := []) hmx (by kernel_rfl) trivial
theorem yQ : V.Spec Tryz.prog (Gl g) 190 [.c (cS (S [114, 117, 108, 101, 32, 84, 32, 99, 111, 108, 32, 39, 97, 39])), .c (.d (.v (.int .u8 32)))] [] (.c (cM 1 [[.s (S [114, 117, 108, 101])], [.s (S [84])], [.s (S [99, 111, 108])], [.s (S [39, 97, 39])]])) [] :=
 bF (fun _ => none) (fun _ => none) (T := []) (ne := []) (df := []) (F := 100000) (d := 60) (cs := []) hmx (by kernel_rfl) trivial
theorem sV : V.Spec Tryz.prog (Gl g) 274 [.c (cS (S [39, 97, 39]))] [] (.tup [(false, [cS (S [97])]), (false, [cS (S [])]), (false, [cB true])]) [] :=
 bF (fun _ => none) (fun _ => none) (T := []) (ne := []) (df := []) (F := 100000) (d := 60) (cs := []) hmx (by kernel_rfl) trivial
theorem yP : V.Spec Tryz.prog (Gl g) 190 [.c (cS (S [114, 117, 108, 101, 32, 84, 32, 99, 111, 108, 32, 39, 98, 39])), .c (.d (.v (.int .u8 32)))] [] (.c (cM 1 [[.s (S [114, 117, 108, 101])], [.s (S [84])], [.s (S [99, 111, 108])], [.s (S [39, 98, 39])]])) [] :=
 bF (fun _ => none) (fun _ => none) (T := []) (ne := []) (df := []) (F := 100000) (d := 60) (cs := []) hmx (by kernel_rfl) trivial
theorem sU : V.Spec Tryz.prog (Gl g) 274 [.c (cS (S [39, 98, 39]))] [] (.tup [(false, [cS (S [98])]), (false, [cS (S [])]), (false, [cB true])]) [] :=
 bF (fun _ => none) (fun _ => none) (T := []) (ne := []) (df := []) (F := 100000) (d := 60) (cs := []) hmx (by kernel_rfl) trivial
theorem yO : V.Spec Tryz.prog (Gl g) 190 [.c (cS (S [114, 117, 108, 101, 32, 84, 32, 99, 111, 110, 99, 97, 116, 32, 39, 39, 32, 85, 32, 84])), .c (.d (.v (.int .u8 32)))] [] (.c (cM 1 [[.s (S [114, 117, 108, 101])], [.s (S [84])], [.s (S [99, 111, 110, 99, 97, 116])], [.s (S [39, 39])], [.s (S [85])], [.s (S [84])]])) [] :=
 bF (fun _ => none) (fun _ => none) (T := []) (ne := []) (df := []) (F := 100000) (d := 60) (cs := []) hmx (by kernel_rfl) trivial
theorem sT : V.Spec Tryz.prog (Gl g) 274 [.c (cS (S [39, 39, 32, 85, 32, 84]))] [] (.tup [(false, [cS (S [])]), (false, [cS (S [32, 85, 32, 84])]), (false, [cB true])]) [] :=
 bF (fun _ => none) (fun _ => none) (T := []) (ne := []) (df := []) (F := 100000) (d := 60) (cs := []) hmx (by kernel_rfl) trivial
theorem yN : V.Spec Tryz.prog (Gl g) 190 [.c (cS (S [32, 85, 32, 84])), .c (.d (.v (.int .u8 32)))] [] (.c (cM 1 [[.s (S [])], [.s (S [85])], [.s (S [84])]])) [] :=
 bF (fun _ => none) (fun _ => none) (T := []) (ne := []) (df := []) (F := 100000) (d := 60) (cs := []) hmx (by kernel_rfl) trivial
theorem vJ : V.Spec Tryz.prog (Gl g) 190 [.c (cS (S [114, 117, 108, 101, 32, 84, 32, 117, 112, 112, 101, 114, 32, 39, 39, 32, 85])), .c (.d (.v (.int .u8 32)))] [] (.c (cM 1 [[.s (S [114, 117, 108, 101])], [.s (S [84])], [.s (S [117, 112, 112, 101, 114])], [.s (S [39, 39])], [.s (S [85])]])) [] :=
 bF (fun _ => none) (fun _ => none) (T := []) (ne := []) (df := []) (F := 100000) (d := 60) (cs := []) hmx (by kernel_rfl) trivial
theorem sS : V.Spec Tryz.prog (Gl g) 274 [.c (cS (S [39, 39, 32, 85]))] [] (.tup [(false, [cS (S [])]), (false, [cS (S [32, 85])]), (false, [cB true])]) [] :=
 bF (fun _ => none) (fun _ => none) (T := []) (ne := []) (df := []) (F := 100000) (d := 60) (cs := []) hmx (by kernel_rfl) trivial
theorem vI : V.Spec Tryz.prog (Gl g) 190 [.c (cS (S [32, 85])), .c (.d (.v (.int .u8 32)))] [] (.c (cM 1 [[.s (S [])], [.s (S [85])]])) [] :=
 bF (fun _ => none) (fun _ => none) (T := []) (ne := []) (df := []) (F := 100000) (d := 60) (cs := []) hmx (by kernel_rfl) trivial
theorem vH : V.Spec Tryz.prog (Gl g) 190 [.c (cS (S [114, 117, 108, 101, 32, 85, 32, 99, 111, 108, 32, 39, 97, 39])), .c (.d (.v (.int .u8 32)))] [] (.c (cM 1 [[.s (S [114, 117, 108, 101])], [.s (S [85])], [.s (S [99, 111, 108])], [.s (S [39, 97, 39])]])) [] :=
 bF (fun _ => none) (fun _ => none) (T := []) (ne := []) (df := []) (F := 100000) (d := 60) (cs := []) hmx (by kernel_rfl) trivial
theorem vG : V.Spec Tryz.prog (Gl g) 190 [.c (cS (S [114, 117, 108, 101, 32, 85, 32, 116, 101, 120, 116, 32, 39, 45, 39])), .c (.d (.v (.int .u8 32)))] [] (.c (cM 1 [[.s (S [114, 117, 108, 101])], [.s (S [85])], [.s (S [116, 101, 120, 116])], [.s (S [39, 45, 39])]])) [] :=
 bF (fun _ => none) (fun _ => none) (T := []) (ne := []) (df := []) (F := 100000) (d := 60) (cs := []) hmx (by kernel_rfl) trivial
theorem sR : V.Spec Tryz.prog (Gl g) 274 [.c (cS (S [39, 45, 39]))] [] (.tup [(false, [cS (S [45])]), (false, [cS (S [])]), (false, [cB true])]) [] :=
 bF (fun _ => none) (fun _ => none) (T := []) (ne := []) (df := []) (F := 100000) (d := 60) (cs := []) hmx (by kernel_rfl) trivial
theorem vF : V.Spec Tryz.prog (Gl g) 190 [.c (cS (S [114, 117, 108, 101, 32, 85, 32, 101, 120, 116, 114, 97, 99, 116, 32, 39, 92, 100, 43, 35, 49, 39, 32, 85])), .c (.d (.v (.int .u8 32)))] [] (.c (cM 1 [[.s (S [114, 117, 108, 101])], [.s (S [85])], [.s (S [101, 120, 116, 114, 97, 99, 116])], [.s (S [39, 92, 100, 43, 35, 49, 39])], [.s (S [85])]])) [] :=
 bF (fun _ => none) (fun _ => none) (T := []) (ne := []) (df := []) (F := 100000) (d := 60) (cs := []) hmx (by kernel_rfl) trivial
theorem sQ : V.Spec Tryz.prog (Gl g) 274 [.c (cS (S [39, 92, 100, 43, 35, 49, 39, 32, 85]))] [] (.tup [(false, [cS (S [92, 100, 43, 35, 49])]), (false, [cS (S [32, 85])]), (false, [cB true])]) [] :=
 bF (fun _ => none) (fun _ => none) (T := []) (ne := []) (df := []) (F := 100000) (d := 60) (cs := []) hmx (by kernel_rfl) trivial
theorem vE : V.Spec Tryz.prog (Gl g) 190 [.c (cS (S [115, 116, 97, 114, 116, 32, 84])), .c (.d (.v (.int .u8 32)))] [] (.c (cM 1 [[.s (S [115, 116, 97, 114, 116])], [.s (S [84])]])) [] :=
 bF (fun _ => none) (fun _ => none) (T := []) (ne := []) (df := []) (F := 100000) (d := 60) (cs := []) hmx (by kernel_rfl) trivial
theorem yW : V.Spec Tryz.prog (Gl g) 80 [.c (cS (S [103, 114, 97, 109, 109, 97, 114, 32, 116, 101, 120, 116, 115, 32, 49, 10, 99, 111, 108, 117, 109, 110, 32, 97, 32, 116, 101, 120, 116, 10, 99, 111, 108, 117, 109, 110, 32, 98, 32, 116, 101, 120, 116, 10, 115, 121, 109, 98, 111, 108, 32, 84, 32, 116, 101, 120, 116, 32, 52, 10, 115, 121, 109, 98, 111, 108, 32, 85, 32, 116, 101, 120, 116, 32, 50, 10, 114, 117, 108, 101, 32, 84, 32, 99, 111, 108, 32, 39, 97, 39, 10, 114, 117, 108, 101, 32, 84, 32, 99, 111, 108, 32, 39, 98, 39, 10, 114, 117, 108, 101, 32, 84, 32, 99, 111, 110, 99, 97, 116, 32, 39, 39, 32, 85, 32, 84, 10, 114, 117, 108, 101, 32, 84, 32, 117, 112, 112, 101, 114, 32, 39, 39, 32, 85, 10, 114, 117, 108, 101, 32, 85, 32, 99, 111, 108, 32, 39, 97, 39, 10, 114, 117, 108, 101, 32, 85, 32, 116, 101, 120, 116, 32, 39, 45, 39, 10, 114, 117, 108, 101, 32, 85, 32, 101, 120, 116, 114, 97, 99, 116, 32, 39, 92, 100, 43, 35, 49, 39, 32, 85, 10, 115, 116, 97, 114, 116, 32, 84, 10]))] [] (.tup [(true, g0C), (false, [cI 0]), (false, [cI 0])]) [] :=
 bF (fun _ => none) (fun k => bif Nat.ble 4740 k then (bif Nat.ble 5957 k then (mkL [5957, 6908] [(6247, 12), (7455, 12)] k) else (mkL [5188] [(4740, 12), (5454, 12)] k)) else (bif Nat.ble 2976 k then (mkL [3392, 4339] [(2976, 12), (3912, 12)] k) else (mkL [2184, 2723] [(2437, 12)] k))) (T := [aU 190 [⟨_, _, yV⟩, ⟨_, _, yU⟩, ⟨_, _, yT⟩, ⟨_, _, yS⟩, ⟨_, _, yR⟩, ⟨_, _, yQ⟩, ⟨_, _, yP⟩, ⟨_, _, yO⟩, ⟨_, _, yN⟩, ⟨_, _, vJ⟩, ⟨_, _, vI⟩, ⟨_, _, vH⟩, ⟨_, _, vG⟩, ⟨_, _, vF⟩, ⟨_, _, vE⟩], aU 271 [⟨_, _, vM⟩, ⟨_, _, vL⟩, ⟨_, _, vK⟩], aU 274 [⟨_, _, sV⟩, ⟨_, _, sU⟩, ⟨_, _, sT⟩, ⟨_, _, sS⟩, ⟨_, _, sR⟩, ⟨_, _, sQ⟩]]) (ne := []) (df := []) (F := 100000) (d := 60) (cs := []) hmx (by kernel_rfl) trivial
theorem madeX : V.Spec Tryz.prog (Gl g) 42 [.c (cM 1 [[.i 0]])] [] (.agg g0C) [] :=
 bF (fun _ => none) (fun k => bif Nat.ble 595 k then (bif Nat.ble 819 k then (bif Nat.ble 903 k then (mkL [903, 931, 959] [] k) else (mkL [819, 847, 875] [] k)) else (mkL [595, 623, 651, 679, 791] [] k)) else (bif Nat.ble 371 k then (mkL [371, 399, 511, 539, 567] [] k) else (mkL [231, 259, 287, 315, 343] [] k))) (T := [aU 80 [⟨_, _, yW⟩], aU 85 [⟨_, _, iD⟩], aU 84 [⟨_, _, checkX⟩]]) (ne := []) (df := []) (F := 100000) (d := 60) (cs := []) hmx (by kernel_rfl) trivial
end Go.Proofs.YtclaplngjmgnoaaGreatDoor
namespace Go.Proofs.YtclaplngjmgnoaaGreatDoor
open Go.RowKit Go.V
variable {g : Gv}
theorem modX0 (a m : Int) (h : conj [decide (a.tmod m < 0) = false, m ≠ 0]) : SX g 44 [.c (cI a), .c (cI m)] (.c (cI (a.tmod m))) :=
 sX (tlO [(103, true), (107, false)]) (fun _ => none) (fun _ => none) (T := []) (by kernel_rfl) h
theorem modX1 (a m : Int) (h : conj [Go.Eng.inR (a.tmod m + m), decide (a.tmod m < 0) = true, m ≠ 0]) : SX g 44 [.c (cI a), .c (cI m)] (.c (cI (a.tmod m + m))) :=
 sX (tlO [(103, true), (107, true), (109, true)]) (fun _ => none) (fun _ => none) (T := []) (by kernel_rfl) h
def mdV (a m : Int) : Int := if a.tmod m < 0 then a.tmod m + m else a.tmod m
theorem dB (a : Int) {m : Int} (h : 0 < m) : 0 ≤ mdV a m ∧ mdV a m < m := by
 unfold mdV
 have h1 := Int.tmod_lt_of_pos a h
 have h2 : -m < a.tmod m := by
  have := Int.lt_tmod_of_pos a h
  omega
 split <;> omega
theorem dF (a m : Int) (h : 0 < m) (hm : m ≤ 1000000) : V.Spec Tryz.prog (Gl g) 44 [.c (cI a), .c (cI m)] [] (.c (cI (mdV a m))) [] := by
 have hb := dB a h
 unfold mdV at hb ⊢
 split
 rename_i hc
 rw [if_pos hc] at hb
 exact modX1 a m ⟨by unfold Go.Eng.inR; omega, decide_eq_true hc, (show m ≠ 0 by omega)⟩
 rename_i hc
 exact modX0 a m ⟨decide_eq_false hc, (show m ≠ 0 by omega)⟩
theorem actX (what who n author v id au rank time kind ok : Int) (l : List Int) (row pr : List (List D)) (os prop param : ByteArray) (h : conj [SX g 44 [.c (cI n), .c (cI 4)] (.c (cI v)), Go.Eng.inR (1 + v), SX g 43 [.agg g0C, .c (cI (1 + v)), .c (cM 1 (intsD l))] (.agg [cI id, cI au, cI rank, cI time, cI kind, cM 7 row, cI ok, cS os, cI 0, cI 0, cI 0, cM 1 [], cM 1 [], cS prop, cS param, cM 1 pr]), SX g 42 [.c (cM 1 [[.i 0]])] (.agg g0C)]) : SX g 21 [.agg [cI what, cI who, cI n, cM 1 (intsD l)], .c (cI author)] (.agg [cI id, cI author, cI rank, cI time, cI kind, cM 7 row, cI ok, cS os, cI 0, cI 0, cI 0, cM 1 [], cM 1 [], cS prop, cS param, cM 1 pr]) :=
 sX (tlO [(110, true), (111, true), (112, true)]) (fun k => mkL [103] [] k) (fun _ => none) (T := [bD 42 (.agg g0C), bD 44 (.c (cI v)), bD 43 (.agg [cI id, cI au, cI rank, cI time, cI kind, cM 7 row, cI ok, cS os, cI 0, cI 0, cI 0, cM 1 [], cM 1 [], cS prop, cS param, cM 1 pr])]) (by kernel_rfl) h
end Go.Proofs.YtclaplngjmgnoaaGreatDoor
namespace Go.Proofs.YtclaplngjmgnoaaGreatDoor
open Go.RowKit Go.V
variable {g : Gv}
theorem gN : V.Spec Tryz.prog (Gl g) 206 [.agg g0C] [] (.c (cM 1 [[.i 4], [.i 2]])) [] :=
 bF (fun _ => none) (fun _ => none) (T := []) (ne := []) (df := []) (F := 100000) (d := 60) (cs := []) hmx (by kernel_rfl) trivial
theorem yM : V.Spec Tryz.prog (Gl g) 136 [.agg g0C, .c (cI 1)] [] (.c (cM 1 [[.sl 1 [[nlD], [.sl 1 [[.sl 1 [[.i 0]]], [.sl 1 [[.i 1]]]]]]], [.sl 1 [[nlD], [.sl 1 [[.sl 1 [[.i 4]]], [.sl 1 [[.i 5]]]]]]]])) [] :=
 wD (fun _ => none) (fun _ => none) (T := [aU 206 [⟨_, _, gN⟩]]) (ne := []) (df := []) (F := 100000) (d := 60) (cs := []) hmx (by kernel_rfl) trivial
theorem vD : V.Spec Tryz.prog (Gl g) 137 [.c (cM 1 [[.sl 1 [[.i 0]]], [.sl 1 [[.i 1]]]])] [] (.c (cM 1 [[.sl 1 [[.i 0]]], [.sl 1 [[.i 1]]]])) [] :=
 bF (fun _ => none) (fun _ => none) (T := []) (ne := []) (df := []) (F := 100000) (d := 60) (cs := []) hmx (by kernel_rfl) trivial
theorem yL : V.Spec Tryz.prog (Gl g) 136 [.agg g0C, .c (cI 2)] [] (.c (cM 1 [[.sl 1 [[nlD], [.sl 1 [[.sl 1 [[.i 0]]], [.sl 1 [[.i 1]]]]], [.sl 1 [[.sl 1 [[.i 3], [.i 4]]], [.sl 1 [[.i 3], [.i 5]]]]]]], [.sl 1 [[nlD], [.sl 1 [[.sl 1 [[.i 4]]], [.sl 1 [[.i 5]]]]], [.sl 1 [[.sl 1 [[.i 6], [.i 4]]], [.sl 1 [[.i 6], [.i 5]]]]]]]])) [] :=
 wD (fun _ => none) (fun k => mkL [1086, 1143, 1466, 1523] [] k) (T := [aU 206 [⟨_, _, gN⟩]]) (ne := []) (df := []) (F := 100000) (d := 60) (cs := []) hmx (by kernel_rfl) trivial
theorem vC : V.Spec Tryz.prog (Gl g) 137 [.c (cM 1 [[.sl 1 [[.i 3], [.i 4]]], [.sl 1 [[.i 3], [.i 5]]]])] [] (.c (cM 1 [[.sl 1 [[.i 3], [.i 4]]], [.sl 1 [[.i 3], [.i 5]]]])) [] :=
 bF (fun _ => none) (fun _ => none) (T := []) (ne := []) (df := []) (F := 100000) (d := 60) (cs := []) hmx (by kernel_rfl) trivial
theorem yK : V.Spec Tryz.prog (Gl g) 136 [.agg g0C, .c (cI 3)] [] (.c (cM 1 [[.sl 1 [[nlD], [.sl 1 [[.sl 1 [[.i 0]]], [.sl 1 [[.i 1]]]]], [.sl 1 [[.sl 1 [[.i 3], [.i 4]]], [.sl 1 [[.i 3], [.i 5]]]]], [.sl 1 [[.sl 1 [[.i 2], [.i 4], [.i 0]]], [.sl 1 [[.i 2], [.i 4], [.i 1]]], [.sl 1 [[.i 2], [.i 5], [.i 0]]], [.sl 1 [[.i 2], [.i 5], [.i 1]]], [.sl 1 [[.i 3], [.i 6], [.i 4]]], [.sl 1 [[.i 3], [.i 6], [.i 5]]]]]]], [.sl 1 [[nlD], [.sl 1 [[.sl 1 [[.i 4]]], [.sl 1 [[.i 5]]]]], [.sl 1 [[.sl 1 [[.i 6], [.i 4]]], [.sl 1 [[.i 6], [.i 5]]]]]]]])) [] :=
 wD (fun _ => none) (fun k => bif Nat.ble 2077 k then (bif Nat.ble 2418 k then (mkL [2418, 2473, 2568, 2625] [] k) else (mkL [2077, 2148, 2205] [] k)) else (bif Nat.ble 1523 k then (mkL [1523, 1858, 1929, 1986] [] k) else (mkL [1086, 1143, 1466] [] k))) (T := [aU 206 [⟨_, _, gN⟩]]) (ne := []) (df := []) (F := 100000) (d := 60) (cs := []) hmx (by kernel_rfl) trivial
theorem vB : V.Spec Tryz.prog (Gl g) 137 [.c (cM 1 [[.sl 1 [[.i 2], [.i 4], [.i 0]]], [.sl 1 [[.i 2], [.i 4], [.i 1]]], [.sl 1 [[.i 2], [.i 5], [.i 0]]], [.sl 1 [[.i 2], [.i 5], [.i 1]]], [.sl 1 [[.i 3], [.i 6], [.i 4]]], [.sl 1 [[.i 3], [.i 6], [.i 5]]]])] [] (.c (cM 1 [[.sl 1 [[.i 2], [.i 4], [.i 0]]], [.sl 1 [[.i 2], [.i 4], [.i 1]]], [.sl 1 [[.i 2], [.i 5], [.i 0]]], [.sl 1 [[.i 2], [.i 5], [.i 1]]], [.sl 1 [[.i 3], [.i 6], [.i 4]]], [.sl 1 [[.i 3], [.i 6], [.i 5]]]])) [] :=
 bF (fun _ => none) (fun _ => none) (T := []) (ne := []) (df := []) (F := 100000) (d := 60) (cs := []) hmx (by kernel_rfl) trivial
theorem yJ : V.Spec Tryz.prog (Gl g) 136 [.agg g0C, .c (cI 4)] [] (.c (cM 1 [[.sl 1 [[nlD], [.sl 1 [[.sl 1 [[.i 0]]], [.sl 1 [[.i 1]]]]], [.sl 1 [[.sl 1 [[.i 3], [.i 4]]], [.sl 1 [[.i 3], [.i 5]]]]], [.sl 1 [[.sl 1 [[.i 2], [.i 4], [.i 0]]], [.sl 1 [[.i 2], [.i 4], [.i 1]]], [.sl 1 [[.i 2], [.i 5], [.i 0]]], [.sl 1 [[.i 2], [.i 5], [.i 1]]], [.sl 1 [[.i 3], [.i 6], [.i 4]]], [.sl 1 [[.i 3], [.i 6], [.i 5]]]]], [.sl 1 [[.sl 1 [[.i 2], [.i 4], [.i 3], [.i 4]]], [.sl 1 [[.i 2], [.i 4], [.i 3], [.i 5]]], [.sl 1 [[.i 2], [.i 5], [.i 3], [.i 4]]], [.sl 1 [[.i 2], [.i 5], [.i 3], [.i 5]]], [.sl 1 [[.i 2], [.i 6], [.i 4], [.i 0]]], [.sl 1 [[.i 2], [.i 6], [.i 4], [.i 1]]], [.sl 1 [[.i 2], [.i 6], [.i 5], [.i 0]]], [.sl 1 [[.i 2], [.i 6], [.i 5], [.i 1]]]]]]], [.sl 1 [[nlD], [.sl 1 [[.sl 1 [[.i 4]]], [.sl 1 [[.i 5]]]]], [.sl 1 [[.sl 1 [[.i 6], [.i 4]]], [.sl 1 [[.i 6], [.i 5]]]]]]]])) [] :=
 wD (fun _ => none) (fun k => bif Nat.ble 3262 k then (bif Nat.ble 3890 k then (bif Nat.ble 4166 k then (mkL [4166, 4379, 4434, 4529, 4584] [] k) else (mkL [3890, 3947, 4038, 4109] [] k)) else (bif Nat.ble 3536 k then (mkL [3536, 3631, 3688, 3819] [] k) else (mkL [3262, 3319, 3410, 3481] [] k))) else (bif Nat.ble 2148 k then (bif Nat.ble 2568 k then (mkL [2568, 2625, 3041, 3112, 3167] [] k) else (mkL [2148, 2205, 2418, 2473] [] k)) else (bif Nat.ble 1858 k then (mkL [1858, 1929, 1986, 2077] [] k) else (mkL [1086, 1143, 1466, 1523] [] k)))) (T := [aU 206 [⟨_, _, gN⟩]]) (ne := []) (df := []) (F := 100000) (d := 60) (cs := []) hmx (by kernel_rfl) trivial
theorem vA : V.Spec Tryz.prog (Gl g) 137 [.c (cM 1 [[.sl 1 [[.i 2], [.i 4], [.i 3], [.i 4]]], [.sl 1 [[.i 2], [.i 4], [.i 3], [.i 5]]], [.sl 1 [[.i 2], [.i 5], [.i 3], [.i 4]]], [.sl 1 [[.i 2], [.i 5], [.i 3], [.i 5]]], [.sl 1 [[.i 2], [.i 6], [.i 4], [.i 0]]], [.sl 1 [[.i 2], [.i 6], [.i 4], [.i 1]]], [.sl 1 [[.i 2], [.i 6], [.i 5], [.i 0]]], [.sl 1 [[.i 2], [.i 6], [.i 5], [.i 1]]]])] [] (.c (cM 1 [[.sl 1 [[.i 2], [.i 4], [.i 3], [.i 4]]], [.sl 1 [[.i 2], [.i 4], [.i 3], [.i 5]]], [.sl 1 [[.i 2], [.i 5], [.i 3], [.i 4]]], [.sl 1 [[.i 2], [.i 5], [.i 3], [.i 5]]], [.sl 1 [[.i 2], [.i 6], [.i 4], [.i 0]]], [.sl 1 [[.i 2], [.i 6], [.i 4], [.i 1]]], [.sl 1 [[.i 2], [.i 6], [.i 5], [.i 0]]], [.sl 1 [[.i 2], [.i 6], [.i 5], [.i 1]]]])) [] :=
 bF (fun _ => none) (fun _ => none) (T := []) (ne := []) (df := []) (F := 100000) (d := 60) (cs := []) hmx (by kernel_rfl) trivial
def progs : List (List Int) := [[0], [1], [3, 4], [3, 5], [2, 4, 0], [2, 4, 1], [2, 5, 0], [2, 5, 1], [3, 6, 4], [3, 6, 5], [2, 4, 3, 4], [2, 4, 3, 5], [2, 5, 3, 4], [2, 5, 3, 5], [2, 6, 4, 0], [2, 6, 4, 1], [2, 6, 5, 0], [2, 6, 5, 1]]
def pkL : Nat → Option Value := (fun k => mkL [136, 169, 202, 235] [(250, 6)] k)
def pkH (p : List Int) (k : Nat) : Option (List D) := bif Nat.beq k 257 then some [.sl 1 (intsD p)] else none
def pkO (k : Nat) : Option Bool := bif Nat.beq k 257 then some true else none
def pkT (v : Int) : List (Ent Tryz.prog (Gl g)) := [aU 136 [⟨_, _, yM⟩, ⟨_, _, yL⟩, ⟨_, _, yK⟩, ⟨_, _, yJ⟩], aU 137 [⟨_, _, vD⟩, ⟨_, _, vC⟩, ⟨_, _, vB⟩, ⟨_, _, vA⟩], bD 44 (.c (cI v))]
end Go.Proofs.YtclaplngjmgnoaaGreatDoor
namespace Go.Proofs.YtclaplngjmgnoaaGreatDoor
open Go.RowKit Go.V
variable {g : Gv}
theorem aKY (n v : Int) (a : Int) (h1 : V.Spec Tryz.prog (Gl g) 44 [.c (cI n), .c (cI 18)] [] (.c (cI v)) []) (h2 : 0 ≤ v ∧ (progs.map fun p => [D.sl 1 (intsD p)])[v.toNat]? = some [.sl 1 (intsD [a])]) : V.Spec Tryz.prog (Gl g) 86 [.agg g0C, .c (cI n)] [] (.c (cM 1 (intsD [a]))) [] :=
 nB pkO pkL (pkH [a]) (T := pkT v) (ne := []) (df := []) (F := 100000) (d := 60) (cs := [V.Spec Tryz.prog (Gl g) 44 [.c (cI n), .c (cI 18)] [] (.c (cI v)) [], 0 ≤ v ∧ (progs.map fun p => [D.sl 1 (intsD p)])[v.toNat]? = some [.sl 1 (intsD [a])]]) hmx (by kernel_rfl) ⟨h1, h2⟩
theorem aKX (n v : Int) (a b : Int) (h1 : V.Spec Tryz.prog (Gl g) 44 [.c (cI n), .c (cI 18)] [] (.c (cI v)) []) (h2 : 0 ≤ v ∧ (progs.map fun p => [D.sl 1 (intsD p)])[v.toNat]? = some [.sl 1 (intsD [a, b])]) : V.Spec Tryz.prog (Gl g) 86 [.agg g0C, .c (cI n)] [] (.c (cM 1 (intsD [a, b]))) [] :=
 nB pkO pkL (pkH [a, b]) (T := pkT v) (ne := []) (df := []) (F := 100000) (d := 60) (cs := [V.Spec Tryz.prog (Gl g) 44 [.c (cI n), .c (cI 18)] [] (.c (cI v)) [], 0 ≤ v ∧ (progs.map fun p => [D.sl 1 (intsD p)])[v.toNat]? = some [.sl 1 (intsD [a, b])]]) hmx (by kernel_rfl) ⟨h1, h2⟩
theorem nI (n v : Int) (a b c : Int) (h1 : V.Spec Tryz.prog (Gl g) 44 [.c (cI n), .c (cI 18)] [] (.c (cI v)) []) (h2 : 0 ≤ v ∧ (progs.map fun p => [D.sl 1 (intsD p)])[v.toNat]? = some [.sl 1 (intsD [a, b, c])]) : V.Spec Tryz.prog (Gl g) 86 [.agg g0C, .c (cI n)] [] (.c (cM 1 (intsD [a, b, c]))) [] :=
 nB pkO pkL (pkH [a, b, c]) (T := pkT v) (ne := []) (df := []) (F := 100000) (d := 60) (cs := [V.Spec Tryz.prog (Gl g) 44 [.c (cI n), .c (cI 18)] [] (.c (cI v)) [], 0 ≤ v ∧ (progs.map fun p => [D.sl 1 (intsD p)])[v.toNat]? = some [.sl 1 (intsD [a, b, c])]]) hmx (by kernel_rfl) ⟨h1, h2⟩
theorem iZ (n v : Int) (a b c d : Int) (h1 : V.Spec Tryz.prog (Gl g) 44 [.c (cI n), .c (cI 18)] [] (.c (cI v)) []) (h2 : 0 ≤ v ∧ (progs.map fun p => [D.sl 1 (intsD p)])[v.toNat]? = some [.sl 1 (intsD [a, b, c, d])]) : V.Spec Tryz.prog (Gl g) 86 [.agg g0C, .c (cI n)] [] (.c (cM 1 (intsD [a, b, c, d]))) [] :=
 nB pkO pkL (pkH [a, b, c, d]) (T := pkT v) (ne := []) (df := []) (F := 100000) (d := 60) (cs := [V.Spec Tryz.prog (Gl g) 44 [.c (cI n), .c (cI 18)] [] (.c (cI v)) [], 0 ≤ v ∧ (progs.map fun p => [D.sl 1 (intsD p)])[v.toNat]? = some [.sl 1 (intsD [a, b, c, d])]]) hmx (by kernel_rfl) ⟨h1, h2⟩
end Go.Proofs.YtclaplngjmgnoaaGreatDoor
namespace Go.Proofs.YtclaplngjmgnoaaGreatDoor
open Go.RowKit Go.V
variable {g : Gv}
def TXS : List (List UInt8) := [[65], [66], [97], [97, 49], [49, 50, 45, 120], [], [72, 73, 71, 72], [88, 49], [45], [49], [49, 50]]
def Cok (v : Tv) : Prop := v = none ∨ ∃ t, t ∈ rowTx ∧ v = some t
theorem qE : ∀ t, t ∈ rowTx → bY (some t) := by
 intro t ht
 simp only [rowTx, List.mem_cons, List.not_mem_nil, or_false] at ht
 rcases ht with rfl | rfl | rfl | rfl | rfl | rfl | rfl | rfl <;> (unfold bY; kernel_rfl)
theorem aEE : ∀ t, t ∈ TXS → bY (some t) ∧ t.length ≤ 4 := by
 intro t ht
 simp only [TXS, List.mem_cons, List.not_mem_nil, or_false] at ht
 rcases ht with rfl | rfl | rfl | rfl | rfl | rfl | rfl | rfl | rfl | rfl | rfl <;> exact ⟨by unfold bY; kernel_rfl, by decide⟩
theorem fC : bY none := by unfold bY; kernel_rfl
theorem Cok.ok {v : Tv} (h : Cok v) : bY v := by
 rcases h with rfl | ⟨t, ht, rfl⟩
 exact fC
 exact qE t ht
theorem iX (s : List UInt8) (h : bY (some s)) : RgT g (S s) := by
 have hl : s.length ≤ 200 := gW h
 have hp := aHJ (g := g) (S s) (by rw [aM]; unfold maxLen; omega)
 have e : c6 (S s) = true := h
 rw [e] at hp
 exact rightX2 (S s) ⟨eqX (S s) (show Value.bool ((S s).toList == (S s).toList) = .bool true by simp), hp⟩
theorem nS (l : List (List UInt8)) (v : Int) (h0 : 0 ≤ v) (h1 : v < l.length) : ∃ t, t ∈ l ∧ (l.map fun t => [D.s (S t)])[v.toNat]? = some [.s (S t)] :=
 ⟨l[v.toNat]'(by omega), List.getElem_mem _, by rw [List.getElem?_map, List.getElem?_eq_getElem (by omega)]; rfl⟩
theorem cV (l : List Int) (k n : Int) (h : NumOk l k) (hn : n ≤ 1000000000000000001) : Nx g l k n (nxV l k n) (nxK l k n) := g5 l k n h hn
theorem aKF (l : List Int) (h : NumOk l 0) : ∃ a b : Tv, Cok a ∧ Cok b ∧ V.Spec Tryz.prog (Gl g) 88 [.agg g0C, .c (cM 1 (intsD l))] [] (.c (cM 7 [TvD a, TvD b])) [] := by
 have b1 := dJ l 0 (n := 8) (by decide)
 have n1 := h.next 8
 have n2 := n1.next 12
 have b2 := dJ l (nxK l (nxK l 0 8) 12) (n := 8) (by decide)
 have n3 := n2.next 8
 obtain ⟨t1, m1, e1⟩ := nS rowTx _ b1.1 b1.2
 obtain ⟨t2, m2, e2⟩ := nS rowTx _ b2.1 b2.2
 have x1 := cV (g := g) l 0 8 h (by decide)
 have x2 := cV (g := g) l _ 12 n1 (by decide)
 have x3 := cV (g := g) l _ 8 n2 (by decide)
 have x4 := cV (g := g) l _ 12 n3 (by decide)
 by_cases c1 : nxV l (nxK l 0 8) 12 = 11 <;> by_cases c2 : nxV l (nxK l (nxK l (nxK l 0 8) 12) 8) 12 = 11
 ·exact ⟨none, none, .inl rfl, .inl rfl, le_c (rowX11 l _ _ _ _ _ _ _ _ t1 t2 ⟨(decide_eq_true c2), x4, x3, ⟨b2.1, e2⟩, (decide_eq_true c1), x2, x1, ⟨b1.1, e1⟩⟩) (.two (uA 0) (uA 0))⟩
 ·exact ⟨none, some t2, .inl rfl, .inr ⟨t2, m2, rfl⟩, le_c (rowX10 l _ _ _ _ _ _ _ _ t1 t2 ⟨(decide_eq_false c2), x4, x3, ⟨b2.1, e2⟩, (decide_eq_true c1), x2, x1, ⟨b1.1, e1⟩⟩) (.two (uA 0) (t8 _))⟩
 ·exact ⟨some t1, none, .inr ⟨t1, m1, rfl⟩, .inl rfl, le_c (rowX01 l _ _ _ _ _ _ _ _ t1 t2 ⟨(decide_eq_true c2), x4, x3, ⟨b2.1, e2⟩, (decide_eq_false c1), x2, x1, ⟨b1.1, e1⟩⟩) (.two (t8 _) (uA 0))⟩
 ·exact ⟨some t1, some t2, .inr ⟨t1, m1, rfl⟩, .inr ⟨t2, m2, rfl⟩, le_c (rowX00 l _ _ _ _ _ _ _ _ t1 t2 ⟨(decide_eq_false c2), x4, x3, ⟨b2.1, e2⟩, (decide_eq_false c1), x2, x1, ⟨b1.1, e1⟩⟩) (.two (t8 _) (t8 _))⟩
theorem pV (a b : Tv) (ha : bY a) (hb : bY b) : V.Spec Tryz.prog (Gl g) 342 [kK, .c (cM 7 [TvD a, TvD b])] [] (.c (cB true)) [] := by
 cases a with
 | none => cases b with
  | none => exact fitsXNN (S []) (S []) ⟨wL, wL⟩
  | some t => exact fitsXNT (S []) (S t) ⟨iX t hb, wL⟩
 | some s => cases b with
  | none => exact fitsXTN (S s) (S []) ⟨wL, iX s ha⟩
  | some t => exact fitsXTT (S s) (S t) ⟨iX t hb, iX s ha⟩
inductive Res where
 | ok (s : List UInt8)
 | bad (e : Int)
def outR : Res → SV
 | .ok s => oL (S s)
 | .bad e => oE e
def EvS (g : Gv) (p : List Int) (row : D) (r : Res) : Prop := V.Spec Tryz.prog (Gl g) 211 [.agg g0C, mR, .c (cM 1 (intsD p)), .c (.d row)] [] (outR r) []
def aN4 (r : Res) : Prop := (∃ s, s ∈ TXS ∧ r = .ok s) ∨ r = .bad 16
def ResS (r : Res) : Prop := (∃ s, bY (some s) ∧ s.length ≤ 4 ∧ r = .ok s) ∨ r = .bad 16
def ResT (r : Res) : Prop := (∃ s, bY (some s) ∧ r = .ok s) ∨ r = .bad 16 ∨ r = .bad 18
theorem ResS.t {r : Res} (h : ResS r) : ResT r := by
 rcases h with ⟨s, h1, _, rfl⟩ | rfl
 exact .inl ⟨s, h1, rfl⟩
 exact .inr (.inl rfl)
theorem jI : V.Spec Tryz.prog (Gl g) 141 [.c (cI 16)] [] (oF 16) [] := d7 (l := [.i 0, .s (S []), .i 0, .i 0, .i 16, nlD, nlD]) failX16 (uA 16)
theorem xO : V.Spec Tryz.prog (Gl g) 141 [.c (cI 18)] [] (oF 18) [] := d7 (l := [.i 0, .s (S []), .i 0, .i 0, .i 18, nlD, nlD]) failX18 (uA 18)
theorem rF {f : FuncId} {ins : List SV} {s : ByteArray} (h : V.Spec Tryz.prog (Gl g) f ins [] (oN s) []) : V.Spec Tryz.prog (Gl g) f ins [] (oL s) [] := aLU (l := [.i 1, .s s, .i 0, .i 0, .i 0, nlD, nlD]) h (t8 s) rfl
theorem w8 {f : FuncId} {ins : List SV} {s : ByteArray} (h : V.Spec Tryz.prog (Gl g) f ins [] (oC s) []) : V.Spec Tryz.prog (Gl g) f ins [] (oL s) [] := aLU (l := [.i 1, .s s, .i 0, .i 0, .i 0, .sl 1 [], nlD]) h (le_tx' s) rfl
theorem nE : ∀ t, t ∈ rowTx → t ∈ TXS := by
 intro t ht
 simp only [rowTx, List.mem_cons, List.not_mem_nil, or_false] at ht
 rcases ht with rfl | rfl | rfl | rfl | rfl | rfl | rfl | rfl <;> decide
theorem aMN (a b : Tv) (ha : Cok a) (hb : Cok b) : ∃ r, ResS r ∧ EvS g [0] (.sl 7 [TvD a, TvD b]) r := by
 have hf := pV (g := g) a b ha.ok hb.ok
 rcases ha with rfl | ⟨s, hs, rfl⟩
 exact ⟨.bad 16, .inr rfl, ev0E [] _ 16 ⟨aM1 (TvD b) hf, aJ7⟩⟩
 exact ⟨.ok s, .inl ⟨s, qE s hs, (aEE s (nE s hs)).2, rfl⟩, ev0T [] _ (S s) ⟨w8 (aM0 (S s) (TvD b) hf), aJ7⟩⟩
theorem aMM (a b : Tv) (ha : Cok a) (hb : Cok b) : ∃ r, ResS r ∧ EvS g [1] (.sl 7 [TvD a, TvD b]) r := by
 have hf := pV (g := g) a b ha.ok hb.ok
 rcases hb with rfl | ⟨s, hs, rfl⟩
 exact ⟨.bad 16, .inr rfl, ev1E [] _ 16 ⟨colBE (TvD a) hf, aJ6⟩⟩
 exact ⟨.ok s, .inl ⟨s, qE s hs, (aEE s (nE s hs)).2, rfl⟩, ev1T [] _ (S s) ⟨w8 (colBX (S s) (TvD a) hf), aJ6⟩⟩
theorem ev4_ok (a b : Tv) (ha : Cok a) (hb : Cok b) : ∃ r, aN4 r ∧ EvS g [4] (.sl 7 [TvD a, TvD b]) r := by
 have hf := pV (g := g) a b ha.ok hb.ok
 rcases ha with rfl | ⟨s, hs, rfl⟩
 exact ⟨.bad 16, .inr rfl, ev4E [] _ 16 ⟨aM1 (TvD b) hf, wC⟩⟩
 exact ⟨.ok s, .inl ⟨s, nE s hs, rfl⟩, ev4T [] _ (S s) ⟨w8 (aM0 (S s) (TvD b) hf), wC⟩⟩
theorem ev5_ok (row : D) : ∃ r, aN4 r ∧ EvS g [5] row r := ⟨.ok [45], .inl ⟨[45], by decide, rfl⟩, ev5T [] row (S [45]) ⟨rF (aNQ (.c (.d row))), aJ0⟩⟩
theorem aJD (s : List UInt8) (hs : s ∈ TXS) : ∃ u, bY (some u) ∧ u.length ≤ 4 ∧ ∀ row : SV, V.Spec Tryz.prog (Gl g) 287 (apI [117, 112, 112, 101, 114] [] (.c (cM 7 [tL (S s)])) (row)) [] (oN (S u)) [] := by
 simp only [TXS, List.mem_cons, List.not_mem_nil, or_false] at hs
 rcases hs with rfl | rfl | rfl | rfl | rfl | rfl | rfl | rfl | rfl | rfl | rfl
 exact ⟨[65], by unfold bY; kernel_rfl, by decide, fun row => apUp0 row⟩
 exact ⟨[66], by unfold bY; kernel_rfl, by decide, fun row => apUp1 row⟩
 exact ⟨[65], by unfold bY; kernel_rfl, by decide, fun row => apUp2 row⟩
 exact ⟨[65, 49], by unfold bY; kernel_rfl, by decide, fun row => apUp3 row⟩
 exact ⟨[49, 50, 45, 88], by unfold bY; kernel_rfl, by decide, fun row => apUp4 row⟩
 exact ⟨[], by unfold bY; kernel_rfl, by decide, fun row => apUp5 row⟩
 exact ⟨[72, 73, 71, 72], by unfold bY; kernel_rfl, by decide, fun row => apUp6 row⟩
 exact ⟨[88, 49], by unfold bY; kernel_rfl, by decide, fun row => apUp7 row⟩
 exact ⟨[45], by unfold bY; kernel_rfl, by decide, fun row => apUp8 row⟩
 exact ⟨[49], by unfold bY; kernel_rfl, by decide, fun row => apUp9 row⟩
 exact ⟨[49, 50], by unfold bY; kernel_rfl, by decide, fun row => apUp10 row⟩
def extR (s : List UInt8) : Res := if s = [97, 49] then .ok [49] else if s = [49, 50, 45, 120] then .ok [49, 50] else if s = [88, 49] then .ok [49] else .bad 18
def outA : Res → SV
 | .ok s => oN (S s)
 | .bad e => oE e
theorem rU (s : List UInt8) (hs : s ∈ rowTx ∨ s = [45]) : ∀ row : SV, V.Spec Tryz.prog (Gl g) 287 (apI [101, 120, 116, 114, 97, 99, 116] [92, 100, 43, 35, 49] (.c (cM 7 [tL (S s)])) (row)) [] (outA (extR s)) [] := by
 simp only [rowTx, List.mem_cons, List.not_mem_nil, or_false] at hs
 rcases hs with (rfl | rfl | rfl | rfl | rfl | rfl | rfl | rfl) | rfl
 exact fun row => apEx0 row
 exact fun row => apEx1 row
 exact fun row => apEx2 row
 exact fun row => apEx3 row
 exact fun row => apEx4 row
 exact fun row => apEx5 row
 exact fun row => apEx6 row
 exact fun row => apEx7 row
 exact fun row => apEx8 row
theorem rX {x : List Int} {row : D} {r : Res} (hr : aN4 r) (hx : EvS g x row r) (hs : V.Spec Tryz.prog (Gl g) 286 [.agg g0C, .c (cM 1 (intsD (3 :: x)))] [] (y19 [[.sl 1 (intsD x)]]) []) : ∃ r, ResS r ∧ EvS g (3 :: x) row r := by
 rcases hr with ⟨s, hm, rfl⟩ | rfl
 obtain ⟨u, h1, h2, h3⟩ := aJD (g := g) s hm
 exact ⟨.ok u, .inl ⟨u, h1, h2, rfl⟩, rF (ev3_TT (intsD x) row (.sl 1 (intsD x)) (S s) (S u) ⟨h3 _, hx, hs⟩)⟩
 exact ⟨.bad 16, .inr rfl, ev3_16E (intsD x) row (.sl 1 (intsD x)) 16 ⟨apUpE16 _, jI, hx, hs⟩⟩
theorem aMK {x : List Int} {row : D} (hx : EvS g x row (.bad 18)) (hs : V.Spec Tryz.prog (Gl g) 286 [.agg g0C, .c (cM 1 (intsD (3 :: x)))] [] (y19 [[.sl 1 (intsD x)]]) []) : EvS g (3 :: x) row (.bad 18) := ev3_18E (intsD x) row (.sl 1 (intsD x)) 18 ⟨apUpE18 _, xO, hx, hs⟩
theorem ev64_ok (a b : Tv) (ha : Cok a) (hb : Cok b) : ∃ r, (aN4 r ∨ r = .bad 18) ∧ EvS g [6, 4] (.sl 7 [TvD a, TvD b]) r := by
 have hf := pV (g := g) a b ha.ok hb.ok
 rcases ha with rfl | ⟨s, hs, rfl⟩
 have h4 : EvS g [4] (.sl 7 [TvD none, TvD b]) (.bad 16) := ev4E [] _ 16 ⟨aM1 (TvD b) hf, wC⟩
 exact ⟨.bad 16, .inl (.inr rfl), ev6_16E (intsD [4]) _ (.sl 1 (intsD [4])) 16 ⟨apExE16 _, jI, h4, wB⟩⟩
 have h4 : EvS g [4] (.sl 7 [TvD (some s), TvD b]) (.ok s) := ev4T [] _ (S s) ⟨w8 (aM0 (S s) (TvD b) hf), wC⟩
 have hx := rU (g := g) s (.inl hs) (.c (cM 7 [TvD (some s), TvD b]))
 have hc : (∃ u, u ∈ TXS ∧ extR s = .ok u) ∨ extR s = .bad 18 := by
  unfold extR
  split
  exact .inl ⟨_, by decide, rfl⟩
  split
  exact .inl ⟨_, by decide, rfl⟩
  split
  exact .inl ⟨_, by decide, rfl⟩
  exact .inr rfl
 rcases hc with ⟨u, hu, he⟩ | he
 rw [he] at hx
 exact ⟨.ok u, .inl (.inl ⟨u, hu, rfl⟩), rF (ev6_TT (intsD [4]) _ (.sl 1 (intsD [4])) (S s) (S u) ⟨hx, h4, wB⟩)⟩
 rw [he] at hx
 exact ⟨.bad 18, .inr rfl, aMJ (intsD [4]) _ (.sl 1 (intsD [4])) (S s) 18 ⟨hx, h4, wB⟩⟩
theorem xQ (row : D) : EvS g [6, 5] row (.bad 18) := by
 have h5 : EvS g [5] row (.ok [45]) := ev5T [] row (S [45]) ⟨rF (aNQ (.c (.d row))), aJ0⟩
 exact aMJ (intsD [5]) _ (.sl 1 (intsD [5])) (S [45]) 18 ⟨rU [45] (.inr rfl) _, h5, split65⟩
theorem txt_app {s t : List UInt8} (hs : bY (some s)) (ht : bY (some t)) (h1 : s.length ≤ 4) (h2 : t.length ≤ 4) : bY (some (s ++ t)) := by
 unfold bY c6 at *
 simp only [tvS, Bool.and_eq_true, decide_eq_true_eq, aM] at *
 refine ⟨?_, by simp; omega⟩
 have e : ∀ l : List UInt8, bs (S l) = l := fun l => by simp [bs, S]
 rw [e] at *
 rw [List.all_append, hs.1, ht.1]; rfl
theorem fN {x y : List Int} {row : D} {r1 r2 : Res} (hr1 : aN4 r1 ∨ r1 = .bad 18) (hx : EvS g x row r1) (hr2 : ResS r2) (hy : EvS g y row r2) (hs : V.Spec Tryz.prog (Gl g) 286 [.agg g0C, .c (cM 1 (intsD (2 :: (x ++ y))))] [] (y19 [[.sl 1 (intsD x)], [.sl 1 (intsD y)]]) []) : ∃ r, ResT r ∧ EvS g (2 :: (x ++ y)) row r := by
 rcases hr1 with (⟨s, hm, rfl⟩ | rfl) | rfl
 obtain ⟨hsk, hsl⟩ := aEE s hm
 rcases hr2 with ⟨t, ht, htl, rfl⟩ | rfl
 refine ⟨.ok (s ++ t), .inl ⟨_, txt_app hsk ht hsl htl, rfl⟩, ?_⟩
 have := coX (g := g) (.c (.d row)) (S s) (S t) ⟨by rw [aM, aM]; unfold Go.maxLen; omega, decide_eq_false (by rw [aM, aM]; omega), by rw [aM, aM]; unfold Go.Eng.inR; omega, iX t ht, iX s hsk⟩
 have h := rF (aML (intsD (x ++ y)) row (.sl 1 (intsD x)) (.sl 1 (intsD y)) (S s) (S t) (S s ++ S t) ⟨this, hy, hx, hs⟩)
 rw [eO] at h
 exact h
 exact ⟨.bad 16, .inr (.inl rfl), aIO (intsD (x ++ y)) row (.sl 1 (intsD x)) (.sl 1 (intsD y)) (S s) 16 ⟨coF16 _ (S s) (iX s hsk), jI, hy, hx, hs⟩⟩
 rcases hr2 with ⟨t, ht, htl, rfl⟩ | rfl
 exact ⟨.bad 16, .inr (.inl rfl), aIQ (intsD (x ++ y)) row (.sl 1 (intsD x)) (.sl 1 (intsD y)) (S t) 16 ⟨coE16 _ _, hy, jI, hx, hs⟩⟩
 exact ⟨.bad 16, .inr (.inl rfl), aD2 (intsD (x ++ y)) row (.sl 1 (intsD x)) (.sl 1 (intsD y)) 16 ⟨coE16 _ _, jI, hy, jI, hx, hs⟩⟩
 rcases hr2 with ⟨t, ht, htl, rfl⟩ | rfl
 exact ⟨.bad 18, .inr (.inr rfl), aIP (intsD (x ++ y)) row (.sl 1 (intsD x)) (.sl 1 (intsD y)) (S t) 18 ⟨coE18 _ _, hy, xO, hx, hs⟩⟩
 exact ⟨.bad 18, .inr (.inr rfl), aD1 (intsD (x ++ y)) row (.sl 1 (intsD x)) (.sl 1 (intsD y)) 18 ⟨coE18 _ _, jI, hy, xO, hx, hs⟩⟩
theorem evT_ok (a b : Tv) (ha : Cok a) (hb : Cok b) (p : List Int) (hp : p ∈ progs) : ∃ r, ResT r ∧ EvS g p (.sl 7 [TvD a, TvD b]) r := by
 obtain ⟨r0, h0, e0⟩ := aMN (g := g) a b ha hb
 obtain ⟨r1, h1, e1⟩ := aMM (g := g) a b ha hb
 obtain ⟨r4, h4, e4⟩ := ev4_ok (g := g) a b ha hb
 obtain ⟨r5, h5, e5⟩ := ev5_ok (g := g) (.sl 7 [TvD a, TvD b])
 obtain ⟨r64, h64, e64⟩ := ev64_ok (g := g) a b ha hb
 obtain ⟨r34, h34, e34⟩ := rX h4 e4 aEM
 obtain ⟨r35, h35, e35⟩ := rX h5 e5 aEL
 simp only [progs, List.mem_cons, List.not_mem_nil, or_false] at hp
 rcases hp with rfl | rfl | rfl | rfl | rfl | rfl | rfl | rfl | rfl | rfl | rfl | rfl | rfl | rfl | rfl | rfl | rfl | rfl
 obtain ⟨r, h1, h2⟩ := aMN (g := g) a b ha hb; exact ⟨r, h1.t, h2⟩
 obtain ⟨r, h1, h2⟩ := aMM (g := g) a b ha hb; exact ⟨r, h1.t, h2⟩
 obtain ⟨r, h1, h2⟩ := rX h4 e4 aEM; exact ⟨r, h1.t, h2⟩
 obtain ⟨r, h1, h2⟩ := rX h5 e5 aEL; exact ⟨r, h1.t, h2⟩
 exact fN (x := [4]) (y := [0]) (.inl h4) e4 h0 e0 aJ5
 exact fN (x := [4]) (y := [1]) (.inl h4) e4 h1 e1 aJ4
 exact fN (x := [5]) (y := [0]) (.inl h5) e5 h0 e0 aJ3
 exact fN (x := [5]) (y := [1]) (.inl h5) e5 h1 e1 aJ2
 rcases h64 with h64 | rfl
 obtain ⟨r, h1, h2⟩ := rX h64 e64 zG; exact ⟨r, h1.t, h2⟩
 exact ⟨_, .inr (.inr rfl), aMK e64 zG⟩
 exact ⟨_, .inr (.inr rfl), aMK (xQ _) aJ1⟩
 exact fN (x := [4]) (y := [3, 4]) (.inl h4) e4 h34 e34 aG2
 exact fN (x := [4]) (y := [3, 5]) (.inl h4) e4 h35 e35 aG1
 exact fN (x := [5]) (y := [3, 4]) (.inl h5) e5 h34 e34 aG0
 exact fN (x := [5]) (y := [3, 5]) (.inl h5) e5 h35 e35 aGZ
 exact fN (x := [6, 4]) (y := [0]) h64 e64 h0 e0 aGY
 exact fN (x := [6, 4]) (y := [1]) h64 e64 h1 e1 aGX
 exact fN (x := [6, 5]) (y := [0]) (.inr rfl) (xQ _) h0 e0 aGW
 exact fN (x := [6, 5]) (y := [1]) (.inr rfl) (xQ _) h1 e1 aGV
theorem v6 (p : List Int) (hp : p ∈ progs) : V.Spec Tryz.prog (Gl g) 209 [.agg g0C, .c (cM 1 (intsD p))] [] (y20) [] := by
 simp only [progs, List.mem_cons, List.not_mem_nil, or_false] at hp
 rcases hp with rfl | rfl | rfl | rfl | rfl | rfl | rfl | rfl | rfl | rfl | rfl | rfl | rfl | rfl | rfl | rfl | rfl | rfl
 exact symb0
 exact symb1
 exact symb34
 exact symb35
 exact symb240
 exact symb241
 exact symb250
 exact symb251
 exact symb364
 exact symb365
 exact aJW
 exact aJV
 exact aJU
 exact aJT
 exact aJS
 exact aJR
 exact aJQ
 exact aJP
theorem xY (p : List Int) (hp : p ∈ progs) : V.Spec Tryz.prog (Gl g) 210 [.c (cM 1 (intsD p))] [] (.c (cB true)) [] := by
 simp only [progs, List.mem_cons, List.not_mem_nil, or_false] at hp
 rcases hp with rfl | rfl | rfl | rfl | rfl | rfl | rfl | rfl | rfl | rfl | rfl | rfl | rfl | rfl | rfl | rfl | rfl | rfl
 exact clos0
 exact clos1
 exact clos34
 exact clos35
 exact clos240
 exact clos241
 exact clos250
 exact clos251
 exact clos364
 exact clos365
 exact aM9
 exact aM8
 exact aM7
 exact aM6
 exact aM5
 exact aM4
 exact aM3
 exact aM2
theorem pick_ok (n : Int) : ∃ p, p ∈ progs ∧ V.Spec Tryz.prog (Gl g) 86 [.agg g0C, .c (cI n)] [] (.c (cM 1 (intsD p))) [] := by
 have hb := dB n (m := 18) (by decide)
 have hm := dF (g := g) n 18 (by decide) (by decide)
 have hv : (mdV n 18).toNat < progs.length := by have : progs.length = 18 := rfl; omega
 have he : (progs.map fun p => [D.sl 1 (intsD p)])[(mdV n 18).toNat]? = some [.sl 1 (intsD (progs[(mdV n 18).toNat]))] := by rw [List.getElem?_map, List.getElem?_eq_getElem hv]; rfl
 have hp : progs[(mdV n 18).toNat] ∈ progs := List.getElem_mem hv
 revert he hp
 generalize progs[(mdV n 18).toNat] = p
 intro he hp
 refine ⟨p, hp, ?_⟩
 simp only [progs, List.mem_cons, List.not_mem_nil, or_false] at hp
 rcases hp with rfl | rfl | rfl | rfl | rfl | rfl | rfl | rfl | rfl | rfl | rfl | rfl | rfl | rfl | rfl | rfl | rfl | rfl
 exact aKY n _ 0 hm ⟨hb.1, he⟩
 exact aKY n _ 1 hm ⟨hb.1, he⟩
 exact aKX n _ 3 4 hm ⟨hb.1, he⟩
 exact aKX n _ 3 5 hm ⟨hb.1, he⟩
 exact nI n _ 2 4 0 hm ⟨hb.1, he⟩
 exact nI n _ 2 4 1 hm ⟨hb.1, he⟩
 exact nI n _ 2 5 0 hm ⟨hb.1, he⟩
 exact nI n _ 2 5 1 hm ⟨hb.1, he⟩
 exact nI n _ 3 6 4 hm ⟨hb.1, he⟩
 exact nI n _ 3 6 5 hm ⟨hb.1, he⟩
 exact iZ n _ 2 4 3 4 hm ⟨hb.1, he⟩
 exact iZ n _ 2 4 3 5 hm ⟨hb.1, he⟩
 exact iZ n _ 2 5 3 4 hm ⟨hb.1, he⟩
 exact iZ n _ 2 5 3 5 hm ⟨hb.1, he⟩
 exact iZ n _ 2 6 4 0 hm ⟨hb.1, he⟩
 exact iZ n _ 2 6 4 1 hm ⟨hb.1, he⟩
 exact iZ n _ 2 6 5 0 hm ⟨hb.1, he⟩
 exact iZ n _ 2 6 5 1 hm ⟨hb.1, he⟩
theorem open_ok (p : List Int) (hp : p ∈ progs) (z : Int) : ∃ q : List Int, q.length ≤ 10 ∧ (∀ x, x ∈ q → -1 ≤ x ∧ x ≤ 10) ∧ V.Spec Tryz.prog (Gl g) 87 [.agg g0C, .c (cM 1 (intsD p)), .c (cI z)] [] (.c (cM 1 (intsD q))) [] := by
 simp only [progs, List.mem_cons, List.not_mem_nil, or_false] at hp
 rcases hp with rfl | rfl | rfl | rfl | rfl | rfl | rfl | rfl | rfl | rfl | rfl | rfl | rfl | rfl | rfl | rfl | rfl | rfl
 have hb := dB z (m := 1) (by decide)
 have hm := dF (g := g) z 1 (by decide) (by decide)
 have hc : mdV z 1 = 0 := by omega
 have e := hc
 rw [e] at hm; exact ⟨[-1], by decide, by decide, aH8 z hm⟩
 have hb := dB z (m := 1) (by decide)
 have hm := dF (g := g) z 1 (by decide) (by decide)
 have hc : mdV z 1 = 0 := by omega
 have e := hc
 rw [e] at hm; exact ⟨[-1], by decide, by decide, aH7 z hm⟩
 have hb := dB z (m := 2) (by decide)
 have hm := dF (g := g) z 2 (by decide) (by decide)
 have hc : mdV z 2 = 0 ∨ mdV z 2 = 1 := by omega
 rcases hc with e | e
 rw [e] at hm; exact ⟨[-1], by decide, by decide, aH6 z hm⟩
 rw [e] at hm; exact ⟨[3, -1], by decide, by decide, aH5 z hm⟩
 have hb := dB z (m := 2) (by decide)
 have hm := dF (g := g) z 2 (by decide) (by decide)
 have hc : mdV z 2 = 0 ∨ mdV z 2 = 1 := by omega
 rcases hc with e | e
 rw [e] at hm; exact ⟨[-1], by decide, by decide, aH4 z hm⟩
 rw [e] at hm; exact ⟨[3, -1], by decide, by decide, aH3 z hm⟩
 have hb := dB z (m := 3) (by decide)
 have hm := dF (g := g) z 3 (by decide) (by decide)
 have hc : mdV z 3 = 0 ∨ mdV z 3 = 1 ∨ mdV z 3 = 2 := by omega
 rcases hc with e | e | e
 rw [e] at hm; exact ⟨[-1], by decide, by decide, aH2 z hm⟩
 rw [e] at hm; exact ⟨[2, -1, 0], by decide, by decide, aH1 z hm⟩
 rw [e] at hm; exact ⟨[2, 4, -1], by decide, by decide, aH0 z hm⟩
 have hb := dB z (m := 3) (by decide)
 have hm := dF (g := g) z 3 (by decide) (by decide)
 have hc : mdV z 3 = 0 ∨ mdV z 3 = 1 ∨ mdV z 3 = 2 := by omega
 rcases hc with e | e | e
 rw [e] at hm; exact ⟨[-1], by decide, by decide, aHZ z hm⟩
 rw [e] at hm; exact ⟨[2, -1, 1], by decide, by decide, aHY z hm⟩
 rw [e] at hm; exact ⟨[2, 4, -1], by decide, by decide, aHX z hm⟩
 have hb := dB z (m := 3) (by decide)
 have hm := dF (g := g) z 3 (by decide) (by decide)
 have hc : mdV z 3 = 0 ∨ mdV z 3 = 1 ∨ mdV z 3 = 2 := by omega
 rcases hc with e | e | e
 rw [e] at hm; exact ⟨[-1], by decide, by decide, aHW z hm⟩
 rw [e] at hm; exact ⟨[2, -1, 0], by decide, by decide, aHV z hm⟩
 rw [e] at hm; exact ⟨[2, 5, -1], by decide, by decide, aHU z hm⟩
 have hb := dB z (m := 3) (by decide)
 have hm := dF (g := g) z 3 (by decide) (by decide)
 have hc : mdV z 3 = 0 ∨ mdV z 3 = 1 ∨ mdV z 3 = 2 := by omega
 rcases hc with e | e | e
 rw [e] at hm; exact ⟨[-1], by decide, by decide, aHT z hm⟩
 rw [e] at hm; exact ⟨[2, -1, 1], by decide, by decide, aHS z hm⟩
 rw [e] at hm; exact ⟨[2, 5, -1], by decide, by decide, aHR z hm⟩
 have hb := dB z (m := 3) (by decide)
 have hm := dF (g := g) z 3 (by decide) (by decide)
 have hc : mdV z 3 = 0 ∨ mdV z 3 = 1 ∨ mdV z 3 = 2 := by omega
 rcases hc with e | e | e
 rw [e] at hm; exact ⟨[-1], by decide, by decide, aHQ z hm⟩
 rw [e] at hm; exact ⟨[3, -1], by decide, by decide, aHP z hm⟩
 rw [e] at hm; exact ⟨[3, 6, -1], by decide, by decide, aHO z hm⟩
 have hb := dB z (m := 3) (by decide)
 have hm := dF (g := g) z 3 (by decide) (by decide)
 have hc : mdV z 3 = 0 ∨ mdV z 3 = 1 ∨ mdV z 3 = 2 := by omega
 rcases hc with e | e | e
 rw [e] at hm; exact ⟨[-1], by decide, by decide, aHN z hm⟩
 rw [e] at hm; exact ⟨[3, -1], by decide, by decide, aHM z hm⟩
 rw [e] at hm; exact ⟨[3, 6, -1], by decide, by decide, aHL z hm⟩
 have hb := dB z (m := 4) (by decide)
 have hm := dF (g := g) z 4 (by decide) (by decide)
 have hc : mdV z 4 = 0 ∨ mdV z 4 = 1 ∨ mdV z 4 = 2 ∨ mdV z 4 = 3 := by omega
 rcases hc with e | e | e | e
 rw [e] at hm; exact ⟨[-1], by decide, by decide, aDB z hm⟩
 rw [e] at hm; exact ⟨[2, -1, 3, 4], by decide, by decide, aDA z hm⟩
 rw [e] at hm; exact ⟨[2, 4, -1], by decide, by decide, aC9 z hm⟩
 rw [e] at hm; exact ⟨[2, 4, 3, -1], by decide, by decide, aC8 z hm⟩
 have hb := dB z (m := 4) (by decide)
 have hm := dF (g := g) z 4 (by decide) (by decide)
 have hc : mdV z 4 = 0 ∨ mdV z 4 = 1 ∨ mdV z 4 = 2 ∨ mdV z 4 = 3 := by omega
 rcases hc with e | e | e | e
 rw [e] at hm; exact ⟨[-1], by decide, by decide, aC7 z hm⟩
 rw [e] at hm; exact ⟨[2, -1, 3, 5], by decide, by decide, aC6 z hm⟩
 rw [e] at hm; exact ⟨[2, 4, -1], by decide, by decide, aC5 z hm⟩
 rw [e] at hm; exact ⟨[2, 4, 3, -1], by decide, by decide, aC4 z hm⟩
 have hb := dB z (m := 4) (by decide)
 have hm := dF (g := g) z 4 (by decide) (by decide)
 have hc : mdV z 4 = 0 ∨ mdV z 4 = 1 ∨ mdV z 4 = 2 ∨ mdV z 4 = 3 := by omega
 rcases hc with e | e | e | e
 rw [e] at hm; exact ⟨[-1], by decide, by decide, aC3 z hm⟩
 rw [e] at hm; exact ⟨[2, -1, 3, 4], by decide, by decide, aC2 z hm⟩
 rw [e] at hm; exact ⟨[2, 5, -1], by decide, by decide, aC1 z hm⟩
 rw [e] at hm; exact ⟨[2, 5, 3, -1], by decide, by decide, aC0 z hm⟩
 have hb := dB z (m := 4) (by decide)
 have hm := dF (g := g) z 4 (by decide) (by decide)
 have hc : mdV z 4 = 0 ∨ mdV z 4 = 1 ∨ mdV z 4 = 2 ∨ mdV z 4 = 3 := by omega
 rcases hc with e | e | e | e
 rw [e] at hm; exact ⟨[-1], by decide, by decide, aCZ z hm⟩
 rw [e] at hm; exact ⟨[2, -1, 3, 5], by decide, by decide, aCY z hm⟩
 rw [e] at hm; exact ⟨[2, 5, -1], by decide, by decide, aCX z hm⟩
 rw [e] at hm; exact ⟨[2, 5, 3, -1], by decide, by decide, aCW z hm⟩
 have hb := dB z (m := 4) (by decide)
 have hm := dF (g := g) z 4 (by decide) (by decide)
 have hc : mdV z 4 = 0 ∨ mdV z 4 = 1 ∨ mdV z 4 = 2 ∨ mdV z 4 = 3 := by omega
 rcases hc with e | e | e | e
 rw [e] at hm; exact ⟨[-1], by decide, by decide, aCV z hm⟩
 rw [e] at hm; exact ⟨[2, -1, 0], by decide, by decide, aCU z hm⟩
 rw [e] at hm; exact ⟨[2, 6, -1, 0], by decide, by decide, aCT z hm⟩
 rw [e] at hm; exact ⟨[2, 6, 4, -1], by decide, by decide, aCS z hm⟩
 have hb := dB z (m := 4) (by decide)
 have hm := dF (g := g) z 4 (by decide) (by decide)
 have hc : mdV z 4 = 0 ∨ mdV z 4 = 1 ∨ mdV z 4 = 2 ∨ mdV z 4 = 3 := by omega
 rcases hc with e | e | e | e
 rw [e] at hm; exact ⟨[-1], by decide, by decide, aCR z hm⟩
 rw [e] at hm; exact ⟨[2, -1, 1], by decide, by decide, aCQ z hm⟩
 rw [e] at hm; exact ⟨[2, 6, -1, 1], by decide, by decide, aCP z hm⟩
 rw [e] at hm; exact ⟨[2, 6, 4, -1], by decide, by decide, aCO z hm⟩
 have hb := dB z (m := 4) (by decide)
 have hm := dF (g := g) z 4 (by decide) (by decide)
 have hc : mdV z 4 = 0 ∨ mdV z 4 = 1 ∨ mdV z 4 = 2 ∨ mdV z 4 = 3 := by omega
 rcases hc with e | e | e | e
 rw [e] at hm; exact ⟨[-1], by decide, by decide, aCN z hm⟩
 rw [e] at hm; exact ⟨[2, -1, 0], by decide, by decide, aCM z hm⟩
 rw [e] at hm; exact ⟨[2, 6, -1, 0], by decide, by decide, aCL z hm⟩
 rw [e] at hm; exact ⟨[2, 6, 5, -1], by decide, by decide, aCK z hm⟩
 have hb := dB z (m := 4) (by decide)
 have hm := dF (g := g) z 4 (by decide) (by decide)
 have hc : mdV z 4 = 0 ∨ mdV z 4 = 1 ∨ mdV z 4 = 2 ∨ mdV z 4 = 3 := by omega
 rcases hc with e | e | e | e
 rw [e] at hm; exact ⟨[-1], by decide, by decide, aCJ z hm⟩
 rw [e] at hm; exact ⟨[2, -1, 1], by decide, by decide, aCI z hm⟩
 rw [e] at hm; exact ⟨[2, 6, -1, 1], by decide, by decide, aCH z hm⟩
 rw [e] at hm; exact ⟨[2, 6, 5, -1], by decide, by decide, aCG z hm⟩
theorem tI (a b : Tv) (ha : Cok a) (hb : Cok b) (p : List Int) (hp : p ∈ progs) : (∃ s, bY (some s) ∧ SX g 89 [.agg g0C, mR, .c (cM 1 (intsD p)), .c (cM 7 [TvD a, TvD b])] (aT (S s))) ∨ SX g 89 [.agg g0C, mR, .c (cM 1 (intsD p)), .c (cM 7 [TvD a, TvD b])] (oF 16) ∨ SX g 89 [.agg g0C, mR, .c (cM 1 (intsD p)), .c (cM 7 [TvD a, TvD b])] (oF 18) := by
 obtain ⟨r, hr, he⟩ := evT_ok (g := g) a b ha hb p hp
 rcases hr with ⟨s, hs, rfl⟩ | rfl | rfl
 exact .inl ⟨s, hs, aKH _ _ (S s) (evalXT _ _ (S s) ⟨he, xY p hp, v6 p hp⟩)⟩
 exact .inr (.inl (aG9 _ _ ⟨jI, aMI _ _ 16 ⟨he, xY p hp, v6 p hp⟩⟩))
 exact .inr (.inr (aG8 _ _ ⟨xO, aMI _ _ 18 ⟨he, xY p hp, v6 p hp⟩⟩))
end Go.Proofs.YtclaplngjmgnoaaGreatDoor
namespace Go.Proofs.YtclaplngjmgnoaaGreatDoor
open Go.RowKit Go.V
variable {g : Gv}
def fsL (g : Gv) (l : List Int) (kd a r t n q1 q2 q3 q4 q5 : Int) (ps : List (List D)) : List Prop := [Nx g l q4 3000 n q5, SX g 86 [.agg g0C, .c (cI n)] (.c (cM 1 ps)), Nx g l 0 3 a q1, Go.Eng.inR (1 + a), Nx g l q1 5 r q2, Nx g l q2 9 t q3, Nx g l q3 5 kd q4]
def rwL (g : Gv) (l : List Int) (ps row : List (List D)) (res : SV) (w n1 n2 n3 n4 n5 q5 q6 q7 q8 q9 q10 q11 : Int) (m : List Prop) : List Prop := SX g 90 [.agg g0C] (.c (cI 1)) :: Nx g l q10 8 w q11 :: SX g 85 [.c (.d nlD)] (mR) :: SX g 89 [.agg g0C, mR, .c (cM 1 ps), .c (cM 7 row)] (res) :: Nx g l q5 96 n1 q6 :: Nx g l q6 96 n2 q7 :: Nx g l q7 96 n3 q8 :: Nx g l q8 96 n4 q9 :: Nx g l q9 96 n5 q10 :: SX g 88 [.agg g0C, .c (cM 1 [[.i n1], [.i n2], [.i n3], [.i n4], [.i n5]])] (.c (cM 7 row)) :: m
def vaS (g : Gv) (l : List Int) (q q2 : Int) (y : ByteArray) : Prop := V.Spec Tryz.prog (Gl g) 91 [.c (.bx 0 0), .c (cI 1)] [(0, y14 (intsD l) q)] (aT y) [(0, y14 (intsD l) q2)]
def mkT (x : List (Nat × Int × Int)) (ps row : List (List D)) (res : SV) (m : List (Ent Tryz.prog (Gl g))) : List (Ent Tryz.prog (Gl g)) := uT (tl2 x) :: bD 86 (.c (cM 1 ps)) :: bD 88 (.c (cM 7 row)) :: bD 85 (mR) :: bD 89 res :: bD 90 (.c (cI 1)) :: m
def tlX (kd a r t n n1 n2 n3 n4 n5 w q1 q2 q3 q4 q5 q6 q7 q8 q9 q10 q11 : Int) (m : List (Nat × Int × Int)) : List (Nat × Int × Int) := (108, a, q1) :: (112, r, q2) :: (115, t, q3) :: (119, kd, q4) :: (128, n, q5) :: (137, n1, q6) :: (140, n2, q7) :: (143, n3, q8) :: (146, n4, q9) :: (149, n5, q10) :: (164, w, q11) :: m
def shapes : List (List UInt8) := [[92, 46, 42], [92, 97, 42, 92, 46, 42], [92, 100, 43], [92, 117, 42], [92, 46, 123, 49, 44, 57, 125]]
abbrev y22 (a0 : Int) (a1 : Int) (a2 : Int) (a3 : Int) (a4 : Int) (a5 : List (List D)) (a6 : ByteArray) : SV := .agg [cI a0, cI a1, cI a2, cI a3, cI a4, cM 7 a5, cI 1, cS a6, cI 0, cI 0, cI 0, cM 1 [], cM 1 [], cS (S []), cS (S []), .d nlD]
def MkST (g : Gv) (kd K : Int) : Prop := ∀ (l : List Int) (id a r t n q1 q2 q3 q4 q5 : Int) (ps : List (List D)) (w n1 n2 n3 n4 n5 q6 q7 q8 q9 q10 q11 : Int) (row : List (List D)) (s : ByteArray), conj ((decide (w = 7) = false) :: rwL g l ps row (aT s) w n1 n2 n3 n4 n5 q5 q6 q7 q8 q9 q10 q11 (fsL g l kd a r t n q1 q2 q3 q4 q5 ps)) → SX g 43 [.agg g0C, .c (cI id), .c (cM 1 (intsD l))] (y22 id (1 + a) r t K row s)
theorem mk0T : MkST g 0 1 := fun l id a r t n q1 q2 q3 q4 q5 ps w n1 n2 n3 n4 n5 q6 q7 q8 q9 q10 q11 row s h =>
 sX (tlO [(110, true), (176, false)]) (fun k => mkL [152] [] k) (fun _ => none) (T := mkT (tlX 0 a r t n n1 n2 n3 n4 n5 w q1 q2 q3 q4 q5 q6 q7 q8 q9 q10 q11 []) ps row (aT s) []) (by kernel_rfl) h
def MkSO (g : Gv) (kd K : Int) : Prop := ∀ (l : List Int) (id a r t n q1 q2 q3 q4 q5 : Int) (ps : List (List D)) (w n1 n2 n3 n4 n5 q6 q7 q8 q9 q10 q11 : Int) (row : List (List D)) (q12 : Int) (s y : ByteArray), conj (SX g 90 [.agg g0C] (.c (cI 1)) :: vaS g l q11 q12 y :: (decide (w = 7) = true) :: rwL g l ps row (aT s) w n1 n2 n3 n4 n5 q5 q6 q7 q8 q9 q10 q11 (fsL g l kd a r t n q1 q2 q3 q4 q5 ps)) → SX g 43 [.agg g0C, .c (cI id), .c (cM 1 (intsD l))] (y22 id (1 + a) r t K row y)
theorem mk0O : MkSO g 0 1 := fun l id a r t n q1 q2 q3 q4 q5 ps w n1 n2 n3 n4 n5 q6 q7 q8 q9 q10 q11 row q12 s y h =>
 sX (tlO [(110, true), (176, true)]) (fun k => mkL [152] [] k) (fun _ => none) (T := mkT (tlX 0 a r t n n1 n2 n3 n4 n5 w q1 q2 q3 q4 q5 q6 q7 q8 q9 q10 q11 []) ps row (aT s) [eBx 91 (fun _ => some (aT y, q12))]) (by kernel_rfl) h
def yC (g : Gv) (kd K : Int) : Prop := ∀ (l : List Int) (id a r t n q1 q2 q3 q4 q5 : Int) (ps : List (List D)) (w n1 n2 n3 n4 n5 q6 q7 q8 q9 q10 q11 : Int) (row : List (List D)) (q12 : Int) (y : ByteArray), conj (SX g 90 [.agg g0C] (.c (cI 1)) :: vaS g l q11 q12 y :: rwL g l ps row (oF 16) w n1 n2 n3 n4 n5 q5 q6 q7 q8 q9 q10 q11 (fsL g l kd a r t n q1 q2 q3 q4 q5 ps)) → SX g 43 [.agg g0C, .c (cI id), .c (cM 1 (intsD l))] (y22 id (1 + a) r t K row y)
theorem mk0N16 : yC g 0 1 := fun l id a r t n q1 q2 q3 q4 q5 ps w n1 n2 n3 n4 n5 q6 q7 q8 q9 q10 q11 row q12 y h =>
 sX (tlO [(110, true)]) (fun k => mkL [152] [] k) (fun _ => none) (T := mkT (tlX 0 a r t n n1 n2 n3 n4 n5 w q1 q2 q3 q4 q5 q6 q7 q8 q9 q10 q11 []) ps row (oF 16) [eBx 91 (fun _ => some (aT y, q12))]) (by kernel_rfl) h
def yB (g : Gv) (kd K : Int) : Prop := ∀ (l : List Int) (id a r t n q1 q2 q3 q4 q5 : Int) (ps : List (List D)) (w n1 n2 n3 n4 n5 q6 q7 q8 q9 q10 q11 : Int) (row : List (List D)) (q12 : Int) (y : ByteArray), conj (SX g 90 [.agg g0C] (.c (cI 1)) :: vaS g l q11 q12 y :: rwL g l ps row (oF 18) w n1 n2 n3 n4 n5 q5 q6 q7 q8 q9 q10 q11 (fsL g l kd a r t n q1 q2 q3 q4 q5 ps)) → SX g 43 [.agg g0C, .c (cI id), .c (cM 1 (intsD l))] (y22 id (1 + a) r t K row y)
theorem mk0N18 : yB g 0 1 := fun l id a r t n q1 q2 q3 q4 q5 ps w n1 n2 n3 n4 n5 q6 q7 q8 q9 q10 q11 row q12 y h =>
 sX (tlO [(110, true)]) (fun k => mkL [152] [] k) (fun _ => none) (T := mkT (tlX 0 a r t n n1 n2 n3 n4 n5 w q1 q2 q3 q4 q5 q6 q7 q8 q9 q10 q11 []) ps row (oF 18) [eBx 91 (fun _ => some (aT y, q12))]) (by kernel_rfl) h
theorem mk1T : MkST g 1 1 := fun l id a r t n q1 q2 q3 q4 q5 ps w n1 n2 n3 n4 n5 q6 q7 q8 q9 q10 q11 row s h =>
 sX (tlO [(110, true), (176, false)]) (fun k => mkL [152] [] k) (fun _ => none) (T := mkT (tlX 1 a r t n n1 n2 n3 n4 n5 w q1 q2 q3 q4 q5 q6 q7 q8 q9 q10 q11 []) ps row (aT s) []) (by kernel_rfl) h
theorem mk1O : MkSO g 1 1 := fun l id a r t n q1 q2 q3 q4 q5 ps w n1 n2 n3 n4 n5 q6 q7 q8 q9 q10 q11 row q12 s y h =>
 sX (tlO [(110, true), (176, true)]) (fun k => mkL [152] [] k) (fun _ => none) (T := mkT (tlX 1 a r t n n1 n2 n3 n4 n5 w q1 q2 q3 q4 q5 q6 q7 q8 q9 q10 q11 []) ps row (aT s) [eBx 91 (fun _ => some (aT y, q12))]) (by kernel_rfl) h
theorem mk1N16 : yC g 1 1 := fun l id a r t n q1 q2 q3 q4 q5 ps w n1 n2 n3 n4 n5 q6 q7 q8 q9 q10 q11 row q12 y h =>
 sX (tlO [(110, true)]) (fun k => mkL [152] [] k) (fun _ => none) (T := mkT (tlX 1 a r t n n1 n2 n3 n4 n5 w q1 q2 q3 q4 q5 q6 q7 q8 q9 q10 q11 []) ps row (oF 16) [eBx 91 (fun _ => some (aT y, q12))]) (by kernel_rfl) h
theorem mk1N18 : yB g 1 1 := fun l id a r t n q1 q2 q3 q4 q5 ps w n1 n2 n3 n4 n5 q6 q7 q8 q9 q10 q11 row q12 y h =>
 sX (tlO [(110, true)]) (fun k => mkL [152] [] k) (fun _ => none) (T := mkT (tlX 1 a r t n n1 n2 n3 n4 n5 w q1 q2 q3 q4 q5 q6 q7 q8 q9 q10 q11 []) ps row (oF 18) [eBx 91 (fun _ => some (aT y, q12))]) (by kernel_rfl) h
abbrev y23 (a0 : Int) (a1 : Int) (a2 : Int) (a3 : Int) (a4 : List (List D)) (a5 : ByteArray) : SV := .agg [cI a0, cI a1, cI a2, cI a3, cI 3, cM 7 a4, cI 0, cS (S []), cI 0, cI 0, cI 0, .d nlD, .d nlD, cS (S [105, 115]), cS a5, .d nlD]
theorem mk2T0 (l : List Int) (id a r t n q1 q2 q3 q4 q5 : Int) (ps : List (List D)) (w n1 n2 n3 n4 n5 q6 q7 q8 q9 q10 q11 : Int) (row : List (List D)) (s : ByteArray) (u q13 : Int) (x : ByteArray) (h : conj ((decide (u = 0) = true) :: Nx g l q11 4 u q13 :: SX g 92 [aT s] (.c (cS x)) :: (decide (w = 7) = false) :: rwL g l ps row (aT s) w n1 n2 n3 n4 n5 q5 q6 q7 q8 q9 q10 q11 (fsL g l 2 a r t n q1 q2 q3 q4 q5 ps))) : SX g 43 [.agg g0C, .c (cI id), .c (cM 1 (intsD l))] (y23 id (1 + a) r t row x) :=
 sX (tlO [(110, true), (176, false), (197, true)]) (fun k => mkL [152] [] k) (fun _ => none) (T := mkT (tlX 2 a r t n n1 n2 n3 n4 n5 w q1 q2 q3 q4 q5 q6 q7 q8 q9 q10 q11 [(194, u, q13)]) ps row (aT s) [bD 92 (.c (cS x))]) (by kernel_rfl) h
abbrev y24 (a0 : Int) (a1 : Int) (a2 : Int) (a3 : Int) (a4 : List (List D)) (a5 : ByteArray) : SV := .agg [cI a0, cI a1, cI a2, cI a3, cI 3, cM 7 a4, cI 0, cS (S []), cI 0, cI 0, cI 0, .d nlD, .d nlD, cS (S [115, 104, 97, 112, 101]), cS a5, .d nlD]
theorem mk2T1 (l : List Int) (id a r t n q1 q2 q3 q4 q5 : Int) (ps : List (List D)) (w n1 n2 n3 n4 n5 q6 q7 q8 q9 q10 q11 : Int) (row : List (List D)) (s : ByteArray) (u q13 : Int) (x : ByteArray) (v q14 : Int) (x2 : ByteArray) (h : conj (Nx g l q13 5 v q14 :: (0 ≤ v ∧ (shapes.map fun t => [D.s (S t)])[v.toNat]? = some [.s x2]) :: (decide (u = 0) = false) :: Nx g l q11 4 u q13 :: SX g 92 [aT s] (.c (cS x)) :: (decide (w = 7) = false) :: rwL g l ps row (aT s) w n1 n2 n3 n4 n5 q5 q6 q7 q8 q9 q10 q11 (fsL g l 2 a r t n q1 q2 q3 q4 q5 ps))) : SX g 43 [.agg g0C, .c (cI id), .c (cM 1 (intsD l))] (y24 id (1 + a) r t row x2) :=
 sX (tlO [(110, true), (176, false), (197, false), (207, true)]) (fun k => mkL [152] [] k) (tlH [(207, [.s x2])]) (T := mkT (tlX 2 a r t n n1 n2 n3 n4 n5 w q1 q2 q3 q4 q5 q6 q7 q8 q9 q10 q11 [(194, u, q13), (205, v, q14)]) ps row (aT s) [bD 92 (.c (cS x))]) (by kernel_rfl) h
theorem mk2O0 (l : List Int) (id a r t n q1 q2 q3 q4 q5 : Int) (ps : List (List D)) (w n1 n2 n3 n4 n5 q6 q7 q8 q9 q10 q11 : Int) (row : List (List D)) (q12 : Int) (s y : ByteArray) (u q13 : Int) (x : ByteArray) (h : conj ((decide (u = 0) = true) :: Nx g l q12 4 u q13 :: SX g 92 [aT y] (.c (cS x)) :: SX g 90 [.agg g0C] (.c (cI 1)) :: vaS g l q11 q12 y :: (decide (w = 7) = true) :: rwL g l ps row (aT s) w n1 n2 n3 n4 n5 q5 q6 q7 q8 q9 q10 q11 (fsL g l 2 a r t n q1 q2 q3 q4 q5 ps))) : SX g 43 [.agg g0C, .c (cI id), .c (cM 1 (intsD l))] (y23 id (1 + a) r t row x) :=
 sX (tlO [(110, true), (176, true), (203, true)]) (fun k => mkL [152] [] k) (fun _ => none) (T := mkT (tlX 2 a r t n n1 n2 n3 n4 n5 w q1 q2 q3 q4 q5 q6 q7 q8 q9 q10 q11 [(200, u, q13)]) ps row (aT s) [eBx 91 (fun _ => some (aT y, q12)), bD 92 (.c (cS x))]) (by kernel_rfl) h
theorem mk2O1 (l : List Int) (id a r t n q1 q2 q3 q4 q5 : Int) (ps : List (List D)) (w n1 n2 n3 n4 n5 q6 q7 q8 q9 q10 q11 : Int) (row : List (List D)) (q12 : Int) (s y : ByteArray) (u q13 : Int) (x : ByteArray) (v q14 : Int) (x2 : ByteArray) (h : conj (Nx g l q13 5 v q14 :: (0 ≤ v ∧ (shapes.map fun t => [D.s (S t)])[v.toNat]? = some [.s x2]) :: (decide (u = 0) = false) :: Nx g l q12 4 u q13 :: SX g 92 [aT y] (.c (cS x)) :: SX g 90 [.agg g0C] (.c (cI 1)) :: vaS g l q11 q12 y :: (decide (w = 7) = true) :: rwL g l ps row (aT s) w n1 n2 n3 n4 n5 q5 q6 q7 q8 q9 q10 q11 (fsL g l 2 a r t n q1 q2 q3 q4 q5 ps))) : SX g 43 [.agg g0C, .c (cI id), .c (cM 1 (intsD l))] (y24 id (1 + a) r t row x2) :=
 sX (tlO [(110, true), (176, true), (203, false), (213, true)]) (fun k => mkL [152] [] k) (tlH [(213, [.s x2])]) (T := mkT (tlX 2 a r t n n1 n2 n3 n4 n5 w q1 q2 q3 q4 q5 q6 q7 q8 q9 q10 q11 [(200, u, q13), (211, v, q14)]) ps row (aT s) [eBx 91 (fun _ => some (aT y, q12)), bD 92 (.c (cS x))]) (by kernel_rfl) h
theorem mk2N160 (l : List Int) (id a r t n q1 q2 q3 q4 q5 : Int) (ps : List (List D)) (w n1 n2 n3 n4 n5 q6 q7 q8 q9 q10 q11 : Int) (row : List (List D)) (q12 : Int) (y : ByteArray) (u q13 : Int) (x : ByteArray) (h : conj ((decide (u = 0) = true) :: Nx g l q12 4 u q13 :: SX g 92 [aT y] (.c (cS x)) :: SX g 90 [.agg g0C] (.c (cI 1)) :: vaS g l q11 q12 y :: rwL g l ps row (oF 16) w n1 n2 n3 n4 n5 q5 q6 q7 q8 q9 q10 q11 (fsL g l 2 a r t n q1 q2 q3 q4 q5 ps))) : SX g 43 [.agg g0C, .c (cI id), .c (cM 1 (intsD l))] (y23 id (1 + a) r t row x) :=
 sX (tlO [(110, true), (202, true)]) (fun k => mkL [152] [] k) (fun _ => none) (T := mkT (tlX 2 a r t n n1 n2 n3 n4 n5 w q1 q2 q3 q4 q5 q6 q7 q8 q9 q10 q11 [(199, u, q13)]) ps row (oF 16) [eBx 91 (fun _ => some (aT y, q12)), bD 92 (.c (cS x))]) (by kernel_rfl) h
theorem mk2N161 (l : List Int) (id a r t n q1 q2 q3 q4 q5 : Int) (ps : List (List D)) (w n1 n2 n3 n4 n5 q6 q7 q8 q9 q10 q11 : Int) (row : List (List D)) (q12 : Int) (y : ByteArray) (u q13 : Int) (x : ByteArray) (v q14 : Int) (x2 : ByteArray) (h : conj (Nx g l q13 5 v q14 :: (0 ≤ v ∧ (shapes.map fun t => [D.s (S t)])[v.toNat]? = some [.s x2]) :: (decide (u = 0) = false) :: Nx g l q12 4 u q13 :: SX g 92 [aT y] (.c (cS x)) :: SX g 90 [.agg g0C] (.c (cI 1)) :: vaS g l q11 q12 y :: rwL g l ps row (oF 16) w n1 n2 n3 n4 n5 q5 q6 q7 q8 q9 q10 q11 (fsL g l 2 a r t n q1 q2 q3 q4 q5 ps))) : SX g 43 [.agg g0C, .c (cI id), .c (cM 1 (intsD l))] (y24 id (1 + a) r t row x2) :=
 sX (tlO [(110, true), (202, false), (212, true)]) (fun k => mkL [152] [] k) (tlH [(212, [.s x2])]) (T := mkT (tlX 2 a r t n n1 n2 n3 n4 n5 w q1 q2 q3 q4 q5 q6 q7 q8 q9 q10 q11 [(199, u, q13), (210, v, q14)]) ps row (oF 16) [eBx 91 (fun _ => some (aT y, q12)), bD 92 (.c (cS x))]) (by kernel_rfl) h
theorem mk2N180 (l : List Int) (id a r t n q1 q2 q3 q4 q5 : Int) (ps : List (List D)) (w n1 n2 n3 n4 n5 q6 q7 q8 q9 q10 q11 : Int) (row : List (List D)) (q12 : Int) (y : ByteArray) (u q13 : Int) (x : ByteArray) (h : conj ((decide (u = 0) = true) :: Nx g l q12 4 u q13 :: SX g 92 [aT y] (.c (cS x)) :: SX g 90 [.agg g0C] (.c (cI 1)) :: vaS g l q11 q12 y :: rwL g l ps row (oF 18) w n1 n2 n3 n4 n5 q5 q6 q7 q8 q9 q10 q11 (fsL g l 2 a r t n q1 q2 q3 q4 q5 ps))) : SX g 43 [.agg g0C, .c (cI id), .c (cM 1 (intsD l))] (y23 id (1 + a) r t row x) :=
 sX (tlO [(110, true), (202, true)]) (fun k => mkL [152] [] k) (fun _ => none) (T := mkT (tlX 2 a r t n n1 n2 n3 n4 n5 w q1 q2 q3 q4 q5 q6 q7 q8 q9 q10 q11 [(199, u, q13)]) ps row (oF 18) [eBx 91 (fun _ => some (aT y, q12)), bD 92 (.c (cS x))]) (by kernel_rfl) h
theorem mk2N181 (l : List Int) (id a r t n q1 q2 q3 q4 q5 : Int) (ps : List (List D)) (w n1 n2 n3 n4 n5 q6 q7 q8 q9 q10 q11 : Int) (row : List (List D)) (q12 : Int) (y : ByteArray) (u q13 : Int) (x : ByteArray) (v q14 : Int) (x2 : ByteArray) (h : conj (Nx g l q13 5 v q14 :: (0 ≤ v ∧ (shapes.map fun t => [D.s (S t)])[v.toNat]? = some [.s x2]) :: (decide (u = 0) = false) :: Nx g l q12 4 u q13 :: SX g 92 [aT y] (.c (cS x)) :: SX g 90 [.agg g0C] (.c (cI 1)) :: vaS g l q11 q12 y :: rwL g l ps row (oF 18) w n1 n2 n3 n4 n5 q5 q6 q7 q8 q9 q10 q11 (fsL g l 2 a r t n q1 q2 q3 q4 q5 ps))) : SX g 43 [.agg g0C, .c (cI id), .c (cM 1 (intsD l))] (y24 id (1 + a) r t row x2) :=
 sX (tlO [(110, true), (202, false), (212, true)]) (fun k => mkL [152] [] k) (tlH [(212, [.s x2])]) (T := mkT (tlX 2 a r t n n1 n2 n3 n4 n5 w q1 q2 q3 q4 q5 q6 q7 q8 q9 q10 q11 [(199, u, q13), (210, v, q14)]) ps row (oF 18) [eBx 91 (fun _ => some (aT y, q12)), bD 92 (.c (cS x))]) (by kernel_rfl) h
theorem mk3T : MkST g 3 2 := fun l id a r t n q1 q2 q3 q4 q5 ps w n1 n2 n3 n4 n5 q6 q7 q8 q9 q10 q11 row s h =>
 sX (tlO [(110, true), (176, false)]) (fun k => mkL [152] [] k) (fun _ => none) (T := mkT (tlX 3 a r t n n1 n2 n3 n4 n5 w q1 q2 q3 q4 q5 q6 q7 q8 q9 q10 q11 []) ps row (aT s) []) (by kernel_rfl) h
theorem mk3O : MkSO g 3 2 := fun l id a r t n q1 q2 q3 q4 q5 ps w n1 n2 n3 n4 n5 q6 q7 q8 q9 q10 q11 row q12 s y h =>
 sX (tlO [(110, true), (176, true)]) (fun k => mkL [152] [] k) (fun _ => none) (T := mkT (tlX 3 a r t n n1 n2 n3 n4 n5 w q1 q2 q3 q4 q5 q6 q7 q8 q9 q10 q11 []) ps row (aT s) [eBx 91 (fun _ => some (aT y, q12))]) (by kernel_rfl) h
theorem mk3N16 : yC g 3 2 := fun l id a r t n q1 q2 q3 q4 q5 ps w n1 n2 n3 n4 n5 q6 q7 q8 q9 q10 q11 row q12 y h =>
 sX (tlO [(110, true)]) (fun k => mkL [152] [] k) (fun _ => none) (T := mkT (tlX 3 a r t n n1 n2 n3 n4 n5 w q1 q2 q3 q4 q5 q6 q7 q8 q9 q10 q11 []) ps row (oF 16) [eBx 91 (fun _ => some (aT y, q12))]) (by kernel_rfl) h
theorem mk3N18 : yB g 3 2 := fun l id a r t n q1 q2 q3 q4 q5 ps w n1 n2 n3 n4 n5 q6 q7 q8 q9 q10 q11 row q12 y h =>
 sX (tlO [(110, true)]) (fun k => mkL [152] [] k) (fun _ => none) (T := mkT (tlX 3 a r t n n1 n2 n3 n4 n5 w q1 q2 q3 q4 q5 q6 q7 q8 q9 q10 q11 []) ps row (oF 18) [eBx 91 (fun _ => some (aT y, q12))]) (by kernel_rfl) h
theorem mk4 (l : List Int) (id a r t n q1 q2 q3 q4 q5 : Int) (ps : List (List D)) (z q6 : Int) (os : List (List D)) (h : conj (Nx g l q5 20 z q6 :: SX g 87 [.agg g0C, .c (cM 1 ps), .c (cI z)] (.c (cM 1 os)) :: fsL g l 4 a r t n q1 q2 q3 q4 q5 ps)) : SX g 43 [.agg g0C, .c (cI id), .c (cM 1 (intsD l))] (.agg [cI id, cI (1 + a), cI r, cI t, cI 4, .d nlD, cI 0, cS (S []), cI 0, cI 0, cI 0, .d nlD, .d nlD, cS (S []), cS (S []), cM 1 os]) :=
 sX (tlO [(110, true)]) (fun _ => none) (fun _ => none) (T := [uT (tl2 [(108, a, q1), (112, r, q2), (115, t, q3), (119, 4, q4), (128, n, q5), (138, z, q6)]), bD 86 (.c (cM 1 ps)), bD 87 (.c (cM 1 os))]) (by kernel_rfl) h
end Go.Proofs.YtclaplngjmgnoaaGreatDoor
namespace Go.Proofs.YtclaplngjmgnoaaGreatDoor
open Go.RowKit Go.V
open Go.Eng (u8)
variable {g : Gv}
theorem eB  : SX g 90 [.agg g0C] (.c (cI 1)) :=
 sX (fun _ => none) (fun _ => none) (fun _ => none) (T := []) (cs := []) (by kernel_rfl) trivial
theorem tR {l : List UInt8} (h : l.all dY = true) (hl : l.length ≤ 200) : bY (some l) := by
 have e : bs (S l) = l := by simp [bs, S]
 simp only [bY, tvS, c6, Bool.and_eq_true, decide_eq_true_eq, aM, e]
 exact ⟨h, by omega⟩
theorem aK8 (l : List Int) (k : Int) : dY (u8 (32 + nxV l k 95)) = true := by
 have := dJ l k (n := 95) (by decide)
 simp only [dY, u8, Bool.and_eq_true, decide_eq_true_eq, UInt8.toNat_ofNat']
 omega
theorem aF5 (l : List Int) : ∀ (n : Nat) (k : Int), (chM l n k).1.all dY = true
 | 0, k => rfl
 | n + 1, k => by simp only [chM, List.all_cons, aK8, aF5 l n, Bool.and_true]
theorem aBW : ∀ i, i < 15 → (wordsL.getD i []).all dY = true ∧ (wordsL.getD i []).length ≤ 200 := by decide
theorem tA (l : List Int) (k : Int) : bY (some (txM l k).1) := by
 unfold txM; split
 have := dJ l k (n := 18) (by decide)
 have h := aBW (nxV l k 18).toNat (by omega)
 exact tR h.1 h.2
 exact tR (aF5 l _ _) (by rw [aNB]; have := txN_bd l k; omega)
theorem val_ok (l : List Int) (k : Int) (h : NumOk l k) : V.Spec Tryz.prog (Gl g) 91 [.c (.bx 0 0), .c (cI 1)] [(0, y14 (intsD l) k)] (aT (S (txM l k).1)) [(0, .box 162 [cM 1 (intsD l), .d (.i (txM l k).2)])] := by
 exact d7 (l := [.i 1, .s (S (txM l k).1), .i 0, .i 0, .i 0, nlD, nlD]) (val1_ok l k h) (t8 _)
theorem lL (s : List UInt8) (h : bY (some s)) : ∃ x : List UInt8, x.length ≤ 500 ∧ V.Spec Tryz.prog (Gl g) 92 [aT (S s)] [] (.c (cS (S x))) [] := by
 have hl : s.length ≤ 200 := gW h
 refine ⟨quoL s, ?_, textX (S s) (S (quoL s)) ⟨aHH s (by omega), iX s h⟩⟩
 have := nX s
 unfold quoL
 simp
 omega
theorem mE {a : Int} {n : Int} (h0 : 0 ≤ a) (h1 : a < n) (hn : n ≤ 1000000) : Go.Eng.inR (1 + a) := by unfold Go.Eng.inR; omega
theorem iH : ∀ t, t ∈ shapes → t.length ≤ 500 := by decide
def yD (g : Gv) (l : List Int) (id : Int) : Prop := ∃ it : It, ItOk it ∧ it.id = id ∧ V.Spec Tryz.prog (Gl g) 43 [.agg g0C, .c (cI id), .c (cM 1 (intsD l))] [] (.agg ((ItD it).map .d)) []
theorem cD {n : Int} (h0 : 0 ≤ n) (h1 : n < 100000) : nOk n := ⟨by omega, by omega⟩
theorem made4 (l : List Int) (id a r t n q1 q2 q3 q4 q5 : Int) (hid : nOk id) (ha : 0 ≤ a ∧ a < 3) (hr : 0 ≤ r ∧ r < 5) (ht : 0 ≤ t ∧ t < 9) (x1 : Nx g l 0 3 a q1) (x2 : Nx g l q1 5 r q2) (x3 : Nx g l q2 9 t q3) (x4 : Nx g l q3 5 4 q4) (x5 : Nx g l q4 3000 n q5) (h5 : NumOk l q5) (p : List Int) (hp : p ∈ progs) (hk : V.Spec Tryz.prog (Gl g) 86 [.agg g0C, .c (cI n)] [] (.c (cM 1 (intsD p))) []) : yD g l id := by
 obtain ⟨q, hq, hm, ho⟩ := open_ok (g := g) p hp (nxV l q5 20)
 refine ⟨⟨id, 1 + a, r, t, 4, [], none, [], [], q⟩, ⟨hid, cD (by show 0 ≤ 1 + a; omega) (by show 1 + a < _; omega), cD hr.1 (by show r < _; omega), cD ht.1 (by show t < _; omega), cD (n := 4) (by decide) (by decide), Nat.zero_le _, (fun v hv => by cases hv), fC, Nat.zero_le _, Nat.zero_le _, (by show q.length ≤ 1000; omega), (fun y hy => ⟨by have := hm y hy; omega, by have := hm y hy; omega⟩)⟩, rfl, ?_⟩
 exact d7 (l := [.i id, .i (1 + a), .i r, .i t, .i 4, nlD, .i 0, .s (S []), .i 0, .i 0, .i 0, nlD, nlD, .s (S []), .s (S []), .sl 1 (intsD q)]) (mk4 _ _ _ _ _ _ _ _ _ _ _ _ _ _ _ ⟨cV l q5 20 h5 (by decide), ho, x5, hk, x1, mE ha.1 ha.2 (by decide), x2, x3, x4⟩) (.cons (.refl _) (.cons (.refl _) (.cons (.refl _) (.cons (.refl _) (.cons (.refl _) (.cons (.nil 7) (.cons (.refl _) (.cons (.refl _) (.cons (.refl _) (.cons (.refl _) (.cons (.refl _) (.cons (.nil 1) (.cons (.nil 1) (.cons (.refl _) (.cons (.refl _) (.cons (.refl _) (.nil)))))))))))))))))
def k10 (l : List Int) (q5 : Int) : Int := nxK l (nxK l (nxK l (nxK l (nxK l q5 96) 96) 96) 96) 96
def k11 (l : List Int) (q5 : Int) : Int := nxK l (k10 l q5) 8
def vT (l : List Int) (q5 : Int) : List UInt8 := (txM l (k11 l q5)).1
theorem aLN {kd K : Int} (hK : nOk K) (mT : MkST g kd K) (mO : MkSO g kd K) (mN16 : yC g kd K) (mN18 : yB g kd K) (l : List Int) (id a r t n q1 q2 q3 q4 q5 : Int) (hid : nOk id) (ha : 0 ≤ a ∧ a < 3) (hr : 0 ≤ r ∧ r < 5) (ht : 0 ≤ t ∧ t < 9) (x1 : Nx g l 0 3 a q1) (x2 : Nx g l q1 5 r q2) (x3 : Nx g l q2 9 t q3) (x4 : Nx g l q3 5 kd q4) (x5 : Nx g l q4 3000 n q5) (h5 : NumOk l q5) (p : List Int) (hp : p ∈ progs) (hk : V.Spec Tryz.prog (Gl g) 86 [.agg g0C, .c (cI n)] [] (.c (cM 1 (intsD p))) []) : yD g l id := by
 have n6 := h5.next 96
 have n7 := n6.next 96
 have n8 := n7.next 96
 have n9 := n8.next 96
 have n10 := n9.next 96
 have n11 := n10.next 8
 obtain ⟨a', b', ca, cb, hrow⟩ := aKF (g := g) [nxV l q5 96, nxV l (nxK l q5 96) 96, nxV l (nxK l (nxK l q5 96) 96) 96, nxV l (nxK l (nxK l (nxK l q5 96) 96) 96) 96, nxV l (nxK l (nxK l (nxK l (nxK l q5 96) 96) 96) 96) 96] ⟨Int.le_refl _, by simp, by simp⟩
 have y1 := cV (g := g) l _ 96 h5 (by decide)
 have y2 := cV (g := g) l _ 96 n6 (by decide)
 have y3 := cV (g := g) l _ 96 n7 (by decide)
 have y4 := cV (g := g) l _ 96 n8 (by decide)
 have y5 := cV (g := g) l _ 96 n9 (by decide)
 have y6 := cV (g := g) l _ 8 n10 (by decide)
 have v11 := val_ok (g := g) l _ n11
 have vr := tA l (k11 l q5)
 have cells : ∀ v, v ∈ [a', b'] → bY v := by
  intro v hv
  simp only [List.mem_cons, List.not_mem_nil, or_false] at hv
  rcases hv with rfl | rfl
  ·exact ca.ok
  ·exact cb.ok
 rcases tI (g := g) a' b' ca cb p hp with ⟨s, hs, hres⟩ | hres | hres
 ·by_cases c : nxV l (k10 l q5) 8 = 7
  ·refine ⟨⟨id, 1 + a, r, t, K, [a', b'], some (vT l q5), [], [], []⟩, ⟨hid, cD (by show 0 ≤ 1 + a; omega) (by show 1 + a < _; omega), cD hr.1 (by show r < _; omega), cD ht.1 (by show t < _; omega), hK, (by show (2 : Nat) ≤ 8; omega), cells, vr, Nat.zero_le _, Nat.zero_le _, Nat.zero_le _, (fun y hy => by cases hy)⟩, rfl, ?_⟩
   exact d7 (l := [.i id, .i (1 + a), .i r, .i t, .i K, .sl 7 [TvD a', TvD b'], .i 1, .s (S (vT l q5)), .i 0, .i 0, .i 0, .sl 1 [], .sl 1 [], .s (S []), .s (S []), nlD]) (mO _ _ _ _ _ _ _ _ _ _ _ _ _ _ _ _ _ _ _ _ _ _ _ _ _ _ _ _ ⟨eB, v11, decide_eq_true c, eB, y6, iD, hres, y1, y2, y3, y4, y5, hrow, x5, hk, x1, mE ha.1 ha.2 (by decide), x2, x3, x4⟩) (.cons (.refl _) (.cons (.refl _) (.cons (.refl _) (.cons (.refl _) (.cons (.refl _) (.cons (.refl _) (.cons (.refl _) (.cons (.refl _) (.cons (.refl _) (.cons (.refl _) (.cons (.refl _) (.cons (.refl _) (.cons (.refl _) (.cons (.refl _) (.cons (.refl _) (.cons (.nil 1) (.nil)))))))))))))))))
  ·refine ⟨⟨id, 1 + a, r, t, K, [a', b'], some s, [], [], []⟩, ⟨hid, cD (by show 0 ≤ 1 + a; omega) (by show 1 + a < _; omega), cD hr.1 (by show r < _; omega), cD ht.1 (by show t < _; omega), hK, (by show (2 : Nat) ≤ 8; omega), cells, hs, Nat.zero_le _, Nat.zero_le _, Nat.zero_le _, (fun y hy => by cases hy)⟩, rfl, ?_⟩
   exact d7 (l := [.i id, .i (1 + a), .i r, .i t, .i K, .sl 7 [TvD a', TvD b'], .i 1, .s (S s), .i 0, .i 0, .i 0, .sl 1 [], .sl 1 [], .s (S []), .s (S []), nlD]) (mT _ _ _ _ _ _ _ _ _ _ _ _ _ _ _ _ _ _ _ _ _ _ _ _ _ _ ⟨decide_eq_false c, eB, y6, iD, hres, y1, y2, y3, y4, y5, hrow, x5, hk, x1, mE ha.1 ha.2 (by decide), x2, x3, x4⟩) (.cons (.refl _) (.cons (.refl _) (.cons (.refl _) (.cons (.refl _) (.cons (.refl _) (.cons (.refl _) (.cons (.refl _) (.cons (.refl _) (.cons (.refl _) (.cons (.refl _) (.cons (.refl _) (.cons (.refl _) (.cons (.refl _) (.cons (.refl _) (.cons (.refl _) (.cons (.nil 1) (.nil)))))))))))))))))
 ·refine ⟨⟨id, 1 + a, r, t, K, [a', b'], some (vT l q5), [], [], []⟩, ⟨hid, cD (by show 0 ≤ 1 + a; omega) (by show 1 + a < _; omega), cD hr.1 (by show r < _; omega), cD ht.1 (by show t < _; omega), hK, (by show (2 : Nat) ≤ 8; omega), cells, vr, Nat.zero_le _, Nat.zero_le _, Nat.zero_le _, (fun y hy => by cases hy)⟩, rfl, ?_⟩
  exact d7 (l := [.i id, .i (1 + a), .i r, .i t, .i K, .sl 7 [TvD a', TvD b'], .i 1, .s (S (vT l q5)), .i 0, .i 0, .i 0, .sl 1 [], .sl 1 [], .s (S []), .s (S []), nlD]) (mN16 _ _ _ _ _ _ _ _ _ _ _ _ _ _ _ _ _ _ _ _ _ _ _ _ _ _ _ ⟨eB, v11, eB, y6, iD, hres, y1, y2, y3, y4, y5, hrow, x5, hk, x1, mE ha.1 ha.2 (by decide), x2, x3, x4⟩) (.cons (.refl _) (.cons (.refl _) (.cons (.refl _) (.cons (.refl _) (.cons (.refl _) (.cons (.refl _) (.cons (.refl _) (.cons (.refl _) (.cons (.refl _) (.cons (.refl _) (.cons (.refl _) (.cons (.refl _) (.cons (.refl _) (.cons (.refl _) (.cons (.refl _) (.cons (.nil 1) (.nil)))))))))))))))))
 ·refine ⟨⟨id, 1 + a, r, t, K, [a', b'], some (vT l q5), [], [], []⟩, ⟨hid, cD (by show 0 ≤ 1 + a; omega) (by show 1 + a < _; omega), cD hr.1 (by show r < _; omega), cD ht.1 (by show t < _; omega), hK, (by show (2 : Nat) ≤ 8; omega), cells, vr, Nat.zero_le _, Nat.zero_le _, Nat.zero_le _, (fun y hy => by cases hy)⟩, rfl, ?_⟩
  exact d7 (l := [.i id, .i (1 + a), .i r, .i t, .i K, .sl 7 [TvD a', TvD b'], .i 1, .s (S (vT l q5)), .i 0, .i 0, .i 0, .sl 1 [], .sl 1 [], .s (S []), .s (S []), nlD]) (mN18 _ _ _ _ _ _ _ _ _ _ _ _ _ _ _ _ _ _ _ _ _ _ _ _ _ _ _ ⟨eB, v11, eB, y6, iD, hres, y1, y2, y3, y4, y5, hrow, x5, hk, x1, mE ha.1 ha.2 (by decide), x2, x3, x4⟩) (.cons (.refl _) (.cons (.refl _) (.cons (.refl _) (.cons (.refl _) (.cons (.refl _) (.cons (.refl _) (.cons (.refl _) (.cons (.refl _) (.cons (.refl _) (.cons (.refl _) (.cons (.refl _) (.cons (.refl _) (.cons (.refl _) (.cons (.refl _) (.cons (.refl _) (.cons (.nil 1) (.nil)))))))))))))))))
theorem made2 (l : List Int) (id a r t n q1 q2 q3 q4 q5 : Int) (hid : nOk id) (ha : 0 ≤ a ∧ a < 3) (hr : 0 ≤ r ∧ r < 5) (ht : 0 ≤ t ∧ t < 9) (x1 : Nx g l 0 3 a q1) (x2 : Nx g l q1 5 r q2) (x3 : Nx g l q2 9 t q3) (x4 : Nx g l q3 5 2 q4) (x5 : Nx g l q4 3000 n q5) (h5 : NumOk l q5) (p : List Int) (hp : p ∈ progs) (hk : V.Spec Tryz.prog (Gl g) 86 [.agg g0C, .c (cI n)] [] (.c (cM 1 (intsD p))) []) : yD g l id := by
 have n6 := h5.next 96
 have n7 := n6.next 96
 have n8 := n7.next 96
 have n9 := n8.next 96
 have n10 := n9.next 96
 have n11 := n10.next 8
 obtain ⟨a', b', ca, cb, hrow⟩ := aKF (g := g) [nxV l q5 96, nxV l (nxK l q5 96) 96, nxV l (nxK l (nxK l q5 96) 96) 96, nxV l (nxK l (nxK l (nxK l q5 96) 96) 96) 96, nxV l (nxK l (nxK l (nxK l (nxK l q5 96) 96) 96) 96) 96] ⟨Int.le_refl _, by simp, by simp⟩
 have y1 := cV (g := g) l _ 96 h5 (by decide)
 have y2 := cV (g := g) l _ 96 n6 (by decide)
 have y3 := cV (g := g) l _ 96 n7 (by decide)
 have y4 := cV (g := g) l _ 96 n8 (by decide)
 have y5 := cV (g := g) l _ 96 n9 (by decide)
 have y6 := cV (g := g) l _ 8 n10 (by decide)
 have v11 := val_ok (g := g) l _ n11
 have vr := tA l (k11 l q5)
 have cells : ∀ v, v ∈ [a', b'] → bY v := by
  intro v hv
  simp only [List.mem_cons, List.not_mem_nil, or_false] at hv
  rcases hv with rfl | rfl
  ·exact ca.ok
  ·exact cb.ok
 rcases tI (g := g) a' b' ca cb p hp with ⟨s, hs, hres⟩ | hres | hres
 ·by_cases c : nxV l (k10 l q5) 8 = 7
  ·obtain ⟨x, hxl, hx⟩ := lL (g := g) _ vr
   have u1 := cV (g := g) l _ 4 (mY n11) (by decide)
   by_cases cu : nxV l (txM l (k11 l q5)).2 4 = 0
   ·refine ⟨⟨id, 1 + a, r, t, 3, [a', b'], none, [105, 115], x, []⟩, ⟨hid, cD (by show 0 ≤ 1 + a; omega) (by show 1 + a < _; omega), cD hr.1 (by show r < _; omega), cD ht.1 (by show t < _; omega), cD (n := 3) (by decide) (by decide), (by show (2 : Nat) ≤ 8; omega), cells, fC, (by show (2 : Nat) ≤ 500; omega), hxl, Nat.zero_le _, (fun y hy => by cases hy)⟩, rfl, ?_⟩
    exact d7 (l := [.i id, .i (1 + a), .i r, .i t, .i 3, .sl 7 [TvD a', TvD b'], .i 0, .s (S []), .i 0, .i 0, .i 0, nlD, nlD, .s (S [105, 115]), .s (S x), nlD]) (mk2O0 _ _ _ _ _ _ _ _ _ _ _ _ _ _ _ _ _ _ _ _ _ _ _ _ _ _ _ _ _ _ _ ⟨decide_eq_true cu, u1, hx, eB, v11, decide_eq_true c, eB, y6, iD, hres, y1, y2, y3, y4, y5, hrow, x5, hk, x1, mE ha.1 ha.2 (by decide), x2, x3, x4⟩) (.cons (.refl _) (.cons (.refl _) (.cons (.refl _) (.cons (.refl _) (.cons (.refl _) (.cons (.refl _) (.cons (.refl _) (.cons (.refl _) (.cons (.refl _) (.cons (.refl _) (.cons (.refl _) (.cons (.nil 1) (.cons (.nil 1) (.cons (.refl _) (.cons (.refl _) (.cons (.nil 1) (.nil)))))))))))))))))
   ·have bs := dJ l (nxK l (txM l (k11 l q5)).2 4) (n := 5) (by decide)
    obtain ⟨sh2, hm2, he2⟩ := nS shapes _ bs.1 bs.2
    have u2 := cV (g := g) l _ 5 (NumOk.next (mY n11) 4) (by decide)
    refine ⟨⟨id, 1 + a, r, t, 3, [a', b'], none, [115, 104, 97, 112, 101], sh2, []⟩, ⟨hid, cD (by show 0 ≤ 1 + a; omega) (by show 1 + a < _; omega), cD hr.1 (by show r < _; omega), cD ht.1 (by show t < _; omega), cD (n := 3) (by decide) (by decide), (by show (2 : Nat) ≤ 8; omega), cells, fC, (by show (5 : Nat) ≤ 500; omega), iH sh2 hm2, Nat.zero_le _, (fun y hy => by cases hy)⟩, rfl, ?_⟩
    exact d7 (l := [.i id, .i (1 + a), .i r, .i t, .i 3, .sl 7 [TvD a', TvD b'], .i 0, .s (S []), .i 0, .i 0, .i 0, nlD, nlD, .s (S [115, 104, 97, 112, 101]), .s (S sh2), nlD]) (mk2O1 _ _ _ _ _ _ _ _ _ _ _ _ _ _ _ _ _ _ _ _ _ _ _ _ _ _ _ _ _ _ _ _ _ _ ⟨u2, ⟨bs.1, he2⟩, decide_eq_false cu, u1, hx, eB, v11, decide_eq_true c, eB, y6, iD, hres, y1, y2, y3, y4, y5, hrow, x5, hk, x1, mE ha.1 ha.2 (by decide), x2, x3, x4⟩) (.cons (.refl _) (.cons (.refl _) (.cons (.refl _) (.cons (.refl _) (.cons (.refl _) (.cons (.refl _) (.cons (.refl _) (.cons (.refl _) (.cons (.refl _) (.cons (.refl _) (.cons (.refl _) (.cons (.nil 1) (.cons (.nil 1) (.cons (.refl _) (.cons (.refl _) (.cons (.nil 1) (.nil)))))))))))))))))
  ·obtain ⟨x, hxl, hx⟩ := lL (g := g) s hs
   have u1 := cV (g := g) l _ 4 n11 (by decide)
   by_cases cu : nxV l (k11 l q5) 4 = 0
   ·refine ⟨⟨id, 1 + a, r, t, 3, [a', b'], none, [105, 115], x, []⟩, ⟨hid, cD (by show 0 ≤ 1 + a; omega) (by show 1 + a < _; omega), cD hr.1 (by show r < _; omega), cD ht.1 (by show t < _; omega), cD (n := 3) (by decide) (by decide), (by show (2 : Nat) ≤ 8; omega), cells, fC, (by show (2 : Nat) ≤ 500; omega), hxl, Nat.zero_le _, (fun y hy => by cases hy)⟩, rfl, ?_⟩
    exact d7 (l := [.i id, .i (1 + a), .i r, .i t, .i 3, .sl 7 [TvD a', TvD b'], .i 0, .s (S []), .i 0, .i 0, .i 0, nlD, nlD, .s (S [105, 115]), .s (S x), nlD]) (mk2T0 _ _ _ _ _ _ _ _ _ _ _ _ _ _ _ _ _ _ _ _ _ _ _ _ _ _ _ _ _ ⟨decide_eq_true cu, u1, hx, decide_eq_false c, eB, y6, iD, hres, y1, y2, y3, y4, y5, hrow, x5, hk, x1, mE ha.1 ha.2 (by decide), x2, x3, x4⟩) (.cons (.refl _) (.cons (.refl _) (.cons (.refl _) (.cons (.refl _) (.cons (.refl _) (.cons (.refl _) (.cons (.refl _) (.cons (.refl _) (.cons (.refl _) (.cons (.refl _) (.cons (.refl _) (.cons (.nil 1) (.cons (.nil 1) (.cons (.refl _) (.cons (.refl _) (.cons (.nil 1) (.nil)))))))))))))))))
   ·have bs := dJ l (nxK l (k11 l q5) 4) (n := 5) (by decide)
    obtain ⟨sh2, hm2, he2⟩ := nS shapes _ bs.1 bs.2
    have u2 := cV (g := g) l _ 5 (NumOk.next n11 4) (by decide)
    refine ⟨⟨id, 1 + a, r, t, 3, [a', b'], none, [115, 104, 97, 112, 101], sh2, []⟩, ⟨hid, cD (by show 0 ≤ 1 + a; omega) (by show 1 + a < _; omega), cD hr.1 (by show r < _; omega), cD ht.1 (by show t < _; omega), cD (n := 3) (by decide) (by decide), (by show (2 : Nat) ≤ 8; omega), cells, fC, (by show (5 : Nat) ≤ 500; omega), iH sh2 hm2, Nat.zero_le _, (fun y hy => by cases hy)⟩, rfl, ?_⟩
    exact d7 (l := [.i id, .i (1 + a), .i r, .i t, .i 3, .sl 7 [TvD a', TvD b'], .i 0, .s (S []), .i 0, .i 0, .i 0, nlD, nlD, .s (S [115, 104, 97, 112, 101]), .s (S sh2), nlD]) (mk2T1 _ _ _ _ _ _ _ _ _ _ _ _ _ _ _ _ _ _ _ _ _ _ _ _ _ _ _ _ _ _ _ _ ⟨u2, ⟨bs.1, he2⟩, decide_eq_false cu, u1, hx, decide_eq_false c, eB, y6, iD, hres, y1, y2, y3, y4, y5, hrow, x5, hk, x1, mE ha.1 ha.2 (by decide), x2, x3, x4⟩) (.cons (.refl _) (.cons (.refl _) (.cons (.refl _) (.cons (.refl _) (.cons (.refl _) (.cons (.refl _) (.cons (.refl _) (.cons (.refl _) (.cons (.refl _) (.cons (.refl _) (.cons (.refl _) (.cons (.nil 1) (.cons (.nil 1) (.cons (.refl _) (.cons (.refl _) (.cons (.nil 1) (.nil)))))))))))))))))
 ·obtain ⟨x, hxl, hx⟩ := lL (g := g) _ vr
  have u1 := cV (g := g) l _ 4 (mY n11) (by decide)
  by_cases cu : nxV l (txM l (k11 l q5)).2 4 = 0
  ·refine ⟨⟨id, 1 + a, r, t, 3, [a', b'], none, [105, 115], x, []⟩, ⟨hid, cD (by show 0 ≤ 1 + a; omega) (by show 1 + a < _; omega), cD hr.1 (by show r < _; omega), cD ht.1 (by show t < _; omega), cD (n := 3) (by decide) (by decide), (by show (2 : Nat) ≤ 8; omega), cells, fC, (by show (2 : Nat) ≤ 500; omega), hxl, Nat.zero_le _, (fun y hy => by cases hy)⟩, rfl, ?_⟩
   exact d7 (l := [.i id, .i (1 + a), .i r, .i t, .i 3, .sl 7 [TvD a', TvD b'], .i 0, .s (S []), .i 0, .i 0, .i 0, nlD, nlD, .s (S [105, 115]), .s (S x), nlD]) (mk2N160 _ _ _ _ _ _ _ _ _ _ _ _ _ _ _ _ _ _ _ _ _ _ _ _ _ _ _ _ _ _ ⟨decide_eq_true cu, u1, hx, eB, v11, eB, y6, iD, hres, y1, y2, y3, y4, y5, hrow, x5, hk, x1, mE ha.1 ha.2 (by decide), x2, x3, x4⟩) (.cons (.refl _) (.cons (.refl _) (.cons (.refl _) (.cons (.refl _) (.cons (.refl _) (.cons (.refl _) (.cons (.refl _) (.cons (.refl _) (.cons (.refl _) (.cons (.refl _) (.cons (.refl _) (.cons (.nil 1) (.cons (.nil 1) (.cons (.refl _) (.cons (.refl _) (.cons (.nil 1) (.nil)))))))))))))))))
  ·have bs := dJ l (nxK l (txM l (k11 l q5)).2 4) (n := 5) (by decide)
   obtain ⟨sh2, hm2, he2⟩ := nS shapes _ bs.1 bs.2
   have u2 := cV (g := g) l _ 5 (NumOk.next (mY n11) 4) (by decide)
   refine ⟨⟨id, 1 + a, r, t, 3, [a', b'], none, [115, 104, 97, 112, 101], sh2, []⟩, ⟨hid, cD (by show 0 ≤ 1 + a; omega) (by show 1 + a < _; omega), cD hr.1 (by show r < _; omega), cD ht.1 (by show t < _; omega), cD (n := 3) (by decide) (by decide), (by show (2 : Nat) ≤ 8; omega), cells, fC, (by show (5 : Nat) ≤ 500; omega), iH sh2 hm2, Nat.zero_le _, (fun y hy => by cases hy)⟩, rfl, ?_⟩
   exact d7 (l := [.i id, .i (1 + a), .i r, .i t, .i 3, .sl 7 [TvD a', TvD b'], .i 0, .s (S []), .i 0, .i 0, .i 0, nlD, nlD, .s (S [115, 104, 97, 112, 101]), .s (S sh2), nlD]) (mk2N161 _ _ _ _ _ _ _ _ _ _ _ _ _ _ _ _ _ _ _ _ _ _ _ _ _ _ _ _ _ _ _ _ _ ⟨u2, ⟨bs.1, he2⟩, decide_eq_false cu, u1, hx, eB, v11, eB, y6, iD, hres, y1, y2, y3, y4, y5, hrow, x5, hk, x1, mE ha.1 ha.2 (by decide), x2, x3, x4⟩) (.cons (.refl _) (.cons (.refl _) (.cons (.refl _) (.cons (.refl _) (.cons (.refl _) (.cons (.refl _) (.cons (.refl _) (.cons (.refl _) (.cons (.refl _) (.cons (.refl _) (.cons (.refl _) (.cons (.nil 1) (.cons (.nil 1) (.cons (.refl _) (.cons (.refl _) (.cons (.nil 1) (.nil)))))))))))))))))
 ·obtain ⟨x, hxl, hx⟩ := lL (g := g) _ vr
  have u1 := cV (g := g) l _ 4 (mY n11) (by decide)
  by_cases cu : nxV l (txM l (k11 l q5)).2 4 = 0
  ·refine ⟨⟨id, 1 + a, r, t, 3, [a', b'], none, [105, 115], x, []⟩, ⟨hid, cD (by show 0 ≤ 1 + a; omega) (by show 1 + a < _; omega), cD hr.1 (by show r < _; omega), cD ht.1 (by show t < _; omega), cD (n := 3) (by decide) (by decide), (by show (2 : Nat) ≤ 8; omega), cells, fC, (by show (2 : Nat) ≤ 500; omega), hxl, Nat.zero_le _, (fun y hy => by cases hy)⟩, rfl, ?_⟩
   exact d7 (l := [.i id, .i (1 + a), .i r, .i t, .i 3, .sl 7 [TvD a', TvD b'], .i 0, .s (S []), .i 0, .i 0, .i 0, nlD, nlD, .s (S [105, 115]), .s (S x), nlD]) (mk2N180 _ _ _ _ _ _ _ _ _ _ _ _ _ _ _ _ _ _ _ _ _ _ _ _ _ _ _ _ _ _ ⟨decide_eq_true cu, u1, hx, eB, v11, eB, y6, iD, hres, y1, y2, y3, y4, y5, hrow, x5, hk, x1, mE ha.1 ha.2 (by decide), x2, x3, x4⟩) (.cons (.refl _) (.cons (.refl _) (.cons (.refl _) (.cons (.refl _) (.cons (.refl _) (.cons (.refl _) (.cons (.refl _) (.cons (.refl _) (.cons (.refl _) (.cons (.refl _) (.cons (.refl _) (.cons (.nil 1) (.cons (.nil 1) (.cons (.refl _) (.cons (.refl _) (.cons (.nil 1) (.nil)))))))))))))))))
  ·have bs := dJ l (nxK l (txM l (k11 l q5)).2 4) (n := 5) (by decide)
   obtain ⟨sh2, hm2, he2⟩ := nS shapes _ bs.1 bs.2
   have u2 := cV (g := g) l _ 5 (NumOk.next (mY n11) 4) (by decide)
   refine ⟨⟨id, 1 + a, r, t, 3, [a', b'], none, [115, 104, 97, 112, 101], sh2, []⟩, ⟨hid, cD (by show 0 ≤ 1 + a; omega) (by show 1 + a < _; omega), cD hr.1 (by show r < _; omega), cD ht.1 (by show t < _; omega), cD (n := 3) (by decide) (by decide), (by show (2 : Nat) ≤ 8; omega), cells, fC, (by show (5 : Nat) ≤ 500; omega), iH sh2 hm2, Nat.zero_le _, (fun y hy => by cases hy)⟩, rfl, ?_⟩
   exact d7 (l := [.i id, .i (1 + a), .i r, .i t, .i 3, .sl 7 [TvD a', TvD b'], .i 0, .s (S []), .i 0, .i 0, .i 0, nlD, nlD, .s (S [115, 104, 97, 112, 101]), .s (S sh2), nlD]) (mk2N181 _ _ _ _ _ _ _ _ _ _ _ _ _ _ _ _ _ _ _ _ _ _ _ _ _ _ _ _ _ _ _ _ _ ⟨u2, ⟨bs.1, he2⟩, decide_eq_false cu, u1, hx, eB, v11, eB, y6, iD, hres, y1, y2, y3, y4, y5, hrow, x5, hk, x1, mE ha.1 ha.2 (by decide), x2, x3, x4⟩) (.cons (.refl _) (.cons (.refl _) (.cons (.refl _) (.cons (.refl _) (.cons (.refl _) (.cons (.refl _) (.cons (.refl _) (.cons (.refl _) (.cons (.refl _) (.cons (.refl _) (.cons (.refl _) (.cons (.nil 1) (.cons (.nil 1) (.cons (.refl _) (.cons (.refl _) (.cons (.nil 1) (.nil)))))))))))))))))
theorem made_ok (l : List Int) (h : NumOk l 0) (id : Int) (hid : nOk id) : yD g l id := by
 have n1 := h.next 3
 have n2 := n1.next 5
 have n3 := n2.next 9
 have n4 := n3.next 5
 have n5 := n4.next 3000
 have ba := dJ l 0 (n := 3) (by decide)
 have br := dJ l (nxK l 0 3) (n := 5) (by decide)
 have bt := dJ l (nxK l (nxK l 0 3) 5) (n := 9) (by decide)
 have bk := dJ l (nxK l (nxK l (nxK l 0 3) 5) 9) (n := 5) (by decide)
 have x1 := cV (g := g) l 0 3 h (by decide)
 have x2 := cV (g := g) l _ 5 n1 (by decide)
 have x3 := cV (g := g) l _ 9 n2 (by decide)
 have x4 := cV (g := g) l _ 5 n3 (by decide)
 have x5 := cV (g := g) l _ 3000 n4 (by decide)
 obtain ⟨p, hp, hk⟩ := pick_ok (g := g) (nxV l (nxK l (nxK l (nxK l (nxK l 0 3) 5) 9) 5) 3000)
 have hc : nxV l (nxK l (nxK l (nxK l 0 3) 5) 9) 5 = 0 ∨ nxV l (nxK l (nxK l (nxK l 0 3) 5) 9) 5 = 1 ∨ nxV l (nxK l (nxK l (nxK l 0 3) 5) 9) 5 = 2 ∨ nxV l (nxK l (nxK l (nxK l 0 3) 5) 9) 5 = 3 ∨ nxV l (nxK l (nxK l (nxK l 0 3) 5) 9) 5 = 4 := by omega
 rcases hc with e | e | e | e | e <;> rw [e] at x4
 ·exact aLN (cD (n := 1) (by decide) (by decide)) mk0T mk0O mk0N16 mk0N18 l id _ _ _ _ _ _ _ _ _ hid ba br bt x1 x2 x3 x4 x5 n5 p hp hk
 ·exact aLN (cD (n := 1) (by decide) (by decide)) mk1T mk1O mk1N16 mk1N18 l id _ _ _ _ _ _ _ _ _ hid ba br bt x1 x2 x3 x4 x5 n5 p hp hk
 ·exact made2 l id _ _ _ _ _ _ _ _ _ hid ba br bt x1 x2 x3 x4 x5 n5 p hp hk
 ·exact aLN (cD (n := 2) (by decide) (by decide)) mk3T mk3O mk3N16 mk3N18 l id _ _ _ _ _ _ _ _ _ hid ba br bt x1 x2 x3 x4 x5 n5 p hp hk
 ·exact made4 l id _ _ _ _ _ _ _ _ _ hid ba br bt x1 x2 x3 x4 x5 n5 p hp hk
theorem aED (what who n author : Int) (l : List Int) (h : NumOk l 0) (hau : nOk author) : ∃ it : It, ItOk it ∧ it.id = 1 + mdV n 4 ∧ it.author = author ∧ V.Spec Tryz.prog (Gl g) 21 [.agg [cI what, cI who, cI n, cM 1 (intsD l)], .c (cI author)] [] (.agg ((ItD it).map .d)) [] := by
 have hb := dB n (m := 4) (by decide)
 obtain ⟨it, hit, hid, hs⟩ := made_ok (g := g) l h (1 + mdV n 4) (cD (by omega) (by omega))
 refine ⟨{ it with author := author }, ⟨hit.id, hau, hit.rank, hit.time, hit.kind, hit.len, hit.cells, hit.output, hit.prop, hit.param, hit.plen, hit.prog⟩, hid, rfl, ?_⟩
 exact actX what who n author (mdV n 4) it.id it.author it.rank it.time it.kind (tvK it.output) l (aR it.input) (intsD it.program) (S (tvS it.output)) (S it.prop) (S it.param) ⟨dF n 4 (by decide) (by decide), mE hb.1 hb.2 (by decide), hs, madeX⟩
end Go.Proofs.YtclaplngjmgnoaaGreatDoor
