/- Part 33 of the proof: texts X8. -/
import Derived.Test.YtclaplngjmgnoaaGreatDoorP32
set_option linter.all false
namespace Go.V
open Go.RowKit
def xG (l : List Nat) (j : Nat) : Bool := l.any (Nat.beq j)
def nodupB : List Nat -> Bool
 | [] => true
 | x :: r => !(xG r x) && nodupB r
theorem hasN_iff {l : List Nat} {j : Nat} : xG l j = true ↔ j ∈ l := by
 unfold xG
 rw [List.any_eq_true]
 constructor
 rintro ⟨x, hx, h⟩; rw [Nat.eq_of_beq_eq_true h]; exact hx
 intro h; exact ⟨j, h, Nat.beq_refl j⟩
theorem jT : ∀ {l : List Nat}, nodupB l = true -> l.Nodup
 | [], _ => List.nodup_nil
 | x :: r, h => by
  simp only [nodupB, bIQ, Bool.not_eq_true'] at h
  refine List.nodup_cons.2 ⟨fun hx => ?_, jT h.2⟩
  rw [hasN_iff.2 hx] at h
  cases h.1
def aAI (own : Own) (keep : Nat -> Bool) : List Nat -> Option aZ
 | [] => some []
 | i :: r => match own i, aAI own keep r with
  | some o, some l => some ((i, j7 own keep o) :: l)
  | _, _ => none
theorem qY {own : Own} {keep : Nat -> Bool} : ∀ {l : List Nat} {p : aZ}, aAI own keep l = some p -> ∀ j, lookO p j = if j ∈ l then (match own j with | some o => some (j7 own keep o) | none => none) else none
 | [], p, h, j => by
  simp only [aAI, oIQ] at h
  subst h
  simp [lookO]
 | i :: r, p, h, j => by
  simp only [aAI] at h
  split at h
  rename_i o l ho hl
  simp only [oIQ] at h
  subst h
  have ih := qY hl j
  by_cases hj : i = j
  subst hj
  simp [lookO, ho]
  have e2 : (i == j) = false := by simpa using hj
  have e3 : j ≠ i := fun h => hj h.symm
  simp only [lookO, e2, List.mem_cons, e3, false_or]
  exact ih
  cases h
def number (l : List Nat) : Nat -> List (Nat × Nat)
 | k => match l with
  | [] => []
  | i :: r => (i, k) :: number r (k + 1)
theorem qZ : ∀ (l : List Nat) (k : Nat), (number l k).map (·.1) = l
 | [], k => by simp [number]
 | i :: r, k => by simp [number, qZ r (k + 1)]
theorem aAJ : ∀ (l : List Nat) (k : Nat) (j : Nat), j ∈ (number l k).map (·.2) -> k <= j
 | [], k, j, h => by simp [number] at h
 | i :: r, k, j, h => by
  simp only [number, List.map_cons, List.mem_cons] at h
  rcases h with rfl | h
  ·exact Nat.le_refl _
  ·exact Nat.le_of_succ_le (aAJ r (k + 1) j h)
theorem tV : ∀ (l : List Nat) (k : Nat), ((number l k).map (·.2)).Nodup
 | [], k => by simp [number]
 | i :: r, k => by
  simp only [number, List.map_cons]
  refine List.nodup_cons.2 ⟨fun h => ?_, tV r (k + 1)⟩
  have := aAJ r (k + 1) k h
  omega
section
variable {P : Program} {G : List (Nat × List Value)}
def topN (T : List (Ent P G)) (ne : List (NE P)) (df : List (EntD P)) (orc : Nat -> Option Bool) (lit : Nat -> Option Value) (F d : Nat) (f : FuncId) (ins : List SV) : Option (SV × aZ × List Prop) :=
 match (aIT T ne df orc lit F nFQ (d + 1)).call 100 f ins .e with
 | some r => match r.sv with
  | .c (.ar i _) =>
   match aAI r.own.get (xG (fR r.own.get 1000 [i] [])) (fR r.own.get 1000 [i] []) with
   | some obs => match s6 (number (fR r.own.get 1000 [i] []) 100) false (aD2 r.own.get (xG (fR r.own.get 1000 [i] [])) r.sv), hJ (number (fR r.own.get 1000 [i] []) 100) obs with
    | some out, some post => bif nodupB (fR r.own.get 1000 [i] []) && (fR r.own.get 1000 [i] []).all (Nat.ble 100) then some (out, post, r.cs) else none
    | _, _ => none
   | none => none
  | _ => none
 | none => none
theorem kM {T : List (Ent P G)} {ne : List (NE P)} {df : List (EntD P)} (orc : Nat -> Option Bool) (lit : Nat -> Option Value) {F d : Nat} {f : FuncId} {ins : List SV} {out : SV} {post : aZ} {cs : List Prop} (hm : P.follows .mixedOrders = true) (h : topN T ne df orc lit F d f ins = some (out, post, cs)) (hc : conj cs) : Spec P G f ins [] out post := by
 unfold topN at h
 split at h
 ·rename_i r hr
  split at h
  ·rename_i i kk hsv
   revert h
   generalize fR r.own.get 1000 [i] [] = ids
   intro h
   split at h
   ·rename_i obs ho
    split at h
    ·rename_i out' post' hout hpost
     cases hb : (nodupB ids && ids.all (Nat.ble 100)) with
     | false => rw [hb] at h; cases h
     | true =>
      rw [hb] at h
      simp only [cond_true, oIQ, pIQ] at h
      obtain ⟨rfl, rfl, rfl⟩ := h
      rw [bIQ] at hb
      obtain ⟨hnd, hall⟩ := hb
      have hnd := jT hnd
      have h100 : ∀ j ∈ ids, 100 <= j := fun j hj => Nat.le_of_ble_eq_true (List.all_eq_true.1 hall j hj)
      obtain ⟨c1, c2, c3⟩ := (mH (T := T) (ne := ne) (df := df) (orc := orc) (lit := lit) (F := F) (hnt := fun _ => none) hm (d + 1)).call _ _ _ _ _ hr
      intro fr w pl args hw hG m ha
      have hE : lookO [] = (Tr.e : Tr Ob).get := by funext i; rfl
      have hX : ∀ i b, (i, b) ∉ fr.X := by
       intro i b hib
       rcases m.bor i b hib with ⟨_, _, h, _⟩ | ⟨_, _, _, _, h⟩ <;> cases h
      refine (c3 fr (lookO []) w pl args hG.G hc (fun i _ => by rw [hE]) m ha).mono ?_
      rintro e w' ⟨v, pl', rfl, m', L, hs⟩
      rw [hE, <- c1] at m' hs
      have hk : bT r.own.get (xG ids) = lookO obs := by
       funext j
       rw [qY ho j]
       unfold bT
       by_cases hj : j ∈ ids
       ·rw [if_pos (hasN_iff.2 hj), if_pos hj]
        cases r.own.get j <;> rfl
       ·rw [if_neg hj]
        cases hq : xG ids j with
        | false => rfl
        | true => exact absurd (hasN_iff.1 hq) hj
      have m1 := jZ (keep := xG ids) m' fun i b h => absurd h (hX i b)
      have s1 := r8 (keep := xG ids) m' (fun i b h => absurd h (hX i b)) hs
      rw [hk] at m1 s1
      obtain ⟨pl2, m2, R⟩ := wN (ij := number ids 100) (tV ids 100) (by rw [qZ]; exact hnd) (fun a b hab hlt => by
       have : a ∈ (number ids 100).map (·.1) := List.mem_map.2 ⟨(a, b), hab, rfl⟩
       rw [qZ] at this
       have := h100 a this
       omega) hpost m1
      exact ⟨v, pl2, rfl, m2, R.s hout s1⟩
    ·cases h
   ·cases h
  ·cases h
 ·cases h
end
def kQ (dp : C -> Option D) (ov : List (Nat × C)) : Nat -> LD -> Option (LD)
 | _, [] => some []
 | j, [d] :: r => match kQ dp ov (j + 1) r with
  | some r' => match ov.lookup j with
   | some c => match dp c with
    | some d' => some ([d'] :: r')
    | none => none
   | none => some ([d] :: r')
  | none => none
 | _, _ => none
def uT (own : Own) : Nat -> C -> Option D
 | 0, _ => none
 | f + 1, c => match c with
  | .d x => some x
  | .ar i k => match own i with
   | some (.arr k' e sz es) => bif Nat.beq k' k then (match e.ov with
    | [] => some (.sl sz es)
    | x :: r => bif Nat.beq sz 1 && !(mkd (x :: r)) then (match kQ (uT own f) (x :: r) 0 es with
     | some es' => some (.sl 1 es')
     | none => none) else none) else none
   | _ => none
  | _ => none
theorem tS {dp : C -> Option D} {ov : List (Nat × C)} : ∀ {es es' : LD} {j : Nat}, kQ dp ov j es = some es' -> es'.length = es.length /\ es'.flatten.length = es.flatten.length /\ (∀ ds ∈ es', ds.length = 1) /\
  ∀ q d', es'.flatten[q]? = some d' -> ∃ d, es.flatten[q]? = some d /\ ((∃ c, ov.lookup (j + q) = some c /\ dp c = some d') \/ (ov.lookup (j + q) = none /\ d' = d))
 | [], es', j, h => by
  simp only [kQ, oIQ] at h
  subst h
  simp
 | [] :: r, es', j, h => by simp [kQ] at h
 | (_ :: _ :: _) :: r, es', j, h => by simp [kQ] at h
 | [d] :: r, es', j, h => by
  simp only [kQ] at h
  split at h
  rename_i r' hr
  obtain ⟨a1, a2, a3, a4⟩ := tS hr
  have tail : ∀ (y : D) q d', ([y] :: r').flatten[q + 1]? = some d' -> ∃ x, ([d] :: r).flatten[q + 1]? = some x /\ ((∃ c, ov.lookup (j + (q + 1)) = some c /\ dp c = some d') \/ (ov.lookup (j + (q + 1)) = none /\ d' = x)) := by
   intro y q d' hq
   obtain ⟨x, hx, hc⟩ := a4 q d' (by simpa using hq)
   exact ⟨x, by simpa using hx, by rw [show j + (q + 1) = j + 1 + q by omega]; exact hc⟩
  split at h
  rename_i c hc
  split at h
  rename_i d1 hd
  simp only [oIQ] at h
  subst h
  refine ⟨by simp [a1], by simp [a2], fun ds hds => ?_, fun q d' hq => ?_⟩
  rcases List.mem_cons.1 hds with rfl | hds
  rfl
  exact a3 ds hds
  cases q with
  | zero =>
   simp only [List.flatten_cons, List.cons_append, List.getElem?_cons_zero, oIQ] at hq
   subst hq
   exact ⟨d, by simp, .inl ⟨c, hc, hd⟩⟩
  | succ q => exact tail _ q d' hq
  cases h
  rename_i hc
  simp only [oIQ] at h
  subst h
  refine ⟨by simp [a1], by simp [a2], fun ds hds => ?_, fun q d' hq => ?_⟩
  rcases List.mem_cons.1 hds with rfl | hds
  rfl
  exact a3 ds hds
  cases q with
  | zero =>
   simp only [List.flatten_cons, List.cons_append, List.getElem?_cons_zero, oIQ] at hq
   subst hq
   exact ⟨d, by simp, .inr ⟨hc, rfl⟩⟩
  | succ q => exact tail _ q d' hq
  cases h
theorem aBC {fr : Fr} {own : Own} {w : World} {pl : Pl} (m : Mem fr own w pl) (hX : ∀ i b, (i, b) ∉ fr.X) : ∀ {f : Nat} {c : C} {d : D} {v : Value}, uT own f c = some d -> COk w pl own c v -> Rd w (Sh pl (lookO [])) d v
 | 0, c, d, v, h, _ => by cases h
 | f + 1, c, d, v, h, hv => by
  have T : ∀ d v, Rd w (Sh pl own) d v -> Rd w (Sh pl (lookO [])) d v := fun d v h => Rd.frame (fun _ _ _ => rfl) (fun _ _ h => ⟨h.1, fun j hj => by simp [aG, lookO] at hj⟩) h
  cases c with
  | d x =>
   simp only [uT, oIQ] at h
   subst h
   exact T _ _ hv
  | ar i k =>
   simp only [uT] at h
   obtain ⟨k', e, sz, es, ho, hkk, hw, h1⟩ := hv
   rw [ho] at h
   simp only at h
   cases hb : Nat.beq k' k with
   | false => rw [hb] at h; cases h
   | true =>
    rw [hb] at h
    simp only [cond_true] at h
    have hk := Nat.eq_of_beq_eq_true hb
    have hblk : ∀ b, (pl.sl i).1.map (·.block) = some b -> Sh pl (lookO []) b := by
     intro b hbb
     have hbi : aG pl own i = some b := by simp only [aG, ho]; exact hbb
     refine ⟨?_, fun j hj => by simp [aG, lookO] at hj⟩
     rcases m.base i b hbi with h2 | h2
     ·exact (m.hS b).2 (.inr h2)
     ·exact absurd h2 (hX i b)
    obtain ⟨e, ov⟩ := e
    split at h
    ·rename_i hov
     have hov : ov = [] := hov
     subst hov
     simp only [oIQ] at h
     subst h
     rw [hw hk]
     exact sJ (m.obj i _ ho) hblk T
    ·rename_i x r hov
     have hov : ov = x :: r := hov
     subst hov
     cases hz : (Nat.beq sz 1 && !(mkd (x :: r))) with
     | false => rw [hz] at h; cases h
     | true =>
      rw [hz] at h
      rw [bIQ, Bool.not_eq_true'] at hz
      obtain ⟨hz, hmk⟩ := hz
      have hz := Nat.eq_of_beq_eq_true hz
      subst hz
      simp only [cond_true] at h
      split at h
      ·rename_i es' hp
       simp only [oIQ] at h
       subst h
       obtain ⟨a1, a2, a3, a4⟩ := tS hp
       obtain ⟨xs, hx, hr, hs⟩ := m.obj i _ ho
       rw [hw hk, <- a1]
       rw [<- a1] at hx
       have hx : ownsQ (mkd (x :: r)) w 0 e 1 (.slice (pl.sl i).1 es'.length (pl.sl i).2) es'.length xs := hx
       rw [hmk] at hx
       refine nC hx hblk ⟨by rw [a2]; exact hr.1, fun q d' u hd hu => ?_⟩ a3
       obtain ⟨d0, hd0, hc⟩ := a4 q d' hd
       have hq := hr.2 q d0 u hd0 hu
       rw [Nat.zero_add] at hc
       rcases hc with ⟨c, hl, hdp⟩ | ⟨hl, rfl⟩
       ·have hq : COk w pl own c u := by
         have := hq
         rw [hl] at this
         exact this
        exact aBC m hX hdp hq
       ·rw [hl] at hq
        exact T _ _ hq
      ·cases h
  | _ => simp [uT] at h
section
variable {P : Program} {G : List (Nat × List Value)}
def topD (T : List (Ent P G)) (ne : List (NE P)) (df : List (EntD P)) (orc : Nat -> Option Bool) (lit : Nat -> Option Value) (F d : Nat) (f : FuncId) (ins : List SV) : Option (SV × List Prop) :=
 match (aIT T ne df orc lit F nFQ (d + 1)).call 100 f ins .e with
 | some r => match r.sv with
  | .c c => match uT r.own.get 20 c with
   | some x => some (.c (.d x), r.cs)
   | none => none
  | _ => none
 | none => none
theorem wE {T : List (Ent P G)} {ne : List (NE P)} {df : List (EntD P)} (orc : Nat -> Option Bool) (lit : Nat -> Option Value) {F d : Nat} {f : FuncId} {ins : List SV} {out : SV} {cs : List Prop} (hm : P.follows .mixedOrders = true) (h : topD T ne df orc lit F d f ins = some (out, cs)) (hc : conj cs) : Spec P G f ins [] out [] := by
 unfold topD at h
 split at h
 rename_i r hr
 split at h
 rename_i c hsv
 split at h
 rename_i x hx
 simp only [oIQ, pIQ] at h
 obtain ⟨rfl, rfl⟩ := h
 obtain ⟨c1, c2, c3⟩ := (mH (T := T) (ne := ne) (df := df) (orc := orc) (lit := lit) (F := F) (hnt := fun _ => none) hm (d + 1)).call _ _ _ _ _ hr
 intro fr w pl args hw hG m ha
 have hE : lookO [] = (Tr.e : Tr Ob).get := by funext i; rfl
 have hX : ∀ i b, (i, b) ∉ fr.X := by
  intro i b hib
  rcases m.bor i b hib with ⟨_, _, h, _⟩ | ⟨_, _, _, _, h⟩ <;> cases h
 refine (c3 fr (lookO []) w pl args hG.G hc (fun i _ => by rw [hE]) m ha).mono ?_
 rintro e w' ⟨v, pl', rfl, m', L, hs⟩
 rw [hE, <- c1] at m' hs
 have hk : bT r.own.get (fun _ => false) = lookO [] := by funext i; simp [bT, lookO]
 refine ⟨v, pl', rfl, ?_, ?_⟩
 rw [<- hk]; exact jZ m' fun i b h => absurd h (hX i b)
 rw [hsv] at hs
 exact aBC m' hX hx hs
 cases h
 cases h
 cases h
end
end Go.V
