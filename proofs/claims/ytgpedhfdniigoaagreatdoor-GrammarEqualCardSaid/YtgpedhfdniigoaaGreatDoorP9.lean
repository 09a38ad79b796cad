/- Part 9 of the proof. -/
import Derived.Test.YtgpedhfdniigoaaGreatDoorP8
set_option linter.all false
namespace Go.V
open Go.RowKit
def lookO : List (Nat × Ob) -> Own
 | [],_ => none
 | (j,o) :: r,i => if j == i then some o else lookO r i
def Spec (P : Program) (G : List (Nat × List Value)) (f : FuncId) (ins : List SV) (refs : List (Nat × Ob)) (out : SV) (post : List (Nat × Ob)) : Prop :=
 ∀ (fr : Fr) (w : World) (pl : Pl) (args : List Value),fr.w0 = w -> FrIs fr G [] -> Mem fr (lookO refs) w pl -> All2 (aV w pl (lookO refs)) ins args ->
  Calls P f args.toArray w fun e w' => ∃ v pl',e = .returned v /\ Mem fr (lookO post) w' pl' /\ aV w' pl' (lookO post) out v
section
variable {P : Program} {fr : Fr} {own own' : Own} {a : Act} {w w' : World} {pl pl' : Pl} {o : Oper} {p : Path} {lk : Lk}
theorem Mem.change (h : Mem fr own w pl) (U : Nat -> Prop) (hsame : ∀ j,¬ U j -> own' j = own j /\ pl'.blk j = pl.blk j /\ pl'.sl j = pl.sl j) (hS : pl'.S = pl.S)
  (hw : ∀ b,b < w.heap.size -> (∀ i,U i -> aM pl own i ≠ some b) -> w'.heap[b]? = w.heap[b]?)
  (hbx : ∀ i ty cs,U i -> own i = some (.box ty cs) -> (∃ ty cs,own' i = some (.box ty cs)) /\ pl'.blk i = pl.blk i)
  (har : ∀ i,U i -> ∀ k e sz es,own i = some (.arr k e sz es) -> ∃ k' e' sz' es',own' i = some (.arr k' e' sz' es') /\ k < k')
  (hnew : ∀ i b,U i -> aM pl' own' i = some b -> aM pl own i = some b \/ w.heap.size <= b)
  (hinj : ∀ i j b,U i -> U j -> aM pl' own' i = some b -> aM pl' own' j = some b -> i = j)
  (hobj : Later w pl own w' pl' own' -> ∀ i o,U i -> own' i = some o -> ObOk 0 w' pl' own' i o)
  (os : w'.os = w.os) (tape : w'.tape = w.tape) (output : w'.output = w.output) (grow : w.heap.size <= w'.heap.size) (hpin : ∀ i ty cs b,U i -> own' i = some (.box ty cs) -> ty.pin = some b -> pl'.blk i = b) : Mem fr own' w' pl' /\ Later w pl own w' pl' own' := by
 have hblk : ∀ j,¬ U j -> aM pl' own' j = aM pl own j := fun j hj => f4 (hsame j hj).1 (hsame j hj).2.1 (hsame j hj).2.2
 have hold : ∀ j b,aM pl' own' j = some b -> aM pl own j = some b \/ (U j /\ w.heap.size <= b) := by
  intro j b hb
  by_cases hu : U j
  exact (hnew j b hu hb).imp id (fun h => ⟨hu,h⟩)
  rw [hblk j hu] at hb; exact .inl hb
 have L : Later w pl own w' pl' own' := by
  refine ⟨fun b hb hs => ⟨hw b hb (fun i _ => hs.2 i),by rw [hS]; exact hs.1,fun j hj => ?_⟩,fun j ty cs hj => ?_,fun j k e sz es hj => ?_⟩
  rcases hold j b hj with h1 | h1
  exact hs.2 j h1
  omega
  by_cases hu : U j
  exact hbx j ty cs hu hj
  exact ⟨⟨ty,cs,by rw [(hsame j hu).1]; exact hj⟩,(hsame j hu).2.1⟩
  by_cases hu : U j
  obtain ⟨k',e',sz',es',h1,h2⟩ := har j hu k e sz es hj
  exact ⟨k',e',sz',es',h1,by omega,fun hh => by omega⟩
  exact ⟨k,e,sz,es,by rw [(hsame j hu).1]; exact hj,lr _,fun _ => ⟨rfl,rfl,(hsame j hu).2.2⟩⟩
 refine ⟨⟨h.frOk,fun b => by rw [hS]; exact h.hS b,?_,?_,?_,?_,os.trans h.os,tape.trans h.tape,output.trans h.output,Nat.le_trans h.grow grow,?_,fun j ty cs b hj hb => ?_⟩,L⟩
 intro j o ho
 by_cases hu : U j
 exact hobj L j o hu ho
 rw [(hsame j hu).1] at ho
 exact ObOk.later L (hsame j hu).2.1 (hsame j hu).2.2 ho (fun b hb => hw b (h.blk_lt hb) (fun i hi hib => hu (h.inj j i b hb hib ▸ hi))) (h.obj j o ho)
 intro i j b hi hj
 rcases hold i b hi with h1 | ⟨u1,h1⟩ <;> rcases hold j b hj with h2 | ⟨u2,h2⟩
 exact h.inj i j b h1 h2
 have := h.blk_lt h1; omega
 have := h.blk_lt h2; omega
 exact hinj i j b u1 u2 hi hj
 intro j b hj
 rcases hold j b hj with h1 | ⟨_,h1⟩
 exact h.base j b h1
 exact .inl (Nat.le_trans h.grow h1)
 intro j b hj
 rcases h.bor j b hj with ⟨ty,cs,h1,h2⟩ | ⟨k,e,sz,es,h1⟩
 by_cases hu : U j
 obtain ⟨⟨ty',cs',h3⟩,h4⟩ := hbx j ty cs hu h1
 exact .inl ⟨ty',cs',h3,by rw [h4]; exact h2⟩
 exact .inl ⟨ty,cs,by rw [(hsame j hu).1]; exact h1,by rw [(hsame j hu).2.1]; exact h2⟩
 by_cases hu : U j
 obtain ⟨k',e',sz',es',h3,_⟩ := har j hu k e sz es h1
 exact .inr ⟨k',e',sz',es',h3⟩
 exact .inr ⟨k,e,sz,es,by rw [(hsame j hu).1]; exact h1⟩
 intro b hb hX
 rw [<- h.keep b hb hX]
 refine hw b (Nat.lt_of_lt_of_le hb h.grow) (fun i _ hib => ?_)
 rcases h.base i b hib with h1 | h1
 omega
 exact hX i h1
 by_cases hu : U j
 exact hpin j ty cs b hu hj hb
 rw [(hsame j hu).1] at hj
 rw [(hsame j hu).2.1]
 exact h.pin j ty cs b hj hb
def argC (ob : Own) (rs : List Nat) : C -> Option (C × List Nat)
 | .d x => some (.d x,[])
 | .pg g off => some (.pg g off,[])
 | .ar j k => match ob j with
  | some (.arr k' ⟨_,[]⟩ sz es) => if k' == k then some (.d (.sl sz es),[j]) else none
  | _ => none
 | .bx j 0 => match rs.idxOf? j with
  | some r => some (.bx r 0,[])
  | none => none
 | _ => none
def aM0 (ob : Own) (rs : List Nat) : List C -> Option (List C × List Nat)
 | [] => some ([],[])
 | c :: r => match argC ob rs c,aM0 ob rs r with
  | some (x,t),some (l,u) => some (x :: l,t ++ u)
  | _,_ => none
def argS (ob : Own) (rs : List Nat) : SV -> Option (SV × List Nat)
 | .c x => match argC ob rs x with
  | some (y,t) => some (.c y,t)
  | none => none
 | .agg xs => match aM0 ob rs xs with
  | some (ys,t) => some (.agg ys,t)
  | none => none
 | .tup _ => none
def aD9 (ob : Own) (rs : List Nat) : List SV -> Option (List SV × List Nat)
 | [] => some ([],[])
 | c :: r => match argS ob rs c,aD9 ob rs r with
  | some (x,t),some (l,u) => some (x :: l,t ++ u)
  | _,_ => none
def vD (ob : Own) : Nat -> List Nat -> Option (List (Nat × Ob))
 | _,[] => some []
 | k,j :: r => match ob j with
  | some (.box ty cells) => match hV cells,vD ob (k + 1) r with
   | some ds,some l => some ((k,.box ty (ds.map .d)) :: l)
   | _,_ => none
  | _ => none
theorem rL {ob : Own} : ∀ {rs : List Nat} {k : Nat} {l : List (Nat × Ob)},vD ob k rs = some l ->
  (∀ i,lookO l i = match (if k <= i then rs[i - k]? else none) with
   | some j => (match ob j with | some (.box ty cells) => (hV cells).map fun ds => .box ty (ds.map .d) | _ => none)
   | none => none) /\ ∀ j ∈ rs,∃ ty cells ds,ob j = some (.box ty cells) /\ hV cells = some ds
 | [],k,l,h => by
  simp only [vD,oIQ] at h
  subst h
  refine ⟨fun i => ?_,by simp⟩
  simp [lookO]
 | j :: r,k,l,h => by
  simp only [vD] at h
  split at h
  rename_i ty cells hj
  split at h
  rename_i ds l' hds hl'
  simp only [oIQ] at h
  subst h
  obtain ⟨h1,h2⟩ := rL hl'
  refine ⟨fun i => ?_,fun x hx => ?_⟩
  simp only [lookO]
  by_cases hik : k = i
  subst hik
  simp [hj,hds]
  have : (k == i) = false := by simpa using hik
  rw [this,h1 i]
  simp only [Bool.false_eq_true,if_false]
  by_cases hle : k + 1 <= i
  rw [if_pos hle,if_pos (by omega)]
  have : i - k = (i - (k + 1)) + 1 := by omega
  rw [this,List.getElem?_cons_succ]
  rw [if_neg hle,if_neg (by omega)]
  rcases mc.1 hx with rfl | hx
  exact ⟨ty,cells,ds,hj,hds⟩
  exact h2 x hx
  cases h
  cases h
end
end Go.V
