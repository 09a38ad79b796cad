/- Part 15 of the proof. -/
import Derived.Test.YtgpedhfdniigoaaGreatDoorP14
import Derived.MapKept
set_option linter.all false
namespace Go.V
open Go.RowKit
def aJJ (lk : Lk) : List Operand -> Option (List (Nat × Nat))
 | [] => some []
 | x :: r => match lk [] x,aJJ lk r with
  | some (.c (.bx i off)),some l => some ((i,off) :: l)
  | _,_ => none
def mfE (lk : Lk) (fn : Fn) (first cap : Array Operand) : Option Eff := match fn with
 | .func f => match aJJ lk first.toList,aJJ lk cap.toList with
  | some l,some m => if l.isEmpty && m.isEmpty then none else some ⟨.c (.fn f l m),[],[],[]⟩
  | _,_ => none
 | _ => none
section
variable {P : Program} {fr : Fr} {own : Own} {a : Act} {w w' : World} {pl : Pl} {o : Oper} {p : Path} {lk : Lk}
theorem aA4 (hl : aX a w pl own p lk) (hp : Eng.Holds a p) : ∀ {xs : List Operand} {l : List (Nat × Nat)},aJJ lk xs = some l -> (∀ x ∈ l,∃ ty cs,own x.1 = some (.box ty cs)) /\ xs.map a.eval = l.map (adV pl)
 | [],l,h => by simp only [aJJ,oIQ] at h; subst h; simp
 | x :: r,l,h => by
  simp only [aJJ] at h
  split at h
  rename_i i off l' hx hl'
  simp only [oIQ] at h; subst h
  obtain ⟨h1,h2⟩ := hl [] x _ hx holds_nil hp
  obtain ⟨h3,h4⟩ := aA4 hl hp hl'
  refine ⟨fun y hy => ?_,by simp [h2,h4,adV]⟩
  rcases mc.1 hy with rfl | hy
  exact h1
  exact h3 y hy
  cases h
theorem mfE_ok (m : Mem fr own w pl) (hl : aX a w pl own p lk) (hp : Eng.Holds a p) {fn : Fn} {first cap : Array Operand} (hop : o.op = .makeFunc fn first cap) {e : Eff} (h : mfE lk fn first cap = some e) : Does P fr own a w pl o e := by
 unfold mfE at h
 split at h
 rename_i f
 split at h
 rename_i l c hf hc
 split at h
 cases h
 simp only [oIQ] at h
 subst h
 obtain ⟨h1,h2⟩ := aA4 hl hp hf
 obtain ⟨h3,h4⟩ := aA4 hl hp hc
 refine aJ (v := .func (.func f) (l.map (adV pl)).toArray (c.map (adV pl)).toArray) m ?_ ⟨fun x hx => ?_,rfl⟩
 unfold execOp
 simp only [hop,Instr.makeFunc]
 have e1 : first.map a.eval = (l.map (adV pl)).toArray := by rw [<- h2]; apply Array.ext'; simp
 have e2 : cap.map a.eval = (c.map (adV pl)).toArray := by rw [<- h4]; apply Array.ext'; simp
 rw [e1,e2]
 rfl
 rcases List.mem_append.1 hx with hx | hx
 exact h1 x hx
 exact h3 x hx
 cases h
 cases h
end
section
variable {P : Program} {fr : Fr} {own : Own} {a : Act} {w w' : World} {pl : Pl} {o : Oper} {p : Path} {lk : Lk}
def opY (P : Program) (lk : Lk) (ob : Own) (o : Oper) (nid : Nat) (hint : Hint) : Option Eff := match o.op with
 | .makeFunc fn first cap => mfE lk fn first cap
 | _ => none
theorem opY_ok (m : Mem fr own w pl) (hl : aX a w pl own p lk) (hp : Eng.Holds a p) {ob : Own} {nid : Nat} {hint : Hint} {e : Eff} (h : opY P lk ob o nid hint = some e) (hob : ∀ i ∈ e.touch,own i = ob i) (ho : conj e.obl) : Does P fr own a w pl o e := by
 unfold opY at h
 split at h
 case h_1 => rename_i hop; exact mfE_ok m hl hp hop h
 case h_2 => cases h
end
end Go.V
