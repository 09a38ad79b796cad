/- Part 1 of the proof. -/
import Derived.WalkKit
import Derived.OrdersHeld
import Derived.KernelRfl
import Derived.Deep.LoopGhost
import Derived.Deep.RegionHeld3
import Derived.Maps.AppendAt
import Derived.Deep.AppendLies
import Derived.Laws.BytesArg
set_option linter.all false
namespace Go
theorem _root_.Go.lm.{u,v} {A : Type u} {B : Type v} {l : List A} (f : A -> B) : (l.map f).length = l.length := List.length_map f
theorem _root_.Go.ge.{u} {A : Type u} {l : List A} {i : Nat} (h : i < l.length) : l[i]? = some l[i] := List.getElem?_eq_getElem h
theorem _root_.Go.gsQ.{u} {A : Type u} {i : Nat} {a : A} {l : List A} : l[i]? = some a ↔ ∃ h : i < l.length,l[i] = a := List.getElem?_eq_some_iff
theorem _root_.Go.la.{u} {A : Type u} {a b : List A} : (a ++ b).length = a.length + b.length := List.length_append
theorem _root_.Go.lc.{u} {A : Type u} {a : A} {l : List A} : (a :: l).length = l.length + 1 := rfl
theorem _root_.Go.zl (n : Nat) : 0 ≤ n := Nat.zero_le n
theorem _root_.Go.an {A B : Type} (a : A) (w : Go.World) (f : A -> Go.World -> Go.Result B) : (Go.Result.ok a w).andThen f = f a w := Go.Result.andThen_ok a w f
theorem _root_.Go.gd.{u} {A : Type u} {l : List A} {i : Nat} {a : A} : l.getD i a = l[i]?.getD a := List.getD_eq_getElem?_getD
theorem _root_.Go.mmQ.{u,v} {A : Type u} {B : Type v} {b : B} {f : A -> B} {l : List A} : b ∈ l.map f ↔ ∃ a,a ∈ l ∧ f a = b := List.mem_map
theorem _root_.Go.mc.{u} {A : Type u} {a b : A} {l : List A} : a ∈ b :: l ↔ a = b ∨ a ∈ l := List.mem_cons
theorem _root_.Go.lr (n : Nat) : n ≤ n := Nat.le_refl n
theorem _root_.Go.cz.{u} {A : Type u} {a : A} {l : List A} : (a :: l)[0]? = some a := rfl
theorem _root_.Go.at1.{u} {A : Type u} {p : A -> Bool} {l : List A} : l.all p = true ↔ ∀ x,x ∈ l → p x = true := List.all_eq_true
theorem _root_.Go.mp1.{u,v} {A : Type u} {B : Type v} {f : A -> B} {a : A} {l : List A} : (a :: l).map f = f a :: l.map f := rfl
theorem _root_.Go.lnQ.{u} {A : Type u} : ([] : List A).length = 0 := rfl
theorem _root_.Go.me.{u,v} {A : Type u} {b : A} {B : Type v} {x : Option B} {f : B -> A} : x.map f = some b ↔ ∃ a,x = some a ∧ f a = b := Option.map_eq_some_iff
theorem _root_.Go.lt1.{u} {A : Type u} {i : Nat} {l : List A} : (l.take i).length = min i l.length := List.length_take
theorem _root_.Go.tl.{u} {A : Type u} {i : Nat} {l : List A} (h : l.length ≤ i) : l.take i = l := List.take_of_length_le h
abbrev _root_.Go.nFQ.{u,v} {A : Sort u} {B : Type v} : A -> Option B := fun _ => none
theorem _root_.Go.oIQ.{u} {A : Type u} (a b : A) : (some a = some b) = (a = b) := Option.some.injEq a b
theorem _root_.Go.pIQ.{u,v} {A : Type u} {B : Type v} (a : A) (b : B) (c : A) (d : B) : ((a,b) = (c,d)) = (a = c /\ b = d) := Prod.mk.injEq a b c d
theorem _root_.Go.bIQ (a b : Bool) : ((a && b) = true) = (a = true /\ b = true) := Bool.and_eq_true a b
theorem _root_.Go.blS : (∀ (p : Prop) [Decidable p],(decide p = true) = p) /\ (∀ (p : Prop) [Decidable p],(decide p = false) = ¬ p) /\ (∀ a b : Bool,((a && b) = true) = (a = true /\ b = true)) /\ (∀ a b : Bool,((a || b) = true) = (a = true \/ b = true)) /\ (∀ a b : Bool,((a && b) = false) = (a = false \/ b = false)) /\ (∀ a b : Bool,((a || b) = false) = (a = false /\ b = false)) /\ (∀ b : Bool,((!b) = true) = (b = false)) /\ (∀ b : Bool,((!b) = false) = (b = true)) :=
  ⟨fun p _ => decide_eq_true_eq,fun p _ => propext decide_eq_false_iff_not,fun a b => bIQ a b,fun a b => Bool.or_eq_true a b,fun a b => propext (Bool.and_eq_false_iff),fun a b => propext (Bool.or_eq_false_iff),fun b => Bool.not_eq_true' b,fun b => Bool.not_eq_false' b⟩
end Go
namespace Go.Eng
open Go.RowKit
def red {α : Type} (P : Program) : Sem α -> Option α
 | .pure a => some a
 | .program k => red P (k P)
 | .mark _ k => red P k
 | _ => none
theorem red_run {α : Type} {P : Program} {w : World} : ∀ {s : Sem α} {a : α},red P s = some a -> s.run P w = .ok a w
 | .pure _,_,h => by simp only [red,oIQ] at h; rw [h]; rfl
 | .program k,_,h => by simp only [red] at h; exact red_run (s := k P) h
 | .mark _ k,_,h => by simp only [red] at h; exact red_run (s := k) h
 | .load ..,_,h => by simp [red] at h
 | .store ..,_,h => by simp [red] at h
 | .new ..,_,h => by simp [red] at h
 | .shape ..,_,h => by simp [red] at h
 | .freeze ..,_,h => by simp [red] at h
 | .frozen ..,_,h => by simp [red] at h
 | .getObj ..,_,h => by simp [red] at h
 | .setObj ..,_,h => by simp [red] at h
 | .choose ..,_,h => by simp [red] at h
 | .sys ..,_,h => by simp [red] at h
 | .halt ..,_,h => by simp [red] at h
abbrev Path := List (Nat × Bool)
def sub (p q : Path) : Bool := p.all fun x => q.any fun y => x.1 == y.1 && x.2 == y.2
def Holds (a : Act) (p : Path) : Prop := ∀ x ∈ p,a.tmps.getD x.1 undef = .bool x.2
theorem sub_holds {a : Act} {p q : Path} (h : sub p q = true) (hq : Holds a q) : Holds a p := by
 intro x hx
 simp only [sub,at1,List.any_eq_true,bIQ,beq_iff_eq] at h
 obtain ⟨y,hy,h1,h2⟩ := h x hx
 rw [h1,h2]
 exact hq y hy
theorem put_getD (a : Act) (t : Nat) (v : Value) (u : Nat) (h : t < a.tmps.size) : (a.put (some t) v).tmps.getD u undef = if u = t then v else a.tmps.getD u undef := by
 simp only [Act.put,Array.getD_eq_getD_getElem?]
 by_cases hu : u = t
 subst hu; simp [h]
 simp [hu,Array.getElem?_setIfInBounds_ne (Ne.symm hu)]
theorem holds_put {a : Act} {t : Nat} {v : Value} {p : Path} (ht : t < a.tmps.size) (hp : ∀ x ∈ p,x.1 ≠ t) : Holds (a.put (some t) v) p ↔ Holds a p := by
 constructor
 intro h x hx; have := h x hx; rw [put_getD _ _ _ _ ht,if_neg (hp x hx)] at this; exact this
 intro h x hx; rw [put_getD _ _ _ _ ht,if_neg (hp x hx)]; exact h x hx
theorem getD_of_size {a : Act} {t : Nat} {v : Value} (h : a.tmps.getD t undef = v) (hv : v ≠ undef) : a.tmps[t]? = some v := by
 rw [Array.getD_eq_getD_getElem?] at h
 cases hh : a.tmps[t]? with
 | none => rw [hh] at h; simp at h; exact absurd h.symm hv
 | some x => rw [hh] at h; simp at h; rw [h]
end Go.Eng
namespace Go.Eng
open Go.RowKit
def inR (x : Int) : Prop := -9223372036854775808 <= x /\ x <= 9223372036854775807
def byteAt (s : ByteArray) (i : Int) : Int := ((s.data.toList.getD i.toNat 0).toNat : Int)
def fieldOff (P : Program) (s : TypeId) (f : Nat) : Option Nat :=
 match P.underlying s with
 | some (.struct fs) => match fs[f]? with
  | some fd => match P.info? fd.type with
   | some i => if i.size = 0 then none else some fd.offset
   | none => none
  | none => none
 | _ => none
def idxOff (P : Program) (t : TypeId) (n : Int) : Option Nat :=
 match P.underlying t with
 | some (.array len e) => match P.info? e with
  | some i => if 0 <= n /\ n < (len : Int) then some (n.toNat * i.size) else none
  | none => none
 | _ => none
def isAggB (P : Program) (t : TypeId) : Option Bool :=
 match P.underlying t with
 | some (.struct _) | some (.array _ _) => some true
 | some _ => some false
 | none => none
def loadB (P : Program) (t : TypeId) (cells : List Value) (off : Nat) : Option Value :=
 match isAggB P t with
 | some true => match P.info? t with
  | some i => if off + i.size <= cells.length then some (.agg ((cells.drop off).take i.size).toArray) else none
  | none => none
 | some false => cells[off]?
 | none => none
def noSel : Op -> Bool
 | .select .. => false
 | _ => true
theorem wrap64_of_inR {x : Int} (h : inR x) : IntKind.i64.wrap x = x := IntWalk.i64_in x ⟨h.1,h.2⟩
theorem addr_add (g off k : Nat) : (⟨g,off,none⟩ : Addr).add k = ⟨g,off + k,none⟩ := by
 unfold Addr.add; split <;> simp_all
section
variable {P : Program} {w : World}
theorem run_fieldAt {s : TypeId} {f k : Nat} (h : fieldOff P s f = some k) (a : Addr) : (Instr.fieldAt s (.pointer (some a)) f).run P w = .ok (.pointer (some (a.add k))) w := by
 unfold fieldOff at h
 split at h
 rename_i fs hu
 split at h
 rename_i fd hfd
 split at h
 rename_i i hi
 split at h
 cases h
 rename_i hz
 simp only [oIQ] at h
 subst h
 simp [Instr.fieldAt,run_underlying hu,hfd,Instr.sureAddr,fieldPlace,sizeOf,typeInfo,hi,hz]
 cases h
 cases h
 cases h
theorem run_indexAt {t : TypeId} {kd : IntKind} {n : Int} {k : Nat} (h : idxOff P t n = some k) (a : Addr) : (Instr.indexAt t (.pointer (some a)) (.int kd n)).run P w = .ok (.pointer (some (a.add k))) w := by
 unfold idxOff at h
 split at h
 rename_i len e hu
 split at h
 rename_i i hi
 split at h
 rename_i hb
 simp only [oIQ] at h
 subst h
 simp [Instr.indexAt,run_underlying hu,asIntOf,Instr.sureAddr,sizeOf,typeInfo,hi,hb]
 cases h
 cases h
 cases h
theorem run_loadB {t : TypeId} {cells : List Value} {off : Nat} {v : Value} {g : Nat} {ty : TypeId} {fz : Nat × Nat} (h : loadB P t cells off = some v) (hg : w.heap[g]? = some (.cells cells.toArray ty fz)) :
  (Instr.loadAt t (.pointer (some ⟨g,off,none⟩))).run P w = .ok v w := by
 unfold loadB at h
 have hcell : ∀ j,w.cell? ⟨g,j,none⟩ = cells[j]? := fun j => by rw [cell_of_row w g j cells.toArray ty fz hg]; simp
 split at h
 rename_i hA
 split at h
 rename_i i hi
 split at h
 rename_i hlen
 simp only [oIQ] at h
 subst h
 have hl : (loadCells ⟨g,off,none⟩ i.size).run P w = .ok ((cells.drop off).take i.size).toArray w := by
  have := run_loadCells_list (P := P) w ⟨g,off,none⟩ ((cells.drop off).take i.size) (fun j u hu => by
   rw [addr_add,hcell]
   rw [List.getElem?_take] at hu
   split at hu
   rw [List.getElem?_drop] at hu; exact hu
   cases hu)
  rw [lt1,List.length_drop,Nat.min_eq_left (by omega)] at this
  exact this
 have hagg : (isAgg t).run P w = .ok true w := by
  unfold isAggB at hA
  split at hA
  rename_i hu; simp [isAgg,run_underlying hu]
  rename_i hu; simp [isAgg,run_underlying hu]
  cases hA
  cases hA
 simp [Instr.loadAt,Instr.sureAddr,loadVar,hagg,sizeOf,typeInfo,hi,hl]
 cases h
 cases h
 rename_i hA
 have hagg : (isAgg t).run P w = .ok false w := by
  unfold isAggB at hA
  split at hA
  cases hA
  cases hA
  rename_i dd h1 h2 hu
  cases dd <;> simp_all [isAgg,run_underlying hu]
  cases hA
 simp [Instr.loadAt,Instr.sureAddr,loadVar,hagg,hcell,h]
 cases h
end
end Go.Eng
namespace Go.Eng
open Go.RowKit
section
variable {P : Program} {n : Nat} {ops : Array Oper} {Q : Exit -> Act -> World -> Prop} {w : World}
end
end Go.Eng
namespace Go.Eng
open Go.RowKit
section
variable {P : Program} {n : Nat} {ops : Array Oper} {Q : Exit -> Act -> World -> Prop} {w : World}
def resRun (tmps : Array Value) : ResultVar -> Sem Value
 | .tmp t => pure (tmps.getD t undef)
 | .cell a t => do loadVar t (<- asAddr (tmps.getD a undef))
theorem results_eq (fn : Func) (tmps : Array Value) : results fn tmps = (do let vs <- fn.results.mapM (resRun tmps); pure (if h : vs.size = 1 then vs[0] else .tuple vs)) := by
 have : (fun r => match r with | .tmp t => pure (tmps.getD t undef) | .cell x t => do loadVar t (<- asAddr (tmps.getD x undef)) : ResultVar -> Sem Value) = resRun tmps := by
  funext r; cases r <;> rfl
 unfold results
 rw [<- this]
 rfl
end
end Go.Eng
namespace Go.Eng
open Go.RowKit
section
variable {P : Program} {n : Nat} {ops : Array Oper} {Q : Exit -> Act -> World -> Prop} {S : World -> Prop} {w : World}
end
end Go.Eng
namespace Go.Eng
open Go.RowKit
section
variable {P : Program} {n : Nat} {ops : Array Oper} {Q : Exit -> Act -> World -> Prop} {w : World}
end
section
variable {P : Program} {w w' : World} {e : TypeId} {sz n : Nat} {A : Option Addr} {xs : List Value}
end
end Go.Eng
namespace Go.Eng
open Go.RowKit
section
variable {P : Program} {w w' : World} {B : Nat} {e : TypeId} {sz n c : Nat} {A : Option Addr} {xs : List Value}
end
section
variable {P : Program} {nn : Nat} {ops : Array Oper} {Q : Exit -> Act -> World -> Prop} {w : World}
end
end Go.Eng
namespace Go.Eng
open Go.RowKit
def dD (l : List UInt8) : List Value := l.map fun b => .int .u8 (b.toNat : Int)
theorem strOfNums_bytes (l : List UInt8) : strOfNums (l.map fun b => (b.toNat : Int)) = ⟨l.toArray⟩ := by
 unfold strOfNums
 rw [List.map_map]
 have : ((fun n : Int => UInt8.ofNat n.toNat) ∘ fun b : UInt8 => (b.toNat : Int)) = id := by
  funext b
  simp
 rw [this,List.map_id]
def u8 (x : Int) : UInt8 := UInt8.ofNat (x % 256).toNat
theorem wrap_u8 (x : Int) : IntKind.wrap .u8 x = ((u8 x).toNat : Int) := by
 have h : IntKind.wrap .u8 x = x % 256 := by simp [IntKind.wrap,IntKind.bits,IntKind.signed]
 rw [h,u8]
 have h1 := Int.emod_nonneg x (show (256 : Int) ≠ 0 by decide)
 have h2 := Int.emod_lt_of_pos x (show (0 : Int) < 256 by decide)
 simp
 omega
section
variable {P : Program} {nn : Nat} {ops : Array Oper} {Q : Exit -> Act -> World -> Prop} {w w' : World}
end
end Go.Eng
