/- Part 8 of the proof: texts Eng8. -/
import Derived.Test.YtmpgfchkkemngaaGreatDoorP7
import Derived.Laws.BytesArg
set_option linter.all false
namespace Go.Eng
open Go.RowKit
def bytesV (l : List UInt8) : List Value := l.map fun b => .int .u8 (b.toNat : Int)
theorem strOfNums_bytes (l : List UInt8) : strOfNums (l.map fun b => (b.toNat : Int)) = ⟨l.toArray⟩ := by
 unfold strOfNums
 rw [List.map_map]
 have : ((fun n : Int => UInt8.ofNat n.toNat) ∘ fun b : UInt8 => (b.toNat : Int)) = id := by
  funext b
  simp
 rw [this, List.map_id]
def u8 (x : Int) : UInt8 := UInt8.ofNat (x % 256).toNat
theorem wrap_u8 (x : Int) : IntKind.wrap .u8 x = ((u8 x).toNat : Int) := by
 have h : IntKind.wrap .u8 x = x % 256 := by simp [IntKind.wrap, IntKind.bits, IntKind.signed]
 rw [h, u8]
 have h1 := Int.emod_nonneg x (show (256 : Int) ≠ 0 by decide)
 have h2 := Int.emod_lt_of_pos x (show (0 : Int) < 256 by decide)
 simp
 omega
theorem Row.cast {w : World} {e : TypeId} {sz n : Nat} {A : Option Addr} {xs ys : List Value} (h : Row w e sz A n xs) (he : xs = ys) : Row w e sz A n ys := he ▸ h
theorem Own1.cast {w : World} {B : Nat} {e : TypeId} {sz n n' c : Nat} {A : Option Addr} {xs ys : List Value} (h : Own1 w B e sz A n c xs) (hn : n = n') (he : xs = ys) : Own1 w B e sz A n' c ys := by subst hn; subst he; exact h
theorem bytesV_snoc (l : List UInt8) (x : Int) : bytesV l ++ [.int .u8 (IntKind.wrap .u8 x)] = bytesV (l ++ [u8 x]) := by simp [bytesV, wrap_u8]
section
variable {P : Program} {nn : Nat} {ops : Array Oper} {Q : Exit → Act → World → Prop} {own : List Bx} {w w' : World} {env : List En}
def cvO (n : Nat) (ops : Array Oper) (own : List Bx) (env : List En) (o : Oper) : Option (Nat × Path × TypeId × TypeId × Value) :=
 match place n ops env o, o.op with
 | some (t, p), .convert s d x => match lookV env (nums own) p x with
  | some a => some (t, p, s, d, a)
  | none => none
 | _, _ => none
theorem cvXK {o : Oper} {K : Act → World → Prop} {t : Nat} {p : Path} {s d : TypeId} {x : Value} (v : Value) (h : cvO nn ops own env o = some (t, p, s, d, x)) (hrun : imp env p ((convert s d x).run P w = .ok v w))
  (hk : KF nn K (putE env (some t) p (.v v)) own w) : KF nn (wpK P ops Q o K) env own w := by
 intro a hf
 unfold cvO at h
 split at h
 ·rename_i t' p' s' d' x' hpl hop
  split at h
  ·rename_i ad' had
   simp only [Option.some.injEq, Prod.mk.injEq] at h
   obtain ⟨rfl, rfl, rfl, rfl, rfl⟩ := h
   obtain ⟨hd, hpath, htn, hm, hcl, hpt⟩ := place_spec hpl
   unfold wpK
   have hw := wanted_iff hf hpath
   by_cases hh : Holds a p'
   ·rw [if_pos (hw.2 hh)]
    refine .inl ?_
    have hr : (execOp a.eval o).run P w = .ok (.value v) w := by
     unfold execOp
     simp only [hop, lookV_eq hf hh had]
     simp [imp_use hf hh hcl p' (fun _ h => h) hrun]
    unfold Oper.wp
    rw [hr, Oper.upon_value, hd]
    exact hk _ (hf.put htn hm hpt (fun _ => rfl) (fun h => absurd hh h))
   ·rw [if_neg (fun h => hh (hw.1 h)), hd]
    exact hk _ (hf.put htn hm hpt (fun h => absurd h hh) (fun _ => rfl))
  ·cases h
 ·cases h
theorem Row.str {e src dst : TypeId} {A : Option Addr} {n c : Nat} {l : List UInt8} (h : Row w e 1 A n (bytesV l)) (hs : P.underlying src = some (.slice e)) (he : P.underlying e = some (.int .u8)) (hd : P.underlying dst = some .string) :
  (convert src dst (.slice A n c)).run P w = .ok (.string ⟨l.toArray⟩) w := by
 have hl : l.length = n := by have := h.1; simpa [bytesV] using this
 rcases A with _ | ad
 ·have hn : n = 0 := by
   rcases Nat.eq_zero_or_pos n with h0 | h0
   ·exact h0
   ·obtain ⟨b, off, hA⟩ := h.some_ h0; cases hA
  subst hn
  rw [List.eq_nil_of_length_eq_zero hl]
  exact run_convert_bytes_nil w src e hs he 0 c dst hd
 ·rcases Nat.eq_zero_or_pos n with h0 | h0
  ·subst h0
   rw [List.eq_nil_of_length_eq_zero hl]
   rw [run_convert_bytes_string w src dst e _ 0 c hs he hd]
   simp [Conv.bytesToString, loadCells, loadCellsFrom]
   rfl
  ·obtain ⟨b, off, hA⟩ := h.some_ h0
   injection hA with hA
   subst hA
   rw [run_convert_bytes_arg w src e hs he b off n c (l.map fun b => (b.toNat : Int)) (by simpa using hl) (fun i hi => ?_) dst hd, strOfNums_bytes]
   refine h.cell ?_
   simp [bytesV, hl, hi]
end
end Go.Eng
