/- Part 2 of the proof: texts Eng2. -/
import Derived.Test.YtdejnaokkdndeaaGreatDoorP1
set_option linter.all false
namespace Go.Eng
open Go.RowKit
def inR (x : Int) : Prop := -9223372036854775808 ≤ x ∧ x ≤ 9223372036854775807
def byteAt (s : ByteArray) (i : Int) : Int := ((s.data.toList.getD i.toNat 0).toNat : Int)
def fieldOff (P : Program) (s : TypeId) (f : Nat) : Option Nat :=
 match P.underlying s with
 | some (.struct fs) => match fs[f]? with
  | some fd => match P.info? fd.type with
   | some i => if i.size = 0 then none else some fd.offset
   | none => none
  | none => none
 | _ => none
def idxOff (P : Program) (t : TypeId) (n : Int) : Option Nat :=
 match P.underlying t with
 | some (.array len e) => match P.info? e with
  | some i => if 0 ≤ n ∧ n < (len : Int) then some (n.toNat * i.size) else none
  | none => none
 | _ => none
def isAggB (P : Program) (t : TypeId) : Option Bool :=
 match P.underlying t with
 | some (.struct _) | some (.array _ _) => some true
 | some _ => some false
 | none => none
def loadB (P : Program) (t : TypeId) (cells : List Value) (off : Nat) : Option Value :=
 match isAggB P t with
 | some true => match P.info? t with
  | some i => if off + i.size ≤ cells.length then some (.agg ((cells.drop off).take i.size).toArray) else none
  | none => none
 | some false => cells[off]?
 | none => none
def noSel : Op → Bool
 | .select .. => false
 | _ => true
theorem wrap64_of_inR {x : Int} (h : inR x) : IntKind.i64.wrap x = x := IntWalk.i64_in x ⟨h.1, h.2⟩
theorem addr_add (g off k : Nat) : (⟨g, off, none⟩ : Addr).add k = ⟨g, off + k, none⟩ := by
 unfold Addr.add; split <;> simp_all
section
variable {P : Program} {w : World}
theorem run_fieldAt {s : TypeId} {f k : Nat} (h : fieldOff P s f = some k) (a : Addr) : (Instr.fieldAt s (.pointer (some a)) f).run P w = .ok (.pointer (some (a.add k))) w := by
 unfold fieldOff at h
 split at h
 ·rename_i fs hu
  split at h
  ·rename_i fd hfd
   split at h
   ·rename_i i hi
    split at h
    ·cases h
    ·rename_i hz
     simp only [Option.some.injEq] at h
     subst h
     simp [Instr.fieldAt, run_underlying hu, hfd, Instr.sureAddr, fieldPlace, sizeOf, typeInfo, hi, hz]
   ·cases h
  ·cases h
 ·cases h
theorem run_indexAt {t : TypeId} {kd : IntKind} {n : Int} {k : Nat} (h : idxOff P t n = some k) (a : Addr) : (Instr.indexAt t (.pointer (some a)) (.int kd n)).run P w = .ok (.pointer (some (a.add k))) w := by
 unfold idxOff at h
 split at h
 ·rename_i len e hu
  split at h
  ·rename_i i hi
   split at h
   ·rename_i hb
    simp only [Option.some.injEq] at h
    subst h
    simp [Instr.indexAt, run_underlying hu, asIntOf, Instr.sureAddr, sizeOf, typeInfo, hi, hb]
   ·cases h
  ·cases h
 ·cases h
theorem run_loadB {t : TypeId} {cells : List Value} {off : Nat} {v : Value} {g : Nat} {ty : TypeId} {fz : Nat × Nat} (h : loadB P t cells off = some v) (hg : w.heap[g]? = some (.cells cells.toArray ty fz)) :
  (Instr.loadAt t (.pointer (some ⟨g, off, none⟩))).run P w = .ok v w := by
 unfold loadB at h
 have hcell : ∀ j, w.cell? ⟨g, j, none⟩ = cells[j]? := fun j => by rw [cell_of_row w g j cells.toArray ty fz hg]; simp
 split at h
 ·rename_i hA
  split at h
  ·rename_i i hi
   split at h
   ·rename_i hlen
    simp only [Option.some.injEq] at h
    subst h
    have hl : (loadCells ⟨g, off, none⟩ i.size).run P w = .ok ((cells.drop off).take i.size).toArray w := by
     have := run_loadCells_list (P := P) w ⟨g, off, none⟩ ((cells.drop off).take i.size) (fun j u hu => by
      rw [addr_add, hcell]
      rw [List.getElem?_take] at hu
      split at hu
      ·rw [List.getElem?_drop] at hu; exact hu
      ·cases hu)
     rw [List.length_take, List.length_drop, Nat.min_eq_left (by omega)] at this
     exact this
    have hagg : (isAgg t).run P w = .ok true w := by
     unfold isAggB at hA
     split at hA
     ·rename_i hu; simp [isAgg, run_underlying hu]
     ·rename_i hu; simp [isAgg, run_underlying hu]
     ·cases hA
     ·cases hA
    simp [Instr.loadAt, Instr.sureAddr, loadVar, hagg, sizeOf, typeInfo, hi, hl]
   ·cases h
  ·cases h
 ·rename_i hA
  have hagg : (isAgg t).run P w = .ok false w := by
   unfold isAggB at hA
   split at hA
   ·cases hA
   ·cases hA
   ·rename_i dd h1 h2 hu
    cases dd <;> simp_all [isAgg, run_underlying hu]
   ·cases hA
  simp [Instr.loadAt, Instr.sureAddr, loadVar, hagg, hcell, h]
 ·cases h
end
end Go.Eng
