/- Part 2 of the proof: texts Eng2. -/
import Derived.Test.YtmpgfchkkemngaaGreatDoorP1
set_option linter.all false
namespace Go.Eng
open Go.RowKit
structure OwnOk (w : World) (own : List Bx) : Prop where
 at_ : ∀ (i : Nat) (b : Bx), own[i]? = some b → w.heap[b.num]? = some (.cells b.cells.toArray b.ty (0, 0))
 inj : ∀ (i j : Nat) (b c : Bx), own[i]? = some b → own[j]? = some c → b.num = c.num → i = j
def inR (x : Int) : Prop := -9223372036854775808 ≤ x ∧ x ≤ 9223372036854775807
def byteAt (s : ByteArray) (i : Int) : Int := ((s.data.toList.getD i.toNat 0).toNat : Int)
def fieldOff (P : Program) (s : TypeId) (f : Nat) : Option Nat :=
 match P.underlying s with
 | some (.struct fs) => match fs[f]? with
  | some fd => match P.info? fd.type with
   | some i => if i.size = 0 then none else some fd.offset
   | none => none
  | none => none
 | _ => none
def idxOff (P : Program) (t : TypeId) (n : Int) : Option Nat :=
 match P.underlying t with
 | some (.array len e) => match P.info? e with
  | some i => if 0 ≤ n ∧ n < (len : Int) then some (n.toNat * i.size) else none
  | none => none
 | _ => none
def isAggB (P : Program) (t : TypeId) : Option Bool :=
 match P.underlying t with
 | some (.struct _) | some (.array _ _) => some true
 | some _ => some false
 | none => none
def loadB (P : Program) (t : TypeId) (cells : List Value) (off : Nat) : Option Value :=
 match isAggB P t with
 | some true => match P.info? t with
  | some i => if off + i.size ≤ cells.length then some (.agg ((cells.drop off).take i.size).toArray) else none
  | none => none
 | some false => cells[off]?
 | none => none
def okP : Option Prop → Prop
 | none => True
 | some c => c
def noSel : Op → Bool
 | .select .. => false
 | _ => true
def gen (P : Program) (env : List En) (ns : List Nat) (p : Path) (o : Oper) : Option (SV × Option Prop) :=
 if noSel o.op && o.op.operands.toList.all (fun x => (lookS env p x).isSome) then
  match red P (execOp (look env ns p) o) with
  | some (.value v) => some (.v v, none)
  | _ => none
 else none
def opS (P : Program) (env : List En) (own : List Bx) (p : Path) (o : Oper) : Option (SV × Option Prop) :=
 match o.op with
 | .move x | .assign x => match lookS env p x with
  | some sv => some (sv, none)
  | none => none
 | .pick (.tmp c) a b =>
  match lookV env (nums own) p (.tmp c), lookV env (nums own) ((c, true) :: p) a, lookV env (nums own) ((c, false) :: p) b with
  | some (.bool k), some (.bool x), some (.bool y) => some (.v (.bool (bif k then x else y)), none)
  | _, _, _ => none
 | .nilCheck x => match lookS env p x with
  | some (.box i off) => some (.box i off, none)
  | _ => gen P env (nums own) p o
 | .fieldAddr s x f => match lookS env p x with
  | some (.box i off) => match fieldOff P s f with
   | some k => some (.box i (off + k), none)
   | none => none
  | _ => gen P env (nums own) p o
 | .indexAddr t x i => match lookS env p x, lookV env (nums own) p i with
  | some (.box j off), some (.int _ n) => match idxOff P t n with
   | some k => some (.box j (off + k), none)
   | none => none
  | some (.v (.pointer (some a))), some (.int _ n) => match P.underlying t with
   | some (.array len e) => match P.info? e with
    | some ti => some (.v (.pointer (some (a.add (n.toNat * ti.size)))), some (0 ≤ n ∧ n < (len : Int)))
    | none => none
   | _ => none
  | some (.v (.slice (some a) len _)), some (.int _ n) => match P.underlying t with
   | some (.slice e) => match P.info? e with
    | some ti => some (.v (.pointer (some (a.add (n.toNat * ti.size)))), some (0 ≤ n ∧ n < (len : Int)))
    | none => none
   | _ => none
  | _, _ => none
 | .load t x => match lookS env p x with
  | some (.box i off) => match own[i]? with
   | some b => match loadB P t b.cells off with
    | some v => some (.v v, none)
    | none => none
   | none => none
  | _ => none
 | .binOp op _ x y _ => match op, lookV env (nums own) p x, lookV env (nums own) p y with
  | .add, some (.int .i64 a), some (.int .i64 b) => some (.v (.int .i64 (a + b)), some (inR (a + b)))
  | .sub, some (.int .i64 a), some (.int .i64 b) => some (.v (.int .i64 (a - b)), some (inR (a - b)))
  | .mul, some (.int .i64 a), some (.int .i64 b) => some (.v (.int .i64 (a * b)), some (inR (a * b)))
  | .quo, some (.int .i64 a), some (.int .i64 b) => some (.v (.int .i64 (a.tdiv b)), some (b ≠ 0 ∧ inR (a.tdiv b)))
  | .rem, some (.int .i64 a), some (.int .i64 b) => some (.v (.int .i64 (a.tmod b)), some (b ≠ 0))
  | .shr, some (.int .i64 a), some (.int _ b) => some (.v (.int .i64 (Int.fdiv a (2 ^ min b.toNat 64))), some (0 ≤ b))
  | .add, some (.string a), some (.string b) => some (.v (.string (a ++ b)), some (a.size + b.size ≤ maxLen))
  | _, _, _ => gen P env (nums own) p o
 | .index t x i => match P.underlying t, lookV env (nums own) p x, lookV env (nums own) p i with
  | some .string, some (.string s), some (.int _ n) => some (.v (.int .u8 (byteAt s n)), some (0 ≤ n ∧ n < (s.size : Int)))
  | _, _, _ => gen P env (nums own) p o
 | .slice t x (some lo) (some hi) none => match P.underlying t, lookV env (nums own) p x, lookV env (nums own) p lo, lookV env (nums own) p hi with
  | some .string, some (.string s), some (.int _ l), some (.int _ h) => some (.v (.string (s.extract l.toNat h.toNat)), some (0 ≤ l ∧ l ≤ h ∧ h ≤ (s.size : Int)))
  | _, _, _, _ => none
 | .slice t x (some lo) none none => match P.underlying t, lookV env (nums own) p x, lookV env (nums own) p lo with
  | some .string, some (.string s), some (.int _ l) => some (.v (.string (s.extract l.toNat s.size)), some (0 ≤ l ∧ l ≤ (s.size : Int)))
  | _, _, _ => none
 | .slice t x none (some hi) none => match P.underlying t, lookV env (nums own) p x, lookV env (nums own) p hi with
  | some .string, some (.string s), some (.int _ h) => some (.v (.string (s.extract 0 h.toNat)), some (0 ≤ h ∧ h ≤ (s.size : Int)))
  | _, _, _ => none
 | _ => gen P env (nums own) p o
theorem gen_ok {P : Program} {n : Nat} {env : List En} {ns : List Nat} {a : Act} (hf : Fits n env ns a) {p : Path} (hp : Holds a p) {o : Oper} {sv : SV} {obl : Option Prop} {w : World} (h : gen P env ns p o = some (sv, obl)) :
  (execOp a.eval o).run P w = .ok (.value (sv.val ns)) w := by
 unfold gen at h
 split at h
 ·rename_i hb
  simp only [Bool.and_eq_true, List.all_eq_true, Array.mem_toList_iff] at hb
  have he : execOp (look env ns p) o = execOp a.eval o :=
   execOp_congr o (fun cs b hs => by rw [hs] at hb; simp [noSel] at hb) (fun x hx => look_eq hf hp (hb.2 x hx))
  rw [he] at h
  split at h
  ·rename_i v hr
   simp only [Option.some.injEq, Prod.mk.injEq] at h
   obtain ⟨rfl, _⟩ := h
   exact red_run hr
  ·cases h
 ·cases h
theorem wrap64_of_inR {x : Int} (h : inR x) : IntKind.i64.wrap x = x := IntWalk.i64_in x ⟨h.1, h.2⟩
theorem getD_nums {own : List Bx} {i : Nat} {b : Bx} (h : own[i]? = some b) : (nums own).getD i 0 = b.num := by
 simp [nums, List.getD, h]
theorem addr_add (g off k : Nat) : (⟨g, off, none⟩ : Addr).add k = ⟨g, off + k, none⟩ := by
 unfold Addr.add; split <;> simp_all
section
variable {P : Program} {w : World}
theorem run_fieldAt {s : TypeId} {f k : Nat} (h : fieldOff P s f = some k) (a : Addr) : (Instr.fieldAt s (.pointer (some a)) f).run P w = .ok (.pointer (some (a.add k))) w := by
 unfold fieldOff at h
 split at h
 ·rename_i fs hu
  split at h
  ·rename_i fd hfd
   split at h
   ·rename_i i hi
    split at h
    ·cases h
    ·rename_i hz
     simp only [Option.some.injEq] at h
     subst h
     simp [Instr.fieldAt, run_underlying hu, hfd, Instr.sureAddr, fieldPlace, sizeOf, typeInfo, hi, hz]
   ·cases h
  ·cases h
 ·cases h
theorem run_indexAt {t : TypeId} {kd : IntKind} {n : Int} {k : Nat} (h : idxOff P t n = some k) (a : Addr) : (Instr.indexAt t (.pointer (some a)) (.int kd n)).run P w = .ok (.pointer (some (a.add k))) w := by
 unfold idxOff at h
 split at h
 ·rename_i len e hu
  split at h
  ·rename_i i hi
   split at h
   ·rename_i hb
    simp only [Option.some.injEq] at h
    subst h
    simp [Instr.indexAt, run_underlying hu, asIntOf, Instr.sureAddr, sizeOf, typeInfo, hi, hb]
   ·cases h
  ·cases h
 ·cases h
theorem run_loadB {t : TypeId} {cells : List Value} {off : Nat} {v : Value} {g : Nat} {ty : TypeId} {fz : Nat × Nat} (h : loadB P t cells off = some v) (hg : w.heap[g]? = some (.cells cells.toArray ty fz)) :
  (Instr.loadAt t (.pointer (some ⟨g, off, none⟩))).run P w = .ok v w := by
 unfold loadB at h
 have hcell : ∀ j, w.cell? ⟨g, j, none⟩ = cells[j]? := fun j => by rw [cell_of_row w g j cells.toArray ty fz hg]; simp
 split at h
 ·rename_i hA
  split at h
  ·rename_i i hi
   split at h
   ·rename_i hlen
    simp only [Option.some.injEq] at h
    subst h
    have hl : (loadCells ⟨g, off, none⟩ i.size).run P w = .ok ((cells.drop off).take i.size).toArray w := by
     have := run_loadCells_list (P := P) w ⟨g, off, none⟩ ((cells.drop off).take i.size) (fun j u hu => by
      rw [addr_add, hcell]
      rw [List.getElem?_take] at hu
      split at hu
      ·rw [List.getElem?_drop] at hu; exact hu
      ·cases hu)
     rw [List.length_take, List.length_drop, Nat.min_eq_left (by omega)] at this
     exact this
    have hagg : (isAgg t).run P w = .ok true w := by
     unfold isAggB at hA
     split at hA
     ·rename_i hu; simp [isAgg, run_underlying hu]
     ·rename_i hu; simp [isAgg, run_underlying hu]
     ·cases hA
     ·cases hA
    simp [Instr.loadAt, Instr.sureAddr, loadVar, hagg, sizeOf, typeInfo, hi, hl]
   ·cases h
  ·cases h
 ·rename_i hA
  have hagg : (isAgg t).run P w = .ok false w := by
   unfold isAggB at hA
   split at hA
   ·cases hA
   ·cases hA
   ·rename_i dd h1 h2 hu
    cases dd <;> simp_all [isAgg, run_underlying hu]
   ·cases hA
  simp [Instr.loadAt, Instr.sureAddr, loadVar, hagg, hcell, h]
 ·cases h
end
theorem run_slice_str {P : Program} {w : World} {t : TypeId} (hu : P.underlying t = some .string) (s : ByteArray) (lo hi : Option Value) (l h : Nat)
  (hb : (Instr.sliceBounds false s.size s.size lo hi none).run P w = .ok (l, h, s.size) w) : (Instr.sliceAt t (.string s) lo hi none).run P w = .ok (.string (s.extract l h)) w := by
 simp [Instr.sliceAt, run_underlying hu, Instr.slice, hb]
theorem opS_ok {P : Program} {n : Nat} {env : List En} {own : List Bx} {a : Act} {w : World} {p : Path} {o : Oper} {sv : SV} {obl : Option Prop} (hf : Fits n env (nums own) a) (hp : Holds a p) (hown : OwnOk w own)
  (h : opS P env own p o = some (sv, obl)) (ho : okP obl) : (execOp a.eval o).run P w = .ok (.value (sv.val (nums own))) w := by
 unfold opS at h
 split at h
 case h_1 | h_2 =>
  rename_i x hop
  split at h
  ·rename_i sv' hx
   simp only [Option.some.injEq, Prod.mk.injEq] at h
   obtain ⟨rfl, _⟩ := h
   unfold execOp
   simp only [hop]
   rw [lookS_eq hf hp hx]
   rfl
  ·cases h
 case h_3 =>
  rename_i c x y hop
  split at h
  ·rename_i k bx b_y hk hx hy
   simp only [Option.some.injEq, Prod.mk.injEq] at h
   obtain ⟨rfl, _⟩ := h
   have hc : a.eval (.tmp c) = .bool k := lookV_eq hf hp hk
   unfold execOp
   simp only [hop, hc]
   cases k with
   | true =>
    have hp' : Holds a ((c, true) :: p) := by
     intro z hz
     simp only [List.mem_cons] at hz
     rcases hz with rfl | hz
     ·exact hc
     ·exact hp z hz
    simp [asBool, lookV_eq hf hp' hx, SV.val]
   | false =>
    have hp' : Holds a ((c, false) :: p) := by
     intro z hz
     simp only [List.mem_cons] at hz
     rcases hz with rfl | hz
     ·exact hc
     ·exact hp z hz
    simp [asBool, lookV_eq hf hp' hy, SV.val]
  ·cases h
 case h_4 =>
  rename_i x hop
  split at h
  ·rename_i i off hx
   simp only [Option.some.injEq, Prod.mk.injEq] at h
   obtain ⟨rfl, _⟩ := h
   have hv := lookS_eq hf hp hx
   unfold execOp
   simp only [hop, hv, SV.val]
   rfl
  ·exact gen_ok hf hp h
 case h_5 =>
  rename_i s x f hop
  split at h
  ·rename_i i off hx
   split at h
   ·rename_i k hk
    simp only [Option.some.injEq, Prod.mk.injEq] at h
    obtain ⟨rfl, _⟩ := h
    have hv := lookS_eq hf hp hx
    unfold execOp
    simp only [hop, hv, SV.val]
    simp [run_fieldAt hk, addr_add]
   ·cases h
  ·exact gen_ok hf hp h
 case h_6 =>
  rename_i t x ix hop
  split at h
  ·rename_i j off kd m hx hi
   split at h
   ·rename_i k hk
    simp only [Option.some.injEq, Prod.mk.injEq] at h
    obtain ⟨rfl, _⟩ := h
    have hv := lookS_eq hf hp hx
    have hi' := lookV_eq hf hp hi
    unfold execOp
    simp only [hop, hv, hi', SV.val]
    simp [run_indexAt hk, addr_add]
   ·cases h
  ·rename_i ad kd m hx hi
   split at h
   ·rename_i len e hu
    split at h
    ·rename_i ti hti
     simp only [Option.some.injEq, Prod.mk.injEq] at h
     obtain ⟨rfl, rfl⟩ := h
     have ho : 0 ≤ m ∧ m < (len : Int) := ho
     have hv := lookS_eq hf hp hx
     have hi' := lookV_eq hf hp hi
     unfold execOp
     simp only [hop, hv, hi', SV.val]
     simp [Instr.indexAt, run_underlying hu, asIntOf, Instr.sureAddr, sizeOf, typeInfo, hti, ho]
    ·cases h
   ·cases h
  ·rename_i ad len cap kd m hx hi
   split at h
   ·rename_i e hu
    split at h
    ·rename_i ti hti
     simp only [Option.some.injEq, Prod.mk.injEq] at h
     obtain ⟨rfl, rfl⟩ := h
     have ho : 0 ≤ m ∧ m < (len : Int) := ho
     have hv := lookS_eq hf hp hx
     have hi' := lookV_eq hf hp hi
     unfold execOp
     simp only [hop, hv, hi', SV.val]
     simp [Instr.indexAt, run_underlying hu, asIntOf, sizeOf, typeInfo, hti, ho]
    ·cases h
   ·cases h
  ·cases h
 case h_7 =>
  rename_i t x hop
  split at h
  ·rename_i i off hx
   split at h
   ·rename_i b hb
    split at h
    ·rename_i u hk
     simp only [Option.some.injEq, Prod.mk.injEq] at h
     obtain ⟨rfl, _⟩ := h
     have hv := lookS_eq hf hp hx
     unfold execOp
     simp only [hop, hv, SV.val, getD_nums hb]
     simp [run_loadB hk (hown.at_ i b hb)]
    ·cases h
   ·cases h
  ·cases h
 case h_8 =>
  rename_i op tt x y ty hop
  split at h
  case h_1 | h_2 | h_3 =>
   rename_i m k hx hy
   simp only [Option.some.injEq, Prod.mk.injEq] at h
   obtain ⟨rfl, rfl⟩ := h
   unfold execOp
   simp only [hop, lookV_eq hf hp hx, lookV_eq hf hp hy]
   simp [eqGuard, binOp, Op.intArith, wrap64_of_inR ho, SV.val]
  case h_4 =>
   rename_i m k hx hy
   simp only [Option.some.injEq, Prod.mk.injEq] at h
   obtain ⟨rfl, rfl⟩ := h
   unfold execOp
   simp only [hop, lookV_eq hf hp hx, lookV_eq hf hp hy]
   simp [eqGuard, binOp, Op.intDiv, wrap64_of_inR (And.right ho), SV.val, And.left ho]
  case h_5 =>
   rename_i m k hx hy
   simp only [Option.some.injEq, Prod.mk.injEq] at h
   obtain ⟨rfl, rfl⟩ := h
   unfold execOp
   simp only [hop, lookV_eq hf hp hx, lookV_eq hf hp hy]
   have ho' : k ≠ 0 := ho
   simp [eqGuard, binOp, Op.intDiv, SV.val, ho']
  case h_6 =>
   rename_i m kd k hx hy
   simp only [Option.some.injEq, Prod.mk.injEq] at h
   obtain ⟨rfl, rfl⟩ := h
   have ho : 0 ≤ k := ho
   unfold execOp
   simp only [hop, lookV_eq hf hp hx, lookV_eq hf hp hy]
   have hneg : ¬ k < 0 := by omega
   simp [eqGuard, binOp, Op.shift, SV.val, hneg, IntKind.bits]
  case h_7 =>
   rename_i m k hx hy
   simp only [Option.some.injEq, Prod.mk.injEq] at h
   obtain ⟨rfl, rfl⟩ := h
   unfold execOp
   simp only [hop, lookV_eq hf hp hx, lookV_eq hf hp hy]
   have : ¬ ((m.size + k.size : Nat) : Int) > IntKind.i64.max := by
    have hm : IntKind.i64.max = 9223372036854775807 := by decide
    rw [hm]; have ho' : m.size + k.size ≤ maxLen := ho; unfold maxLen at ho'; omega
   simp only [Sem.run_bind, eqGuard, binOp, Op.stringOp, if_neg this, SV.val]
   simp
  case h_8 => exact gen_ok hf hp h
 case h_9 =>
  rename_i t x ix hop
  split at h
  ·rename_i s kd m hu hx hi
   simp only [Option.some.injEq, Prod.mk.injEq] at h
   obtain ⟨rfl, rfl⟩ := h
   unfold execOp
   simp only [hop, lookV_eq hf hp hx, lookV_eq hf hp hi]
   have ho : 0 ≤ m ∧ m < (s.size : Int) := ho
   have hlt : m.toNat < s.size := by omega
   simp [Instr.index, asIntOf, run_underlying hu, ho.1, hlt, SV.val, byteAt]
   rfl
  ·exact gen_ok hf hp h
 case h_10 =>
  rename_i t x lo hi hop
  split at h
  ·rename_i s k1 l k2 hh hu hx h1 h2
   simp only [Option.some.injEq, Prod.mk.injEq] at h
   obtain ⟨rfl, rfl⟩ := h
   have ho : 0 ≤ l ∧ l ≤ hh ∧ hh ≤ (s.size : Int) := ho
   unfold execOp
   simp only [hop, lookV_eq hf hp hx, lookV_eq hf hp h1, lookV_eq hf hp h2, Option.map_none, Option.map_some]
   have := run_slice_str (w := w) hu s (some (.int k1 l)) (some (.int k2 hh)) l.toNat hh.toNat (by
    have a1 : 0 ≤ hh ∧ hh ≤ (s.size : Int) := ⟨by omega, ho.2.2⟩
    have a2 : 0 ≤ l ∧ l ≤ (hh.toNat : Int) := ⟨ho.1, by omega⟩
    simp [Instr.sliceBounds, Instr.sliceBound, asIntOf, a1, a2.1]
    omega)
   simp [this, SV.val]
  ·cases h
 case h_11 =>
  rename_i t x lo hop
  split at h
  ·rename_i s k1 l hu hx h1
   simp only [Option.some.injEq, Prod.mk.injEq] at h
   obtain ⟨rfl, rfl⟩ := h
   have ho : 0 ≤ l ∧ l ≤ (s.size : Int) := ho
   unfold execOp
   simp only [hop, lookV_eq hf hp hx, lookV_eq hf hp h1, Option.map_none, Option.map_some]
   have := run_slice_str (w := w) hu s (some (.int k1 l)) none l.toNat s.size (by
    simp [Instr.sliceBounds, Instr.sliceBound, asIntOf, ho.1, ho.2])
   simp [this, SV.val]
  ·cases h
 case h_12 =>
  rename_i t x hi hop
  split at h
  ·rename_i s k2 hh hu hx h2
   simp only [Option.some.injEq, Prod.mk.injEq] at h
   obtain ⟨rfl, rfl⟩ := h
   have ho : 0 ≤ hh ∧ hh ≤ (s.size : Int) := ho
   unfold execOp
   simp only [hop, lookV_eq hf hp hx, lookV_eq hf hp h2, Option.map_none, Option.map_some]
   have := run_slice_str (w := w) hu s none (some (.int k2 hh)) 0 hh.toNat (by
    simp [Instr.sliceBounds, Instr.sliceBound, asIntOf, ho.1, ho.2])
   simp [this, SV.val]
  ·cases h
 case h_13 => exact gen_ok hf hp h
end Go.Eng
