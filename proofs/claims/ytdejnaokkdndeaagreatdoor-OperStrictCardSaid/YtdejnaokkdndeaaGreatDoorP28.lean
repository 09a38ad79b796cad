/- Part 28 of the proof: texts Y0. -/
import Derived.Test.YtdejnaokkdndeaaGreatDoorP27
import Derived.Test.YtdejnaokkdndeaaGreatDoorCards
import Derived.Test.YtdejnaokkdndeaaGreatDoorTie
import Derived.WalkKit
import Derived.ProofKit
import Derived.OpenShut
import Derived.Deep.DeepHandedRow
import Derived.Lib.LaidTab
import Derived.Lay
import Derived.Stop.LaidErr
import Derived.MakeChecks
import Derived.Carry
set_option linter.all false
namespace Go.Proofs.YtdejnaokkdndeaaGreatDoor
open Go.ChangeShapes Go.WideShapes Go.ChangeAt Go.RowKit Go.V
theorem own : ownKnob Tryz.prog.godebug = none := by kernel_rfl
theorem laidOut : laidOutB Tryz.prog = true := by kernel_rfl
theorem var_block {W : World} {name : String} {b : Nat} {cs : Array Value} (hg : Tryz.prog.globalNamed name = some b) (h : W.var? Tryz.prog name = some cs) : ∃ ty fz, W.heap[b]? = some (.cells cs ty fz) := by
 unfold World.var? at h
 rw [hg, Option.bind_some] at h
 split at h
 ·rename_i c t f e
  cases h
  exact ⟨_, _, e⟩
 ·cases h
theorem int_of_ok {P : Program} {w : World} {r : Reach} {b : Nat} {t : TypeId} {v : Value} {k : IntKind} (h : P.underlying t = some (.int k)) (hc : Cell.ok P w r b t v) : ∃ n, v = .int k n := by
 unfold Cell.ok at hc
 rw [h] at hc
 cases v <;> simp at hc
 exact ⟨_, by rw [hc.1]⟩
theorem zero0 : ((begin Tryz.prog (fun _ _ => 0) default).world.heap[1]?).bind Obj.row? = some (#[.int .i64 0], 3) := by kernel_rfl
theorem int_var {P : Program} {W : World} {b : Nat} {t : TypeId} {zero : Array Value} (h : W.ShapedOpen P) (hb : b < P.globals.size) (hz : ((begin P (fun _ _ => 0) default).world.heap[b]?).bind Obj.row? = some (zero, t)) (h1 : zero.size = 1)
  (hB : P.buildable t = true) (hts : P.cellTypes P.depth t = some [t]) (hu : P.underlying t = some (.int .i64)) : ∃ n : Int, ∃ ty fz, W.heap[b]? = some (.cells #[.int .i64 n] ty fz) := by
 obtain ⟨cs, hb, hs, hr⟩ := h.1 b _ _ hb hz
 obtain ⟨ts, hts', _, hall⟩ := hr hB
 obtain rfl := Option.some.inj (hts.symm.trans hts')
 obtain ⟨l⟩ := cs
 rw [h1] at hs
 match l, hs, hb, hall with
 | [v], _, hb, hall =>
  obtain ⟨u, hu', hc⟩ := hall 0 v rfl
  obtain rfl : t = u := by simpa using hu'
  obtain ⟨n, rfl⟩ := int_of_ok hu hc
  exact ⟨n, _, _, hb⟩
theorem maxLen_of {W : World} (h : W.ShapedOpen Tryz.prog) : ∃ n : Int, ∃ ty fz, W.heap[1]? = some (.cells #[.int .i64 n] ty fz) :=
 int_var h (of_decide_eq_true (by kernel_rfl)) zero0 rfl (by kernel_rfl) (by kernel_rfl) (by kernel_rfl)
theorem pow_of {W : World} {r : List (String × DataW Unit)} (h : laidMet Tryz.prog (("internal/strconv.uint64pow10", Rows.laid_internal_strconv_uint64pow10) :: r) W) : ∃ ty fz, W.heap[10]? = some (.cells (powL.map (Value.int .u64)).toArray ty fz) :=
 var_block (by kernel_rfl) (Lib.tabIs_of_head (k := .u64) (zs := powL) (t := 342) (e := 250) (n := 20) (g := 10) (by kernel_rfl) (by kernel_rfl) (by kernel_rfl) (by kernel_rfl) (by kernel_rfl) (by kernel_rfl) h)
theorem lens_of {W : World} {r : List (String × DataW Unit)} (h : laidMet Tryz.prog (("concord/date.lengths", Rows.laid_concord_date_lengths) :: r) W) : ∃ ty fz, W.heap[5]? = some (.cells (mlen.map (Value.int .i64)).toArray ty fz) :=
 var_block (by kernel_rfl) (Lib.tabIs_of_head (k := .i64) (zs := mlen) (t := 322) (e := 3) (n := 12) (g := 5) (by kernel_rfl) (by kernel_rfl) (by kernel_rfl) (by kernel_rfl) (by kernel_rfl) (by kernel_rfl) h)
theorem tens_of {W : World} {r : List (String × DataW Unit)} (h : laidMet Tryz.prog (("concord/decimal.tens", Rows.laid_concord_decimal_tens) :: r) W) : ∃ ty fz, W.heap[0]? = some (.cells (tensL.map (Value.int .i64)).toArray ty fz) :=
 var_block (by kernel_rfl) (Lib.tabIs_of_head (k := .i64) (zs := tensL) (t := 256) (e := 3) (n := 7) (g := 0) (by kernel_rfl) (by kernel_rfl) (by kernel_rfl) (by kernel_rfl) (by kernel_rfl) (by kernel_rfl) h)
def Starts (W : World) (g : Gv) : Prop := ∀ b cs, (b, cs) ∈ Gl g → ∃ ty fz, W.heap[b]? = some (.cells cs.toArray ty fz)
theorem starts9 {W : World} (hS : W.ShapedOpen Tryz.prog) (hL : laidMetH Tryz.prog Rows.operNumbersRow.laid W) : ∃ g : Gv, g.more = [(0, tensL.map (Value.int .i64))] ∧ Starts W g := by
 rw [MakeChecks.laidMetH_plain _ _ _ (by kernel_rfl)] at hL
 obtain ⟨n, h0⟩ := maxLen_of hS
 have h2 := pow_of (laidMet.tail (laidMet.tail hL))
 have h5 := lens_of (laidMet.tail (laidMet.tail (laidMet.tail (laidMet.tail (laidMet.tail (laidMet.tail hL))))))
 have h1 := tens_of (laidMet.tail (laidMet.tail (laidMet.tail (laidMet.tail (laidMet.tail (laidMet.tail (laidMet.tail hL)))))))
 refine ⟨⟨n, [(0, tensL.map (Value.int .i64))]⟩, rfl, fun b cs h => ?_⟩
 simp only [Gl, List.mem_cons, Prod.mk.injEq, List.not_mem_nil, or_false] at h
 rcases h with ⟨rfl, rfl⟩ | ⟨rfl, rfl⟩ | ⟨rfl, rfl⟩ | ⟨rfl, rfl⟩
 ·exact h0
 ·exact h2
 ·exact h5
 ·exact h1
def pl0 : Pl := ⟨fun _ => True, fun _ => 0, fun _ => (none, 0)⟩
theorem sh0 (b : Nat) : Sh pl0 (lookO []) b := ⟨trivial, fun i h => by simp [blkOf, lookO] at h⟩
theorem call_of {g : Gv} {f : FuncId} {ins : List SV} {W : World} {args : List Value} (hS : SpG g f ins [] (.c (.d (.b true))) []) (hG : Starts W g)
  (ha : All2 (SvOk W pl0 (lookO [])) ins args) : Calls Tryz.prog f args.toArray W fun e W' => e = .returned (.bool true) ∧ Below W.heap.size W W' := by
 have fk : FrOk ⟨W, [], Gl g, fun _ => True, [], [], []⟩ := ⟨fun b cs h => ⟨hG b cs h, fun i h => by cases h⟩, fun i b h => (by cases h), fun i b h => (by cases h)⟩
 have m : Mem ⟨W, [], Gl g, fun _ => True, [], [], []⟩ (lookO []) W pl0 := by
  refine ⟨fk, fun b => ⟨fun _ => .inl trivial, fun _ => trivial⟩, fun i o h => (by cases h), fun i j b h => (by simp [blkOf, lookO] at h), fun i b h => (by simp [blkOf, lookO] at h), fun i b h => (by cases h), rfl, rfl, rfl, Nat.le_refl _, fun _ _ _ => rfl, fun i ty cs b h => (by cases h)⟩
 refine (hS ⟨W, [], Gl g, fun _ => True, [], [], []⟩ W pl0 args rfl ⟨rfl, rfl, fun _ => rfl, rfl⟩ m ha).mono ?_
 rintro e W' ⟨v, pl', rfl, m', hv⟩
 have hv : Rd W' _ (.b true) v := hv
 obtain rfl := Rd.exact hv
 exact ⟨rfl, m'.os, m'.tape, m'.output, m'.grow, fun k hk => m'.keep k hk fun i h => by cases h⟩
section
variable {H : Type} {enc : TypeId × Value → H} {P : Program} {W : World}
theorem slice_ok {r : Reach} {b : Nat} {t e : TypeId} {v : Value} (ht : P.underlying t = some (.slice e)) (h : Cell.ok P W r b t v) :
  v = .slice none 0 0 ∨ ∃ bl off len cap c ty fz, v = .slice (some ⟨bl, off, none⟩) len cap ∧ W.heap[bl]? = some (.cells c ty fz) := by
 unfold Cell.ok at h
 rw [ht] at h
 cases v <;> simp at h
 rename_i a len cap
 cases a with
 | none =>
  left
  cases len <;> cases cap <;> simp at h
  rfl
 | some a =>
  obtain ⟨hl, hc, _, hs, row, cells, hsh, _⟩ := (show len ≤ cap ∧ (cap : Int) ≤ IntKind.i64.max ∧ W.has P r b a e cap from h)
  obtain ⟨bl, off, sp⟩ := a
  obtain rfl : sp = none := hs
  unfold World.shape? at hsh
  split at hsh
  ·rename_i c ty fz e; exact .inr ⟨bl, off, len, cap, c, ty, fz, rfl, e⟩
  ·cases hsh
theorem slice_wide {r : Reach} {b : Nat} {t e : TypeId} {v : Value} (ht : P.underlying t = some (.slice e)) (h : Value.okWide P W r b t v) : Cell.ok P W r b t v := by
 unfold Value.okWide at h
 rw [ht] at h
 unfold Cell.okWide at h
 rw [ht] at h
 exact h
theorem rd_ints' {fuel : Nat} {b : Nat} {t e : TypeId} {v : Value} {x : DataW H × List MemPlace} (ht : P.underlying t = some (.slice e)) (he : P.underlying e = some (.int .i64)) (hc : P.cellsOf e = 1)
  (hval : Cell.ok P W .any b t v) (hf : DataW.trod enc P W 0 (fun _ => true) true fuel t [v] = some x) : ∃ l : List Int, Rd W (Sh pl0 (lookO [])) (.sl 1 (intsD l)) v := by
 rcases open_ints ht he hc hf with ⟨h1, _⟩ | ⟨a, len, cap, zs, h1, _, hl, hm, hlen, _, hcell, _⟩
 ·simp only [List.cons.injEq, and_true] at h1
  subst h1
  exact ⟨[], Rd.nil 1⟩
 ·simp only [List.cons.injEq, and_true] at h1
  subst h1
  rcases slice_ok ht hval with h | ⟨bl, off, len', cap', c, ty, fz, h, hb⟩
  ·simp at h
  ·simp only [Value.slice.injEq, Option.some.injEq] at h
   obtain ⟨rfl, rfl, rfl⟩ := h
   simp only [if_true] at hlen
   have hlt : len ≤ zs.length := by omega
   have el : (intsD (zs.take len)).length = len := by simp [intsD]; omega
   refine ⟨zs.take len, ?_⟩
   have key : Rd W (Sh pl0 (lookO [])) (.sl 1 (intsD (zs.take len))) (.slice (some ⟨bl, off, none⟩) (intsD (zs.take len)).length cap) := by
    refine Rd.sl (us := fun i _ => .int .i64 (zs.getD i 0)) (sh0 _) hb (by rw [el]; exact hl) hm ?_ ?_ ?_
    ·intro ds hds
     simp only [intsD, List.mem_map] at hds
     obtain ⟨n, _, rfl⟩ := hds
     rfl
    ·intro i j ds d hi hj
     have hil : i < (zs.take len).length := by
      have := (List.getElem?_eq_some_iff.1 hi).1
      simpa [intsD] using this
     simp only [List.length_take] at hil
     have := hcell i (by omega)
     simp only [intsD, List.getElem?_map, Option.map_eq_some_iff] at hi
     obtain ⟨n, hn, rfl⟩ := hi
     match j, hj with
     | 0, hj =>
      have ea : Addr.add ⟨bl, off, none⟩ i = ⟨bl, off + i, none⟩ := by
       unfold Addr.add
       split <;> simp_all
      rw [ea] at this
      simp only [World.cell?, hb] at this
      simpa using this
    ·intro i j ds d hi hj
     simp only [intsD, List.getElem?_map, Option.map_eq_some_iff] at hi
     obtain ⟨n, hn, rfl⟩ := hi
     match j, hj with
     | 0, hj =>
      simp only [intD, List.getElem?_cons_zero, Option.some.injEq] at hj
      subst hj
      have hz : zs.getD i 0 = n := by
       rw [List.getElem?_take] at hn
       split at hn
       ·simp [hn]
       ·cases hn
      rw [hz]
      exact Rd.v _ rfl
   rw [el] at key
   exact key
theorem one_cell {r : Reach} {b : Nat} {t e : TypeId} {v : Value} (ht : P.underlying t = some (.slice e)) (h : Cell.ok P W r b t v) : v.cells.toList = [v] := by
 rcases slice_ok ht h with rfl | ⟨_, _, _, _, _, _, _, rfl, _⟩ <;> rfl
theorem int_wide {r : Reach} {b : Nat} {t : TypeId} {v : Value} {k : IntKind} (h : P.underlying t = some (.int k)) (hc : Cell.okWide P W r b t v) : ∃ n, v = .int k n := by
 unfold Cell.okWide at hc
 rw [h] at hc
 exact int_of_ok h hc
end
section
variable {P : Program} {W : World}
end
section
variable {H : Type} {enc : TypeId × Value → H} {P : Program} {W : World}
end
section
variable {H : Type} {enc : TypeId × Value → H} {P : Program} {W : World}
end
theorem rd_bound {w : World} {F : Nat → Prop} {sz : Nat} {es : List (List D)} {v : Value} (h : Rd w F (.sl sz es) v) : es.length ≤ maxLen := by
 cases h with
 | nil => exact Nat.zero_le _
 | far => exact Nat.zero_le _
 | sl us hF hb hc hm hs hu hr => exact Nat.le_trans hc hm
end Go.Proofs.YtdejnaokkdndeaaGreatDoor
