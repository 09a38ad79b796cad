/- ValueRows: texts of rows are those of the reference, and are read again; so are texts with a change, or not, as by the reference: the law returns true for all lists of numbers, every text and every change whose bulk is at most 1048576, and its arguments read as before (Rows.ValueRowsUptoCardSaid). Conditions: the bulk is bounded; the listed package variables hold what the program lays. -/
import Derived.Test.YtmpgfchkkemngaaGreatDoorP37
set_option linter.all false
namespace Go.Proofs.YtmpgfchkkemngaaGreatDoor
open Go.ChangeShapes Go.WideShapes Go.ChangeAt Go.RowKit Go.V
set_option maxRecDepth 100000 in
theorem valueRows_contract (H : Type) (enc : TypeId × Value → H) (W : World) (base : Nat) (args : Array Value) (ds gs : List (DataW H)) (before : List MemPlace)
  (hval : ∀ (j : Nat) t v, Tryz.f5.params[j]? = some t → args[j]? = some v → Value.okWide Tryz.prog W .any base t v)
  (hW : DataW.Whole enc Tryz.prog Tryz.f5.params.toList Rows.valueRowsSpec.vars false W args.toList ds gs before) (hcond : Rows.uptoSmall H (ds ++ gs) = true) (hL : laidMetH Tryz.prog Rows.valueRowsUptoRow.laid W) (hS : W.ShapedOpen Tryz.prog) :
  Calls Tryz.prog 5 args W fun e W' => ∃ v, e = .returned v ∧ Rows.valueRowsSpec.post enc Tryz.prog Tryz.f5 false true false false W args v W' := by
 have hW' := hW
 obtain ⟨p, q, hA0, hV, rfl, hfz, hnd⟩ := hW
 have hA : DataW.TrodAll enc Tryz.prog W 0 (fun _ => true) true Tryz.f5.params.toList args.toList ds p := hA0
 rw [Tryz.params5] at hA hval
 obtain ⟨v0, v1, v2, d0, d1, d2, p0, p1, p2, rfl, rfl, rfl, h0, h1, h2⟩ := trodAll_three hA
 obtain ⟨rfl, rfl⟩ := trodVars_none hV
 have k0 : Value.okWide Tryz.prog W .any base 43 v0 := hval 0 43 v0 rfl rfl
 obtain ⟨l0, r0⟩ := rd_intss (b := base) (e := 22) (q := 3) (by kernel_rfl) (by kernel_rfl) (by kernel_rfl) (by kernel_rfl) (by kernel_rfl) k0 h0
 have hlt0 : ∀ x ∈ p0, x.block < W.heap.size := fun x hx => hW'.lt x (by simp [hx])
 have k1 : Value.okWide Tryz.prog W .any base 9 v1 := hval 1 9 v1 rfl rfl
 obtain ⟨l1, r1, e1⟩ := rd_str (b := base) (by kernel_rfl) k1 h1
 subst e1
 have hu1 : l1.length ≤ 1048576 := by
  have hb := of_decide_eq_true (show decide (Rows.uptoBulkAll _ ≤ 1048576) = true from hcond)
  simp only [List.cons_append, List.nil_append, List.append_nil, Rows.uptoBulkAll, Rows.uptoBulk] at hb
  omega
 have hlt1 : ∀ x ∈ p1, x.block < W.heap.size := fun x hx => hW'.lt x (by simp [hx])
 have k2 : Value.okWide Tryz.prog W .any base 44 v2 := hval 2 44 v2 rfl rfl
 obtain ⟨x2, y2, r2⟩ := rd_pair k2
 have hlt2 : ∀ x ∈ p2, x.block < W.heap.size := fun x hx => hW'.lt x (by simp [hx])
 obtain ⟨g, hE, hG⟩ := startsE hS hL
 refine (call_of (valueRows_ok (g := g) hE l0 l1 (Nat.le_trans hu1 (by decide)) x2 y2) hG (args := [v0, v1, v2]) (All2.cons r0 (All2.cons r1 (All2.one r2)))).mono ?_
 rintro e W' ⟨rfl, hb⟩
 refine ⟨_, rfl, _, _, _, [], _, [], hW', trodAll_mk1 (shut_bool Tryz.underlying4 _), trodAll_mk3 (Below.trod laidOut (by kernel_rfl) (of_decide_eq_true (by kernel_rfl)) h0 hb hlt0) (Below.trod laidOut (by kernel_rfl) (of_decide_eq_true (by kernel_rfl)) h1 hb hlt1) (Below.trod laidOut (by kernel_rfl) (of_decide_eq_true (by kernel_rfl)) h2 hb hlt2), rfl, hb.frame _, fun h => by cases h⟩
theorem valueRows_met (os : Os) (args : Array Value) : laidMetH Tryz.prog Rows.valueRowsUptoRow.laid ((World.laidAll Tryz.prog os Rows.valueRowsUptoRow.laid).forCall (fun _ _ => 0) ⟨#[], args, []⟩).memory := by
 rw [MakeChecks.laidMetH_plain _ _ _ (by kernel_rfl)]; exact laidMet_laidAll _ (by kernel_rfl) (by kernel_rfl)
set_option maxRecDepth 100000 in
theorem valueRows_lifted (os : Os) (started : os.Started) (H : Type) (enc : TypeId × Value → H) (F : Stop.Interp) :
  ReturnsInHanded {} Tryz.checked os 5 .any ((Rows.OpenSpec.upto Rows.valueRowsSpec).preRow enc Tryz.prog Tryz.f5 Rows.valueRowsUptoRow.domain false Rows.valueRowsUptoRow.laid) (((Rows.OpenSpec.upto Rows.valueRowsSpec).at F).post enc Tryz.prog Tryz.f5 false true false false) := by
 refine returnsInHanded_of_row (C := Tryz.checked) (s := (Rows.OpenSpec.upto Rows.valueRowsSpec)) own started (by kernel_rfl) Tryz.func5
  (upto_witness (C := Tryz.checked) (k := Rows.uptoSmall) rfl (X := fun w _ => laidMetH Tryz.prog Rows.valueRowsUptoRow.laid w) (World.laidAll Tryz.prog os Rows.valueRowsUptoRow.laid) #[.slice none 0 0, .string ⟨#[]⟩, .agg #[.int .i64 0, .int .i64 0]] 8 (World.laidAll_os _ _ _)
   (World.shaped_of_ZipB (by kernel_rfl) (by kernel_rfl)) (by kernel_rfl) (by kernel_rfl) (by kernel_rfl) (valueRows_met os _)) ?_
 intro W base args ds gs before hval hW _ hcond _ hL hS _
 exact valueRows_contract H enc W base args ds gs before hval hW (hcond _ rfl) hL hS
theorem valueRows_said : Rows.ValueRowsUptoSaid :=
 OpenClaim.holds_of_cond 5 Tryz.f5 rfl rfl rfl rfl rfl rfl rfl ⟨rfl, rfl, rfl, rfl, rfl⟩ rfl rfl rfl rfl rfl (by kernel_rfl) Tryz.func5 (by kernel_rfl)
  (of_decide_eq_true (by kernel_rfl)) (by unfold Func.isWrapper; first | (rw [if_pos (by decide +kernel)]; kernel_rfl) | (rw [if_neg (by decide +kernel)]; exact ⟨rfl, rfl⟩))
  (fun os started H enc _ F => by rw [OpenClaim.pre_eq_preRow]; exact valueRows_lifted os started H enc F)
theorem valueRows_plain (f : FuncId) (fn : Func) (hf : Tryz.pinned.checked.prog.funcNamed "concord/concordlaw06.ValueRows" = some f) (hfn : Tryz.pinned.checked.prog.funcs[f]? = some fn) :
  true = Tryz.pinned.checked.prog.looks [] ∧ ∀ (j : Nat) t, fn.params[j]? = some t → Tryz.pinned.checked.prog.wantsStandIn t = false := by
 obtain rfl : f = 5 := Option.some.inj ((show Tryz.prog.funcNamed "concord/concordlaw06.ValueRows" = some 5 by kernel_rfl).symm.trans hf) |>.symm
 obtain rfl : fn = Tryz.f5 := (Option.some.inj (Tryz.func5.symm.trans hfn)).symm
 refine ⟨by kernel_rfl, fun j t ht => ?_⟩
 rw [Tryz.params5] at ht
 have hm : t ∈ [43, 9, 44] := by simpa using Array.mem_of_getElem? ht
 have hall : ([43, 9, 44].all fun u => !Tryz.prog.wantsStandIn u) = true := by kernel_rfl
 exact (show Tryz.prog.wantsStandIn t = false by simpa using List.all_eq_true.1 hall t hm)
theorem valueRows_card : Rows.ValueRowsUptoCardSaid :=
 Claim7.holds_tied_plain_at .later [] _ _ _ _ valueRows_said (fun _ h => by cases h) (by kernel_rfl) (fun _ h => by cases h) valueRowsUpto_row_tie rfl ⟨rfl, rfl⟩ (by kernel_rfl) rfl valueRows_plain (by kernel_rfl)
end Go.Proofs.YtmpgfchkkemngaaGreatDoor
