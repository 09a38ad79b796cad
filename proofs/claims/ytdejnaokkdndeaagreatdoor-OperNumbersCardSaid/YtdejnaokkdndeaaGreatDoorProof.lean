/- OperNumbers: sub undoes add, less is an order, days undoes between, and print and parse undo each other: the law returns true for all four lists of numbers, and its argument reads as before (Rows.OperNumbersCardSaid). Condition: the listed package variables hold what the program lays. -/
import Derived.Test.YtdejnaokkdndeaaGreatDoorP49
set_option linter.all false
namespace Go.Proofs.YtdejnaokkdndeaaGreatDoor
open Go.ChangeShapes Go.WideShapes Go.ChangeAt Go.RowKit Go.V
set_option maxRecDepth 100000 in
theorem operNumbers_contract (H : Type) (enc : TypeId × Value → H) (W : World) (base : Nat) (args : Array Value) (ds gs : List (DataW H)) (before : List MemPlace)
  (hval : ∀ (j : Nat) t v, Tryz.f5.params[j]? = some t → args[j]? = some v → Value.okWide Tryz.prog W .any base t v)
  (hW : DataW.Whole enc Tryz.prog Tryz.f5.params.toList Rows.operNumbersSpec.vars false W args.toList ds gs before) (hL : laidMetH Tryz.prog Rows.operNumbersRow.laid W) (hS : W.ShapedOpen Tryz.prog) :
  Calls Tryz.prog 5 args W fun e W' => ∃ v, e = .returned v ∧ Rows.operNumbersSpec.post enc Tryz.prog Tryz.f5 false true false false W args v W' := by
 have hW' := hW
 obtain ⟨p, q, hA0, hV, rfl, hfz, hnd⟩ := hW
 have hA : DataW.TrodAll enc Tryz.prog W 0 (fun _ => true) true Tryz.f5.params.toList args.toList ds p := hA0
 rw [Tryz.params5] at hA hval
 obtain ⟨v0, d0, rfl, rfl, h0⟩ := trodAll_one hA
 obtain ⟨rfl, rfl⟩ := trodVars_none hV
 have k0 : Value.okWide Tryz.prog W .any base 57 v0 := hval 0 57 v0 rfl rfl
 obtain ⟨x0, y0, z0, u0, q0, r0⟩ := rd_four' (b := base) (s := 24) (e := 3) (by kernel_rfl) (by kernel_rfl) (by kernel_rfl) (by kernel_rfl) (by kernel_rfl) (by kernel_rfl) (by kernel_rfl) k0 h0
 have hlt0 : ∀ x ∈ p, x.block < W.heap.size := fun x hx => hW'.lt x (by simp [hx])
 obtain ⟨g, hg, hG⟩ := starts9 hS hL
 obtain ⟨mm, rfl⟩ : ∃ mm, g = gT mm := ⟨g.maxLen, by cases g; simp only at hg; subst hg; rfl⟩
 refine (call_of (numbers_ok (m := mm) x0 y0 z0 u0 (by have := q0.1; unfold maxLen at this; omega) (by have := q0.2.1; unfold maxLen at this; omega) (by have := q0.2.2.1; unfold maxLen at this; omega) (by have := q0.2.2.2; unfold maxLen at this; omega)) hG (args := [v0]) (All2.one r0)).mono ?_
 rintro e W' ⟨rfl, hb⟩
 refine ⟨_, rfl, _, _, _, [], _, [], hW', trodAll_mk1 (shut_bool Tryz.underlying4 _), trodAll_mk1 (Below.trod laidOut (by kernel_rfl) (of_decide_eq_true (by kernel_rfl)) h0 hb hlt0), rfl, hb.frame _, fun h => by cases h⟩
theorem operNumbers_met (os : Os) (args : Array Value) : laidMetH Tryz.prog Rows.operNumbersRow.laid ((World.laidAll Tryz.prog os Rows.operNumbersRow.laid).forCall (fun _ _ => 0) ⟨#[], args, []⟩).memory := by
 rw [MakeChecks.laidMetH_plain _ _ _ (by kernel_rfl)]; exact laidMet_laidAll _ (by kernel_rfl) (by kernel_rfl)
set_option maxRecDepth 100000 in
theorem operNumbers_lifted (os : Os) (started : os.Started) (H : Type) (enc : TypeId × Value → H) (F : Stop.Interp) :
  ReturnsInHanded {} Tryz.checked os 5 .any ((OpenSpec.ofChange Rows.operNumbersSpec).preRow enc Tryz.prog Tryz.f5 Rows.operNumbersRow.domain false Rows.operNumbersRow.laid) (((OpenSpec.ofChange Rows.operNumbersSpec).at F).post enc Tryz.prog Tryz.f5 false true false false) := by
 refine returnsInHanded_of_row (C := Tryz.checked) (s := OpenSpec.ofChange Rows.operNumbersSpec) own started (by kernel_rfl) Tryz.func5
  (ChangeSpec.witness_shaped (enc := enc) (C := Tryz.checked) (os := os) (X := fun w _ => laidMetH Tryz.prog Rows.operNumbersRow.laid w) false (World.laidAll Tryz.prog os Rows.operNumbersRow.laid) #[.agg #[.slice none 0 0, .slice none 0 0, .slice none 0 0, .slice none 0 0]] 8 (World.laidAll_os _ _ _)
   (World.shaped_of_ZipB (by kernel_rfl) (by kernel_rfl)) (by kernel_rfl) (by kernel_rfl) (by kernel_rfl) (operNumbers_met os _)) ?_
 intro W base args ds gs before hval hW _ _ _ hL hS _
 exact operNumbers_contract H enc W base args ds gs before hval hW hL hS
theorem operNumbers_said : Rows.OperNumbersSaid :=
 OpenClaim.holds_of_cond 5 Tryz.f5 rfl rfl rfl rfl rfl rfl rfl ⟨rfl, rfl, rfl, rfl, rfl⟩ rfl rfl rfl rfl rfl (by kernel_rfl) Tryz.func5 operNumbers_closed
  (of_decide_eq_true (by kernel_rfl)) (by unfold Func.isWrapper; first | (rw [if_pos (by decide +kernel)]; kernel_rfl) | (rw [if_neg (by decide +kernel)]; exact ⟨rfl, rfl⟩))
  (fun os started H enc _ F => by rw [OpenClaim.pre_eq_preRow]; exact operNumbers_lifted os started H enc F)
theorem operNumbers_plain (f : FuncId) (fn : Func) (hf : Tryz.pinned.checked.prog.funcNamed "concord/concordlaw11.OperNumbers" = some f) (hfn : Tryz.pinned.checked.prog.funcs[f]? = some fn) :
  true = Tryz.pinned.checked.prog.looks [] ∧ ∀ (j : Nat) t, fn.params[j]? = some t → Tryz.pinned.checked.prog.wantsStandIn t = false := by
 obtain rfl : f = 5 := Option.some.inj ((show Tryz.prog.funcNamed "concord/concordlaw11.OperNumbers" = some 5 by kernel_rfl).symm.trans hf) |>.symm
 obtain rfl : fn = Tryz.f5 := (Option.some.inj (Tryz.func5.symm.trans hfn)).symm
 refine ⟨by kernel_rfl, fun j t ht => ?_⟩
 rw [Tryz.params5] at ht
 have hm : t ∈ [57] := by simpa using Array.mem_of_getElem? ht
 have hall : ([57].all fun u => !Tryz.prog.wantsStandIn u) = true := by kernel_rfl
 exact (show Tryz.prog.wantsStandIn t = false by simpa using List.all_eq_true.1 hall t hm)
theorem operNumbers_card : Rows.OperNumbersCardSaid :=
 Claim7.holds_tied_plain_at .later [] _ _ _ _ operNumbers_said (fun _ h => by cases h) (by kernel_rfl) (fun _ h => by cases h) operNumbers_row_tie rfl ⟨rfl, rfl⟩ (by kernel_rfl) rfl operNumbers_plain operNumbers_goes
end Go.Proofs.YtdejnaokkdndeaaGreatDoor
