/- OperTexts: lengths add up, upper, lower and trim do nothing twice, what is extracted is matched, and read undoes show: the law returns true for all three lists of numbers and all three numbers, and its arguments read as before (Rows.OperTextsCardSaid). Condition: the listed package variables hold what the program lays. -/
import Derived.Test.YtdejnaokkdndeaaGreatDoorP30
import Derived.Test.YtdejnaokkdndeaaGreatDoorP31
import Derived.Test.YtdejnaokkdndeaaGreatDoorP32
import Derived.Test.YtdejnaokkdndeaaGreatDoorP45
set_option linter.all false
namespace Go.Proofs.YtdejnaokkdndeaaGreatDoor
open Go.ChangeShapes Go.WideShapes Go.ChangeAt Go.RowKit Go.V
set_option maxRecDepth 100000 in
theorem operTexts_contract (H : Type) (enc : TypeId × Value → H) (W : World) (base : Nat) (args : Array Value) (ds gs : List (DataW H)) (before : List MemPlace)
  (hval : ∀ (j : Nat) t v, Tryz.f6.params[j]? = some t → args[j]? = some v → Value.okWide Tryz.prog W .any base t v)
  (hW : DataW.Whole enc Tryz.prog Tryz.f6.params.toList Rows.operTextsSpec.vars false W args.toList ds gs before) (hL : laidMetH Tryz.prog Rows.operTextsRow.laid W) (hS : W.ShapedOpen Tryz.prog) :
  Calls Tryz.prog 6 args W fun e W' => ∃ v, e = .returned v ∧ Rows.operTextsSpec.post enc Tryz.prog Tryz.f6 false true false false W args v W' := by
 have hW' := hW
 obtain ⟨p, q, hA0, hV, rfl, hfz, hnd⟩ := hW
 have hA : DataW.TrodAll enc Tryz.prog W 0 (fun _ => true) true Tryz.f6.params.toList args.toList ds p := hA0
 rw [Tryz.params6] at hA hval
 obtain ⟨v0, v1, d0, d1, p0, p1, rfl, rfl, rfl, h0, h1⟩ := trodAll_two hA
 obtain ⟨rfl, rfl⟩ := trodVars_none hV
 have k0 : Value.okWide Tryz.prog W .any base 61 v0 := hval 0 61 v0 rfl rfl
 obtain ⟨x0, y0, z0, q0, r0⟩ := rd_3ints (b := base) (s := 24) (e := 3) (by kernel_rfl) (by kernel_rfl) (by kernel_rfl) (by kernel_rfl) (by kernel_rfl) (by kernel_rfl) (by kernel_rfl) k0 h0
 have hlt0 : ∀ x ∈ p0, x.block < W.heap.size := fun x hx => hW'.lt x (by simp [hx])
 have k1 : Value.okWide Tryz.prog W .any base 22 v1 := hval 1 22 v1 rfl rfl
 obtain ⟨x1, y1, z1, r1⟩ := rd_3int (e := 3) (by kernel_rfl) (by kernel_rfl) (by kernel_rfl) (by kernel_rfl) k1
 have hlt1 : ∀ x ∈ p1, x.block < W.heap.size := fun x hx => hW'.lt x (by simp [hx])
 obtain ⟨g, hg, hG⟩ := starts9 hS hL
 obtain ⟨mm, rfl⟩ : ∃ mm, g = gT mm := ⟨g.maxLen, by cases g; simp only at hg; subst hg; rfl⟩
 refine (call_of (opTexts_ok (m := mm) x0 y0 z0 x1 y1 z1 (by have := q0.1; unfold maxLen at this; omega) (by have := q0.2.1; unfold maxLen at this; omega) (by have := q0.2.2; unfold maxLen at this; omega)) hG (args := [v0, v1]) (All2.cons r0 (All2.one r1))).mono ?_
 rintro e W' ⟨rfl, hb⟩
 refine ⟨_, rfl, _, _, _, [], _, [], hW', trodAll_mk1 (shut_bool Tryz.underlying4 _), trodAll_mk2 (Below.trod laidOut (by kernel_rfl) (of_decide_eq_true (by kernel_rfl)) h0 hb hlt0) (Below.trod laidOut (by kernel_rfl) (of_decide_eq_true (by kernel_rfl)) h1 hb hlt1), rfl, hb.frame _, fun h => by cases h⟩
theorem operTexts_met (os : Os) (args : Array Value) : laidMetH Tryz.prog Rows.operTextsRow.laid ((World.laidAll Tryz.prog os Rows.operTextsRow.laid).forCall (fun _ _ => 0) ⟨#[], args, []⟩).memory := by
 rw [MakeChecks.laidMetH_plain _ _ _ (by kernel_rfl)]; exact laidMet_laidAll _ (by kernel_rfl) (by kernel_rfl)
set_option maxRecDepth 100000 in
theorem operTexts_lifted (os : Os) (started : os.Started) (H : Type) (enc : TypeId × Value → H) (F : Stop.Interp) :
  ReturnsInHanded {} Tryz.checked os 6 .any ((OpenSpec.ofChange Rows.operTextsSpec).preRow enc Tryz.prog Tryz.f6 Rows.operTextsRow.domain false Rows.operTextsRow.laid) (((OpenSpec.ofChange Rows.operTextsSpec).at F).post enc Tryz.prog Tryz.f6 false true false false) := by
 refine returnsInHanded_of_row (C := Tryz.checked) (s := OpenSpec.ofChange Rows.operTextsSpec) own started (by kernel_rfl) Tryz.func6
  (ChangeSpec.witness_shaped (enc := enc) (C := Tryz.checked) (os := os) (X := fun w _ => laidMetH Tryz.prog Rows.operTextsRow.laid w) false (World.laidAll Tryz.prog os Rows.operTextsRow.laid) #[.agg #[.slice none 0 0, .slice none 0 0, .slice none 0 0], .agg #[.int .i64 0, .int .i64 0, .int .i64 0]] 8 (World.laidAll_os _ _ _)
   (World.shaped_of_ZipB (by kernel_rfl) (by kernel_rfl)) (by kernel_rfl) (by kernel_rfl) (by kernel_rfl) (operTexts_met os _)) ?_
 intro W base args ds gs before hval hW _ _ _ hL hS _
 exact operTexts_contract H enc W base args ds gs before hval hW hL hS
theorem operTexts_said : Rows.OperTextsSaid :=
 OpenClaim.holds_of_cond 6 Tryz.f6 rfl rfl rfl rfl rfl rfl rfl ⟨rfl, rfl, rfl, rfl, rfl⟩ rfl rfl rfl rfl rfl (by kernel_rfl) Tryz.func6 aDV
  (of_decide_eq_true (by kernel_rfl)) (by unfold Func.isWrapper; first | (rw [if_pos (by decide +kernel)]; kernel_rfl) | (rw [if_neg (by decide +kernel)]; exact ⟨rfl, rfl⟩))
  (fun os started H enc _ F => by rw [OpenClaim.pre_eq_preRow]; exact operTexts_lifted os started H enc F)
theorem operTexts_plain (f : FuncId) (fn : Func) (hf : Tryz.pinned.checked.prog.funcNamed "concord/concordlaw11.OperTexts" = some f) (hfn : Tryz.pinned.checked.prog.funcs[f]? = some fn) :
  true = Tryz.pinned.checked.prog.looks [] ∧ ∀ (j : Nat) t, fn.params[j]? = some t → Tryz.pinned.checked.prog.wantsStandIn t = false := by
 obtain rfl : f = 6 := Option.some.inj ((show Tryz.prog.funcNamed "concord/concordlaw11.OperTexts" = some 6 by kernel_rfl).symm.trans hf) |>.symm
 obtain rfl : fn = Tryz.f6 := (Option.some.inj (Tryz.func6.symm.trans hfn)).symm
 refine ⟨by kernel_rfl, fun j t ht => ?_⟩
 rw [Tryz.params6] at ht
 have hm : t ∈ [61, 22] := by simpa using Array.mem_of_getElem? ht
 have hall : ([61, 22].all fun u => !Tryz.prog.wantsStandIn u) = true := by kernel_rfl
 exact (show Tryz.prog.wantsStandIn t = false by simpa using List.all_eq_true.1 hall t hm)
theorem operTexts_card : Rows.OperTextsCardSaid :=
 Claim7.holds_tied_plain_at .later [] _ _ _ _ operTexts_said (fun _ h => by cases h) (by kernel_rfl) (fun _ h => by cases h) operTexts_row_tie rfl ⟨rfl, rfl⟩ (by kernel_rfl) rfl operTexts_plain aGP
end Go.Proofs.YtdejnaokkdndeaaGreatDoor
