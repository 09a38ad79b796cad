/- ValueLess: the order of values, and their equality, are those of the reference, for right values that numbers determine and for such with a change: the law returns true for every two lists of numbers and every two changes, and its arguments read as before (Rows.ValueLessCardSaid). Condition: the listed package variables hold what the program lays. -/
import Derived.Test.YtmpgfchkkemngaaGreatDoorP36
set_option linter.all false
namespace Go.Proofs.YtmpgfchkkemngaaGreatDoor
open Go.ChangeShapes Go.WideShapes Go.ChangeAt Go.RowKit Go.V
set_option maxRecDepth 100000 in
theorem valueLess_contract (H : Type) (enc : TypeId × Value → H) (W : World) (base : Nat) (args : Array Value) (ds gs : List (DataW H)) (before : List MemPlace)
  (hval : ∀ (j : Nat) t v, Tryz.f8.params[j]? = some t → args[j]? = some v → Value.okWide Tryz.prog W .any base t v)
  (hW : DataW.Whole enc Tryz.prog Tryz.f8.params.toList Rows.valueLessSpec.vars false W args.toList ds gs before) (hL : laidMetH Tryz.prog Rows.valueLessRow.laid W) (hS : W.ShapedOpen Tryz.prog) :
  Calls Tryz.prog 8 args W fun e W' => ∃ v, e = .returned v ∧ Rows.valueLessSpec.post enc Tryz.prog Tryz.f8 false true false false W args v W' := by
 have hW' := hW
 obtain ⟨p, q, hA0, hV, rfl, hfz, hnd⟩ := hW
 have hA : DataW.TrodAll enc Tryz.prog W 0 (fun _ => true) true Tryz.f8.params.toList args.toList ds p := hA0
 rw [Tryz.params8] at hA hval
 obtain ⟨v0, v1, v2, d0, d1, d2, p0, p1, p2, rfl, rfl, rfl, h0, h1, h2⟩ := trodAll_three hA
 obtain ⟨rfl, rfl⟩ := trodVars_none hV
 have k0 : Value.okWide Tryz.prog W .any base 62 v0 := hval 0 62 v0 rfl rfl
 obtain ⟨a0, b0, r0⟩ := rd_two (b := base) (s := 22) (e := 3) (by kernel_rfl) (by kernel_rfl) (by kernel_rfl) (by kernel_rfl) (by kernel_rfl) (by kernel_rfl) (by kernel_rfl) k0 h0
 have hlt0 : ∀ x ∈ p0, x.block < W.heap.size := fun x hx => hW'.lt x (by simp [hx])
 have k1 : Value.okWide Tryz.prog W .any base 23 v1 := hval 1 23 v1 rfl rfl
 obtain ⟨x1, y1, z1, r1⟩ := rd_three k1
 have hlt1 : ∀ x ∈ p1, x.block < W.heap.size := fun x hx => hW'.lt x (by simp [hx])
 have k2 : Value.okWide Tryz.prog W .any base 23 v2 := hval 2 23 v2 rfl rfl
 obtain ⟨x2, y2, z2, r2⟩ := rd_three k2
 have hlt2 : ∀ x ∈ p2, x.block < W.heap.size := fun x hx => hW'.lt x (by simp [hx])
 obtain ⟨g, hg, hG⟩ := starts9 hS hL
 obtain ⟨mm, rfl⟩ : ∃ mm, g = gT mm := ⟨g.maxLen, by cases g; simp only at hg; subst hg; rfl⟩
 refine (call_of (valueLess_ok (m := mm) a0 b0 x1 y1 z1 x2 y2 z2) hG (args := [v0, v1, v2]) (All2.cons r0 (All2.cons r1 (All2.one r2)))).mono ?_
 rintro e W' ⟨rfl, hb⟩
 refine ⟨_, rfl, _, _, _, [], _, [], hW', trodAll_mk1 (shut_bool Tryz.underlying4 _), trodAll_mk3 (Below.trod laidOut (by kernel_rfl) (of_decide_eq_true (by kernel_rfl)) h0 hb hlt0) (Below.trod laidOut (by kernel_rfl) (of_decide_eq_true (by kernel_rfl)) h1 hb hlt1) (Below.trod laidOut (by kernel_rfl) (of_decide_eq_true (by kernel_rfl)) h2 hb hlt2), rfl, hb.frame _, fun h => by cases h⟩
theorem valueLess_met (os : Os) (args : Array Value) : laidMetH Tryz.prog Rows.valueLessRow.laid ((World.laidAll Tryz.prog os Rows.valueLessRow.laid).forCall (fun _ _ => 0) ⟨#[], args, []⟩).memory := by
 rw [MakeChecks.laidMetH_plain _ _ _ (by kernel_rfl)]; exact laidMet_laidAll _ (by kernel_rfl) (by kernel_rfl)
set_option maxRecDepth 100000 in
theorem valueLess_lifted (os : Os) (started : os.Started) (H : Type) (enc : TypeId × Value → H) (F : Stop.Interp) :
  ReturnsInHanded {} Tryz.checked os 8 .any ((OpenSpec.ofChange Rows.valueLessSpec).preRow enc Tryz.prog Tryz.f8 Rows.valueLessRow.domain false Rows.valueLessRow.laid) (((OpenSpec.ofChange Rows.valueLessSpec).at F).post enc Tryz.prog Tryz.f8 false true false false) := by
 refine returnsInHanded_of_row (C := Tryz.checked) (s := OpenSpec.ofChange Rows.valueLessSpec) own started (by kernel_rfl) Tryz.func8
  (ChangeSpec.witness_shaped (enc := enc) (C := Tryz.checked) (os := os) (X := fun w _ => laidMetH Tryz.prog Rows.valueLessRow.laid w) false (World.laidAll Tryz.prog os Rows.valueLessRow.laid) #[.agg #[.slice none 0 0, .slice none 0 0], .agg #[.int .i64 0, .int .i64 0, .int .i64 0], .agg #[.int .i64 0, .int .i64 0, .int .i64 0]] 8 (World.laidAll_os _ _ _)
   (World.shaped_of_ZipB (by kernel_rfl) (by kernel_rfl)) (by kernel_rfl) (by kernel_rfl) (by kernel_rfl) (valueLess_met os _)) ?_
 intro W base args ds gs before hval hW _ _ _ hL hS _
 exact valueLess_contract H enc W base args ds gs before hval hW hL hS
theorem valueLess_said : Rows.ValueLessSaid :=
 OpenClaim.holds_of_cond 8 Tryz.f8 rfl rfl rfl rfl rfl rfl rfl ⟨rfl, rfl, rfl, rfl, rfl⟩ rfl rfl rfl rfl rfl (by kernel_rfl) Tryz.func8 (by kernel_rfl)
  (of_decide_eq_true (by kernel_rfl)) (by unfold Func.isWrapper; first | (rw [if_pos (by decide +kernel)]; kernel_rfl) | (rw [if_neg (by decide +kernel)]; exact ⟨rfl, rfl⟩))
  (fun os started H enc _ F => by rw [OpenClaim.pre_eq_preRow]; exact valueLess_lifted os started H enc F)
theorem valueLess_plain (f : FuncId) (fn : Func) (hf : Tryz.pinned.checked.prog.funcNamed "concord/concordlaw06.ValueLess" = some f) (hfn : Tryz.pinned.checked.prog.funcs[f]? = some fn) :
  true = Tryz.pinned.checked.prog.looks [] ∧ ∀ (j : Nat) t, fn.params[j]? = some t → Tryz.pinned.checked.prog.wantsStandIn t = false := by
 obtain rfl : f = 8 := Option.some.inj ((show Tryz.prog.funcNamed "concord/concordlaw06.ValueLess" = some 8 by kernel_rfl).symm.trans hf) |>.symm
 obtain rfl : fn = Tryz.f8 := (Option.some.inj (Tryz.func8.symm.trans hfn)).symm
 refine ⟨by kernel_rfl, fun j t ht => ?_⟩
 rw [Tryz.params8] at ht
 have hm : t ∈ [62, 23, 23] := by simpa using Array.mem_of_getElem? ht
 have hall : ([62, 23, 23].all fun u => !Tryz.prog.wantsStandIn u) = true := by kernel_rfl
 exact (show Tryz.prog.wantsStandIn t = false by simpa using List.all_eq_true.1 hall t hm)
theorem valueLess_card : Rows.ValueLessCardSaid :=
 Claim7.holds_tied_plain_at .later [] _ _ _ _ valueLess_said (fun _ h => by cases h) (by kernel_rfl) (fun _ h => by cases h) valueLess_row_tie rfl ⟨rfl, rfl⟩ (by kernel_rfl) rfl valueLess_plain (by kernel_rfl)
end Go.Proofs.YtmpgfchkkemngaaGreatDoor
