/- OperStrict: an argument without a result leads to its error, the first one if there are several, and the branch of if that is not taken does not count: the law returns true for all calls by numbers, all places and all errors, and its arguments read as before (Rows.OperStrictCardSaid). Condition: the listed package variables hold what the program lays. -/
import Derived.Test.YtdejnaokkdndeaaGreatDoorP29
import Derived.Test.YtdejnaokkdndeaaGreatDoorP30
import Derived.Test.YtdejnaokkdndeaaGreatDoorP31
import Derived.Test.YtdejnaokkdndeaaGreatDoorP38
import Derived.Test.YtdejnaokkdndeaaGreatDoorP50
set_option linter.all false
namespace Go.Proofs.YtdejnaokkdndeaaGreatDoor
open Go.ChangeShapes Go.WideShapes Go.ChangeAt Go.RowKit Go.V
set_option maxRecDepth 100000 in
theorem operStrict_contract (H : Type) (enc : TypeId × Value → H) (W : World) (base : Nat) (args : Array Value) (ds gs : List (DataW H)) (before : List MemPlace)
  (hval : ∀ (j : Nat) t v, Tryz.f4.params[j]? = some t → args[j]? = some v → Value.okWide Tryz.prog W .any base t v)
  (hW : DataW.Whole enc Tryz.prog Tryz.f4.params.toList Rows.operStrictSpec.vars false W args.toList ds gs before) (hL : laidMetH Tryz.prog Rows.operStrictRow.laid W) (hS : W.ShapedOpen Tryz.prog) :
  Calls Tryz.prog 4 args W fun e W' => ∃ v, e = .returned v ∧ Rows.operStrictSpec.post enc Tryz.prog Tryz.f4 false true false false W args v W' := by
 have hW' := hW
 obtain ⟨p, q, hA0, hV, rfl, hfz, hnd⟩ := hW
 have hA : DataW.TrodAll enc Tryz.prog W 0 (fun _ => true) true Tryz.f4.params.toList args.toList ds p := hA0
 rw [Tryz.params4] at hA hval
 obtain ⟨v0, v1, v2, d0, d1, d2, p0, p1, p2, rfl, rfl, rfl, h0, h1, h2⟩ := trodAll_three hA
 obtain ⟨rfl, rfl⟩ := trodVars_none hV
 have k0 : Value.okWide Tryz.prog W .any base 26 v0 := hval 0 26 v0 rfl rfl
 obtain ⟨o0, q00, q10, q20, as0, rw0, bs0, hb0, r0⟩ := rd_call (b := base) (i := 3) (s := 24) (ss := 23) (by kernel_rfl) (by kernel_rfl) (by kernel_rfl) (by kernel_rfl) (by kernel_rfl) (by kernel_rfl) (by kernel_rfl) (by kernel_rfl) (by kernel_rfl) (by kernel_rfl) (by kernel_rfl) (by kernel_rfl) k0 h0
 have hlt0 : ∀ x ∈ p0, x.block < W.heap.size := fun x hx => hW'.lt x (by simp [hx])
 have k1 : Value.okWide Tryz.prog W .any base 5 v1 := hval 1 5 v1 rfl rfl
 obtain ⟨x1, rfl, hx1, hy1⟩ := rd_u8 (by kernel_rfl) k1
 have hlt1 : ∀ x ∈ p1, x.block < W.heap.size := fun x hx => hW'.lt x (by simp [hx])
 have k2 : Value.okWide Tryz.prog W .any base 50 v2 := hval 2 50 v2 rfl rfl
 obtain ⟨x2, y2, rfl, hx2, hy2⟩ := rd_u8s (e := 5) (by kernel_rfl) (by kernel_rfl) (by kernel_rfl) (by kernel_rfl) k2
 have hlt2 : ∀ x ∈ p2, x.block < W.heap.size := fun x hx => hW'.lt x (by simp [hx])
 obtain ⟨g, hg, hG⟩ := starts9 hS hL
 obtain ⟨mm, rfl⟩ : ∃ mm, g = gT mm := ⟨g.maxLen, by cases g; simp only at hg; subst hg; rfl⟩
 refine (call_of (strict_ok mm o0 q00 q10 q20 x1 x2 y2 (intssD as0) rw0 bs0 ⟨hx1, hy1⟩ hx2 hy2 ⟨by decide, by omega, by unfold maxLen at hb0; omega⟩) hG (args := [v0, .int .u8 x1, .agg #[.int .u8 x2, .int .u8 y2]]) (All2.cons r0 (All2.cons (show Rd W _ (.v (.int .u8 x1)) (.int .u8 x1) from .v _ rfl) (All2.one (show SvOk W pl0 (lookO []) (.agg [.d (.v (.int .u8 x2)), .d (.v (.int .u8 y2))]) (.agg #[.int .u8 x2, .int .u8 y2]) from ⟨[_, _], rfl, All2.cons (Rd.v _ rfl) (All2.one (Rd.v _ rfl))⟩))))).mono ?_
 rintro e W' ⟨rfl, hb⟩
 refine ⟨_, rfl, _, _, _, [], _, [], hW', trodAll_mk1 (shut_bool Tryz.underlying4 _), trodAll_mk3 (Below.trod laidOut (by kernel_rfl) (of_decide_eq_true (by kernel_rfl)) h0 hb hlt0) (Below.trod laidOut (by kernel_rfl) (of_decide_eq_true (by kernel_rfl)) h1 hb hlt1) (Below.trod laidOut (by kernel_rfl) (of_decide_eq_true (by kernel_rfl)) h2 hb hlt2), rfl, hb.frame _, fun h => by cases h⟩
theorem operStrict_met (os : Os) (args : Array Value) : laidMetH Tryz.prog Rows.operStrictRow.laid ((World.laidAll Tryz.prog os Rows.operStrictRow.laid).forCall (fun _ _ => 0) ⟨#[], args, []⟩).memory := by
 rw [MakeChecks.laidMetH_plain _ _ _ (by kernel_rfl)]; exact laidMet_laidAll _ (by kernel_rfl) (by kernel_rfl)
set_option maxRecDepth 100000 in
theorem operStrict_lifted (os : Os) (started : os.Started) (H : Type) (enc : TypeId × Value → H) (F : Stop.Interp) :
  ReturnsInHanded {} Tryz.checked os 4 .any ((OpenSpec.ofChange Rows.operStrictSpec).preRow enc Tryz.prog Tryz.f4 Rows.operStrictRow.domain false Rows.operStrictRow.laid) (((OpenSpec.ofChange Rows.operStrictSpec).at F).post enc Tryz.prog Tryz.f4 false true false false) := by
 refine returnsInHanded_of_row (C := Tryz.checked) (s := OpenSpec.ofChange Rows.operStrictSpec) own started (by kernel_rfl) Tryz.func4
  (ChangeSpec.witness_shaped (enc := enc) (C := Tryz.checked) (os := os) (X := fun w _ => laidMetH Tryz.prog Rows.operStrictRow.laid w) false (World.laidAll Tryz.prog os Rows.operStrictRow.laid) #[.agg #[.int .i64 0, .int .i64 0, .int .i64 0, .int .i64 0, .slice none 0 0, .slice none 0 0, .slice none 0 0], .int .u8 0, .agg #[.int .u8 0, .int .u8 0]] 8 (World.laidAll_os _ _ _)
   (World.shaped_of_ZipB (by kernel_rfl) (by kernel_rfl)) (by kernel_rfl) (by kernel_rfl) (by kernel_rfl) (operStrict_met os _)) ?_
 intro W base args ds gs before hval hW _ _ _ hL hS _
 exact operStrict_contract H enc W base args ds gs before hval hW hL hS
theorem operStrict_said : Rows.OperStrictSaid :=
 OpenClaim.holds_of_cond 4 Tryz.f4 rfl rfl rfl rfl rfl rfl rfl ⟨rfl, rfl, rfl, rfl, rfl⟩ rfl rfl rfl rfl rfl (by kernel_rfl) Tryz.func4 operStrict_closed
  (of_decide_eq_true (by kernel_rfl)) (by unfold Func.isWrapper; first | (rw [if_pos (by decide +kernel)]; kernel_rfl) | (rw [if_neg (by decide +kernel)]; exact ⟨rfl, rfl⟩))
  (fun os started H enc _ F => by rw [OpenClaim.pre_eq_preRow]; exact operStrict_lifted os started H enc F)
theorem operStrict_plain (f : FuncId) (fn : Func) (hf : Tryz.pinned.checked.prog.funcNamed "concord/concordlaw11.OperStrict" = some f) (hfn : Tryz.pinned.checked.prog.funcs[f]? = some fn) :
  true = Tryz.pinned.checked.prog.looks [] ∧ ∀ (j : Nat) t, fn.params[j]? = some t → Tryz.pinned.checked.prog.wantsStandIn t = false := by
 obtain rfl : f = 4 := Option.some.inj ((show Tryz.prog.funcNamed "concord/concordlaw11.OperStrict" = some 4 by kernel_rfl).symm.trans hf) |>.symm
 obtain rfl : fn = Tryz.f4 := (Option.some.inj (Tryz.func4.symm.trans hfn)).symm
 refine ⟨by kernel_rfl, fun j t ht => ?_⟩
 rw [Tryz.params4] at ht
 have hm : t ∈ [26, 5, 50] := by simpa using Array.mem_of_getElem? ht
 have hall : ([26, 5, 50].all fun u => !Tryz.prog.wantsStandIn u) = true := by kernel_rfl
 exact (show Tryz.prog.wantsStandIn t = false by simpa using List.all_eq_true.1 hall t hm)
theorem operStrict_card : Rows.OperStrictCardSaid :=
 Claim7.holds_tied_plain_at .later [] _ _ _ _ operStrict_said (fun _ h => by cases h) (by kernel_rfl) (fun _ h => by cases h) operStrict_row_tie rfl ⟨rfl, rfl⟩ (by kernel_rfl) rfl operStrict_plain operStrict_goes
end Go.Proofs.YtdejnaokkdndeaaGreatDoor
