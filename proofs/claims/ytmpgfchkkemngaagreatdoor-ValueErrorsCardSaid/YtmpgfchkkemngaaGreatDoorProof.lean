/- ValueErrors: Fail and Error undo each other, and values that numbers determine have errors as the law says: the law returns true for every error number and every list of numbers, and its arguments read as before (Rows.ValueErrorsCardSaid). Condition: the listed package variables hold what the program lays. -/
import Derived.Test.YtmpgfchkkemngaaGreatDoorP36
set_option linter.all false
namespace Go.Proofs.YtmpgfchkkemngaaGreatDoor
open Go.ChangeShapes Go.WideShapes Go.ChangeAt Go.RowKit Go.V
set_option maxRecDepth 100000 in
theorem errors_contract (H : Type) (enc : TypeId × Value → H) (W : World) (base : Nat) (args : Array Value) (ds gs : List (DataW H)) (before : List MemPlace)
    (hval : ∀ (j : Nat) t v, Tryz.f6.params[j]? = some t → args[j]? = some v → Value.okWide Tryz.prog W .any base t v)
    (hW : DataW.Whole enc Tryz.prog Tryz.f6.params.toList Rows.valueErrorsSpec.vars false W args.toList ds gs before) (hL : laidMetH Tryz.prog Rows.valueErrorsRow.laid W) (hS : W.ShapedOpen Tryz.prog) :
    Calls Tryz.prog 6 args W fun e W' => ∃ v, e = .returned v ∧ Rows.valueErrorsSpec.post enc Tryz.prog Tryz.f6 false true false false W args v W' := by
  have hW' := hW
  obtain ⟨p, q, hA0, hV, rfl, hfz, hnd⟩ := hW
  have hA : DataW.TrodAll enc Tryz.prog W 0 (fun _ => true) true Tryz.f6.params.toList args.toList ds p := hA0
  rw [Tryz.params6] at hA hval
  obtain ⟨v0, v1, d0, d1, p0, p1, rfl, rfl, rfl, h0, h1⟩ := trodAll_two hA
  obtain ⟨rfl, rfl⟩ := trodVars_none hV
  have h0k := h0
  have h1k := h1
  have k0 : Value.okWide Tryz.prog W .any base 3 v0 := hval 0 3 v0 rfl rfl
  have k1 : Value.okWide Tryz.prog W .any base 22 v1 := hval 1 22 v1 rfl rfl
  obtain ⟨n, rfl, rfl, rfl, wn⟩ := open_int (k := .i64) (by kernel_rfl) k0 h0
  obtain ⟨l, hl⟩ := rd_ints (b := base) (e := 3) (by kernel_rfl) (by kernel_rfl) (by kernel_rfl) k1 h1
  obtain ⟨g, hG⟩ := starts8 hS hL
  have hlt : ∀ x ∈ p1, x.block < W.heap.size := fun x hx => hW'.lt x (by simp [hx])
  refine (call_of (valueErrors_ok (g := g) n l) hG (args := [.int .i64 n, v1]) (All2.cons (show Rd W _ (.i n) _ from Rd.v _ rfl) (All2.one hl))).mono ?_
  rintro e W' ⟨rfl, hb⟩
  refine ⟨_, rfl, _, _, _, [], _, [], hW', trodAll_mk1 (shut_bool Tryz.underlying4 _), trodAll_mk2 (shut_int Tryz.underlying3 wn) (Below.trod laidOut (by kernel_rfl) (of_decide_eq_true (by kernel_rfl)) h1k hb hlt), rfl, hb.frame _, fun h => by cases h⟩
theorem errors_met (os : Os) (args : Array Value) : laidMetH Tryz.prog Rows.valueErrorsRow.laid ((World.laidAll Tryz.prog os Rows.valueErrorsRow.laid).forCall (fun _ _ => 0) ⟨#[], args, []⟩).memory := by
  rw [MakeChecks.laidMetH_plain _ _ _ (by kernel_rfl)]; exact laidMet_laidAll _ (by kernel_rfl) (by kernel_rfl)
set_option maxRecDepth 100000 in
theorem errors_lifted (os : Os) (started : os.Started) (H : Type) (enc : TypeId × Value → H) (F : Stop.Interp) :
    ReturnsInHanded {} Tryz.checked os 6 .any ((OpenSpec.ofChange Rows.valueErrorsSpec).preRow enc Tryz.prog Tryz.f6 Rows.valueErrorsRow.domain false Rows.valueErrorsRow.laid) (((OpenSpec.ofChange Rows.valueErrorsSpec).at F).post enc Tryz.prog Tryz.f6 false true false false) := by
  refine returnsInHanded_of_row (C := Tryz.checked) (s := OpenSpec.ofChange Rows.valueErrorsSpec) own started (by kernel_rfl) Tryz.func6
    (ChangeSpec.witness_shaped (enc := enc) (C := Tryz.checked) (os := os) (X := fun w _ => laidMetH Tryz.prog Rows.valueErrorsRow.laid w) false (World.laidAll Tryz.prog os Rows.valueErrorsRow.laid) #[.int .i64 0, .slice none 0 0] 8 (World.laidAll_os _ _ _)
      (World.shaped_of_ZipB (by kernel_rfl) (by kernel_rfl)) (by kernel_rfl) (by kernel_rfl) (by kernel_rfl) (errors_met os _)) ?_
  intro W base args ds gs before hval hW _ _ _ hL hS _
  exact errors_contract H enc W base args ds gs before hval hW hL hS
theorem errors_said : Rows.ValueErrorsSaid :=
  OpenClaim.holds_of_cond 6 Tryz.f6 rfl rfl rfl rfl rfl rfl rfl ⟨rfl, rfl, rfl, rfl, rfl⟩ rfl rfl rfl rfl rfl (by kernel_rfl) Tryz.func6 (by kernel_rfl)
    (of_decide_eq_true (by kernel_rfl)) (by unfold Func.isWrapper; first | (rw [if_pos (by decide +kernel)]; kernel_rfl) | (rw [if_neg (by decide +kernel)]; exact ⟨rfl, rfl⟩))
    (fun os started H enc _ F => by rw [OpenClaim.pre_eq_preRow]; exact errors_lifted os started H enc F)
theorem errors_plain (f : FuncId) (fn : Func) (hf : Tryz.pinned.checked.prog.funcNamed "concord/concordlaw06.ValueErrors" = some f) (hfn : Tryz.pinned.checked.prog.funcs[f]? = some fn) :
    true = Tryz.pinned.checked.prog.looks [] ∧ ∀ (j : Nat) t, fn.params[j]? = some t → Tryz.pinned.checked.prog.wantsStandIn t = false := by
  obtain rfl : f = 6 := Option.some.inj ((show Tryz.prog.funcNamed "concord/concordlaw06.ValueErrors" = some 6 by kernel_rfl).symm.trans hf) |>.symm
  obtain rfl : fn = Tryz.f6 := (Option.some.inj (Tryz.func6.symm.trans hfn)).symm
  refine ⟨by kernel_rfl, fun j t ht => ?_⟩
  rw [Tryz.params6] at ht
  have hm : t ∈ [3, 22] := by simpa using Array.mem_of_getElem? ht
  have hall : ([3, 22].all fun u => !Tryz.prog.wantsStandIn u) = true := by kernel_rfl
  exact (show Tryz.prog.wantsStandIn t = false by simpa using List.all_eq_true.1 hall t hm)
theorem errors_card : Rows.ValueErrorsCardSaid :=
  Claim7.holds_tied_plain_at .later [] _ _ _ _ errors_said (fun _ h => by cases h) (by kernel_rfl) (fun _ h => by cases h) valueErrors_row_tie rfl ⟨rfl, rfl⟩ (by kernel_rfl) rfl errors_plain (by kernel_rfl)
end Go.Proofs.YtmpgfchkkemngaaGreatDoor
