/- ReplicaLimits: an author gives at most 30 versions, those of others do not count, and with an error nothing changes: the law returns true for all pairs of bytes, and its arguments read as before (Rows.ReplicaLimitsCardSaid). Condition: the listed package variables hold what the program lays. -/
import Derived.Test.YtclaplngjmgnoaaGreatDoorP29
import Derived.Test.YtclaplngjmgnoaaGreatDoorP30
import Derived.Test.YtclaplngjmgnoaaGreatDoorP31
import Derived.Test.YtclaplngjmgnoaaGreatDoorP36
set_option linter.all false
namespace Go.Proofs.YtclaplngjmgnoaaGreatDoor
open Go.ChangeShapes Go.WideShapes Go.ChangeAt Go.RowKit Go.V
set_option maxRecDepth 100000 in
theorem replicaLimits_contract (H : Type) (enc : TypeId × Value → H) (W : World) (base : Nat) (args : Array Value) (ds gs : List (DataW H)) (before : List MemPlace)
  (hval : ∀ (j : Nat) t v, Tryz.f7.params[j]? = some t → args[j]? = some v → Value.okWide Tryz.prog W .any base t v)
  (hW : DataW.Whole enc Tryz.prog Tryz.f7.params.toList Rows.replicaLimitsSpec.vars false W args.toList ds gs before) (hL : laidMetH Tryz.prog Rows.replicaLimitsRow.laid W) (hS : W.ShapedOpen Tryz.prog) :
  Calls Tryz.prog 7 args W fun e W' => ∃ v, e = .returned v ∧ Rows.replicaLimitsSpec.post enc Tryz.prog Tryz.f7 false true false false W args v W' := by
 have hW' := hW
 obtain ⟨p, q, hA0, hV, rfl, hfz, hnd⟩ := hW
 have hA : DataW.TrodAll enc Tryz.prog W 0 (fun _ => true) true Tryz.f7.params.toList args.toList ds p := hA0
 rw [Tryz.params7] at hA hval
 obtain ⟨v0, v1, d0, d1, p0, p1, rfl, rfl, rfl, h0, h1⟩ := trodAll_two hA
 obtain ⟨rfl, rfl⟩ := trodVars_none hV
 have k0 : Value.okWide Tryz.prog W .any base 5 v0 := hval 0 5 v0 rfl rfl
 obtain ⟨x0, rfl, hx0, hy0⟩ := rd_u8 (by kernel_rfl) k0
 have hlt0 : ∀ x ∈ p0, x.block < W.heap.size := fun x hx => hW'.lt x (by simp [hx])
 have k1 : Value.okWide Tryz.prog W .any base 5 v1 := hval 1 5 v1 rfl rfl
 obtain ⟨x1, rfl, hx1, hy1⟩ := rd_u8 (by kernel_rfl) k1
 have hlt1 : ∀ x ∈ p1, x.block < W.heap.size := fun x hx => hW'.lt x (by simp [hx])
 obtain ⟨g, hG⟩ := starts8 hS hL
 refine (call_of (limits_ok x0 x1 ⟨hx0, by omega⟩ ⟨hx1, by omega⟩) hG (args := [.int .u8 x0, .int .u8 x1]) (All2.cons (show Rd W _ (.v (.int .u8 x0)) (.int .u8 x0) from .v _ rfl) (All2.one (show Rd W _ (.v (.int .u8 x1)) (.int .u8 x1) from .v _ rfl)))).mono ?_
 rintro e W' ⟨rfl, hb⟩
 refine ⟨_, rfl, _, _, _, [], _, [], hW', trodAll_mk1 (shut_bool Tryz.underlying4 _), trodAll_mk2 (Below.trod laidOut (by kernel_rfl) (of_decide_eq_true (by kernel_rfl)) h0 hb hlt0) (Below.trod laidOut (by kernel_rfl) (of_decide_eq_true (by kernel_rfl)) h1 hb hlt1), rfl, hb.frame _, fun h => by cases h⟩
theorem replicaLimits_met (os : Os) (args : Array Value) : laidMetH Tryz.prog Rows.replicaLimitsRow.laid ((World.laidAll Tryz.prog os Rows.replicaLimitsRow.laid).forCall (fun _ _ => 0) ⟨#[], args, []⟩).memory := by
 rw [MakeChecks.laidMetH_plain _ _ _ (by kernel_rfl)]; exact laidMet_laidAll _ (by kernel_rfl) (by kernel_rfl)
set_option maxRecDepth 100000 in
theorem replicaLimits_lifted (os : Os) (started : os.Started) (H : Type) (enc : TypeId × Value → H) (F : Stop.Interp) :
  ReturnsInHanded {} Tryz.checked os 7 .any ((OpenSpec.ofChange Rows.replicaLimitsSpec).preRow enc Tryz.prog Tryz.f7 Rows.replicaLimitsRow.domain false Rows.replicaLimitsRow.laid) (((OpenSpec.ofChange Rows.replicaLimitsSpec).at F).post enc Tryz.prog Tryz.f7 false true false false) := by
 refine returnsInHanded_of_row (C := Tryz.checked) (s := OpenSpec.ofChange Rows.replicaLimitsSpec) own started (by kernel_rfl) Tryz.func7
  (ChangeSpec.witness_shaped (enc := enc) (C := Tryz.checked) (os := os) (X := fun w _ => laidMetH Tryz.prog Rows.replicaLimitsRow.laid w) false (World.laidAll Tryz.prog os Rows.replicaLimitsRow.laid) #[.int .u8 0, .int .u8 0] 8 (World.laidAll_os _ _ _)
   (World.shaped_of_ZipB (by kernel_rfl) (by kernel_rfl)) (by kernel_rfl) (by kernel_rfl) (by kernel_rfl) (replicaLimits_met os _)) ?_
 intro W base args ds gs before hval hW _ _ _ hL hS _
 exact replicaLimits_contract H enc W base args ds gs before hval hW hL hS
theorem replicaLimits_said : Rows.ReplicaLimitsSaid :=
 OpenClaim.holds_of_cond 7 Tryz.f7 rfl rfl rfl rfl rfl rfl rfl ⟨rfl, rfl, rfl, rfl, rfl⟩ rfl rfl rfl rfl rfl (by kernel_rfl) Tryz.func7 replicaLimits_closed
  (of_decide_eq_true (by kernel_rfl)) (by unfold Func.isWrapper; first | (rw [if_pos (by decide +kernel)]; kernel_rfl) | (rw [if_neg (by decide +kernel)]; exact ⟨rfl, rfl⟩))
  (fun os started H enc _ F => by rw [OpenClaim.pre_eq_preRow]; exact replicaLimits_lifted os started H enc F)
theorem replicaLimits_plain (f : FuncId) (fn : Func) (hf : Tryz.pinned.checked.prog.funcNamed "concord/concordlaw33.ReplicaLimits" = some f) (hfn : Tryz.pinned.checked.prog.funcs[f]? = some fn) :
  true = Tryz.pinned.checked.prog.looks [] ∧ ∀ (j : Nat) t, fn.params[j]? = some t → Tryz.pinned.checked.prog.wantsStandIn t = false := by
 obtain rfl : f = 7 := Option.some.inj ((show Tryz.prog.funcNamed "concord/concordlaw33.ReplicaLimits" = some 7 by kernel_rfl).symm.trans hf) |>.symm
 obtain rfl : fn = Tryz.f7 := (Option.some.inj (Tryz.func7.symm.trans hfn)).symm
 refine ⟨by kernel_rfl, fun j t ht => ?_⟩
 rw [Tryz.params7] at ht
 have hm : t ∈ [5, 5] := by simpa using Array.mem_of_getElem? ht
 have hall : ([5, 5].all fun u => !Tryz.prog.wantsStandIn u) = true := by kernel_rfl
 exact (show Tryz.prog.wantsStandIn t = false by simpa using List.all_eq_true.1 hall t hm)
theorem replicaLimits_card : Rows.ReplicaLimitsCardSaid :=
 Claim7.holds_tied_plain_at .later [] _ _ _ _ replicaLimits_said (fun _ h => by cases h) (by kernel_rfl) (fun _ h => by cases h) replicaLimits_row_tie rfl ⟨rfl, rfl⟩ (by kernel_rfl) rfl replicaLimits_plain replicaLimits_goes
end Go.Proofs.YtclaplngjmgnoaaGreatDoor
