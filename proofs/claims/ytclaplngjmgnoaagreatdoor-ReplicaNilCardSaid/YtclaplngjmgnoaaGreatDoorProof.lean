/- ReplicaNil: replicas exist for permitted numbers alone, nil and zero ones give nothing but the error of arguments, and a new one knows nothing: the law returns true for all numbers and all lists of numbers, and its arguments read as before (Rows.ReplicaNilCardSaid). Condition: the listed package variables hold what the program lays. -/
import Derived.Test.YtclaplngjmgnoaaGreatDoorP29
import Derived.Test.YtclaplngjmgnoaaGreatDoorP30
import Derived.Test.YtclaplngjmgnoaaGreatDoorP31
import Derived.Test.YtclaplngjmgnoaaGreatDoorP37
set_option linter.all false
namespace Go.Proofs.YtclaplngjmgnoaaGreatDoor
open Go.ChangeShapes Go.WideShapes Go.ChangeAt Go.RowKit Go.V
set_option maxRecDepth 100000 in
theorem replicaNil_contract (H : Type) (enc : TypeId × Value → H) (W : World) (base : Nat) (args : Array Value) (ds gs : List (DataW H)) (before : List MemPlace)
  (hval : ∀ (j : Nat) t v, Tryz.f8.params[j]? = some t → args[j]? = some v → Value.okWide Tryz.prog W .any base t v)
  (hW : DataW.Whole enc Tryz.prog Tryz.f8.params.toList Rows.replicaNilSpec.vars false W args.toList ds gs before) (hL : laidMetH Tryz.prog Rows.replicaNilRow.laid W) (hS : W.ShapedOpen Tryz.prog) :
  Calls Tryz.prog 8 args W fun e W' => ∃ v, e = .returned v ∧ Rows.replicaNilSpec.post enc Tryz.prog Tryz.f8 false true false false W args v W' := by
 have hW' := hW
 obtain ⟨p, q, hA0, hV, rfl, hfz, hnd⟩ := hW
 have hA : DataW.TrodAll enc Tryz.prog W 0 (fun _ => true) true Tryz.f8.params.toList args.toList ds p := hA0
 rw [Tryz.params8] at hA hval
 obtain ⟨v0, v1, v2, d0, d1, d2, p0, p1, p2, rfl, rfl, rfl, h0, h1, h2⟩ := trodAll_three hA
 obtain ⟨rfl, rfl⟩ := trodVars_none hV
 have k0 : Value.okWide Tryz.prog W .any base 3 v0 := hval 0 3 v0 rfl rfl
 obtain ⟨x0, rfl⟩ := rd_int (by kernel_rfl) k0
 have hlt0 : ∀ x ∈ p0, x.block < W.heap.size := fun x hx => hW'.lt x (by simp [hx])
 have k1 : Value.okWide Tryz.prog W .any base 3 v1 := hval 1 3 v1 rfl rfl
 obtain ⟨x1, rfl⟩ := rd_int (by kernel_rfl) k1
 have hlt1 : ∀ x ∈ p1, x.block < W.heap.size := fun x hx => hW'.lt x (by simp [hx])
 have k2 : Value.okWide Tryz.prog W .any base 28 v2 := hval 2 28 v2 rfl rfl
 obtain ⟨l2, r2⟩ := rd_ints (b := base) (e := 3) (by kernel_rfl) (by kernel_rfl) (by kernel_rfl) k2 h2
 have hlt2 : ∀ x ∈ p2, x.block < W.heap.size := fun x hx => hW'.lt x (by simp [hx])
 obtain ⟨g, hG⟩ := starts8 hS hL
 refine (call_of (nil_ok x0 x1 l2 ⟨Int.le_refl _, Int.natCast_nonneg _, by have := rd_bound r2; simp only [intsD, List.length_map, maxLen] at this; omega⟩) hG (args := [.int .i64 x0, .int .i64 x1, v2]) (All2.cons (show Rd W _ (.i x0) (.int .i64 x0) from .v _ rfl) (All2.cons (show Rd W _ (.i x1) (.int .i64 x1) from .v _ rfl) (All2.one (show Rd W _ (.sl 1 (intsD l2)) v2 from r2))))).mono ?_
 rintro e W' ⟨rfl, hb⟩
 refine ⟨_, rfl, _, _, _, [], _, [], hW', trodAll_mk1 (shut_bool Tryz.underlying4 _), trodAll_mk3 (Below.trod laidOut (by kernel_rfl) (of_decide_eq_true (by kernel_rfl)) h0 hb hlt0) (Below.trod laidOut (by kernel_rfl) (of_decide_eq_true (by kernel_rfl)) h1 hb hlt1) (Below.trod laidOut (by kernel_rfl) (of_decide_eq_true (by kernel_rfl)) h2 hb hlt2), rfl, hb.frame _, fun h => by cases h⟩
theorem replicaNil_met (os : Os) (args : Array Value) : laidMetH Tryz.prog Rows.replicaNilRow.laid ((World.laidAll Tryz.prog os Rows.replicaNilRow.laid).forCall (fun _ _ => 0) ⟨#[], args, []⟩).memory := by
 rw [MakeChecks.laidMetH_plain _ _ _ (by kernel_rfl)]; exact laidMet_laidAll _ (by kernel_rfl) (by kernel_rfl)
set_option maxRecDepth 100000 in
theorem replicaNil_lifted (os : Os) (started : os.Started) (H : Type) (enc : TypeId × Value → H) (F : Stop.Interp) :
  ReturnsInHanded {} Tryz.checked os 8 .any ((OpenSpec.ofChange Rows.replicaNilSpec).preRow enc Tryz.prog Tryz.f8 Rows.replicaNilRow.domain false Rows.replicaNilRow.laid) (((OpenSpec.ofChange Rows.replicaNilSpec).at F).post enc Tryz.prog Tryz.f8 false true false false) := by
 refine returnsInHanded_of_row (C := Tryz.checked) (s := OpenSpec.ofChange Rows.replicaNilSpec) own started (by kernel_rfl) Tryz.func8
  (ChangeSpec.witness_shaped (enc := enc) (C := Tryz.checked) (os := os) (X := fun w _ => laidMetH Tryz.prog Rows.replicaNilRow.laid w) false (World.laidAll Tryz.prog os Rows.replicaNilRow.laid) #[.int .i64 0, .int .i64 0, .slice none 0 0] 8 (World.laidAll_os _ _ _)
   (World.shaped_of_ZipB (by kernel_rfl) (by kernel_rfl)) (by kernel_rfl) (by kernel_rfl) (by kernel_rfl) (replicaNil_met os _)) ?_
 intro W base args ds gs before hval hW _ _ _ hL hS _
 exact replicaNil_contract H enc W base args ds gs before hval hW hL hS
theorem replicaNil_said : Rows.ReplicaNilSaid :=
 OpenClaim.holds_of_cond 8 Tryz.f8 rfl rfl rfl rfl rfl rfl rfl ⟨rfl, rfl, rfl, rfl, rfl⟩ rfl rfl rfl rfl rfl (by kernel_rfl) Tryz.func8 aEW
  (of_decide_eq_true (by kernel_rfl)) (by unfold Func.isWrapper; first | (rw [if_pos (by decide +kernel)]; kernel_rfl) | (rw [if_neg (by decide +kernel)]; exact ⟨rfl, rfl⟩))
  (fun os started H enc _ F => by rw [OpenClaim.pre_eq_preRow]; exact replicaNil_lifted os started H enc F)
theorem replicaNil_plain (f : FuncId) (fn : Func) (hf : Tryz.pinned.checked.prog.funcNamed "concord/concordlaw33.ReplicaNil" = some f) (hfn : Tryz.pinned.checked.prog.funcs[f]? = some fn) :
  true = Tryz.pinned.checked.prog.looks [] ∧ ∀ (j : Nat) t, fn.params[j]? = some t → Tryz.pinned.checked.prog.wantsStandIn t = false := by
 obtain rfl : f = 8 := Option.some.inj ((show Tryz.prog.funcNamed "concord/concordlaw33.ReplicaNil" = some 8 by kernel_rfl).symm.trans hf) |>.symm
 obtain rfl : fn = Tryz.f8 := (Option.some.inj (Tryz.func8.symm.trans hfn)).symm
 refine ⟨by kernel_rfl, fun j t ht => ?_⟩
 rw [Tryz.params8] at ht
 have hm : t ∈ [3, 3, 28] := by simpa using Array.mem_of_getElem? ht
 have hall : ([3, 3, 28].all fun u => !Tryz.prog.wantsStandIn u) = true := by kernel_rfl
 exact (show Tryz.prog.wantsStandIn t = false by simpa using List.all_eq_true.1 hall t hm)
theorem replicaNil_card : Rows.ReplicaNilCardSaid :=
 Claim7.holds_tied_plain_at .later [] _ _ _ _ replicaNil_said (fun _ h => by cases h) (by kernel_rfl) (fun _ h => by cases h) replicaNil_row_tie rfl ⟨rfl, rfl⟩ (by kernel_rfl) rfl replicaNil_plain aI7
end Go.Proofs.YtclaplngjmgnoaaGreatDoor
