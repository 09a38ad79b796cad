/- ReplicaOrder: the order of messages, and how often they come, play no part: the law returns true for all lists of calls, all orders of messages and all repetitions, and its arguments read as before (Rows.ReplicaOrderCardSaid). Condition: the listed package variables hold what the program lays. -/
import Derived.Test.YtclaplngjmgnoaaGreatDoorP29
import Derived.Test.YtclaplngjmgnoaaGreatDoorP30
import Derived.Test.YtclaplngjmgnoaaGreatDoorP31
import Derived.Test.YtclaplngjmgnoaaGreatDoorP45
set_option linter.all false
namespace Go.Proofs.YtclaplngjmgnoaaGreatDoor
set_option maxRecDepth 100000
open Go.ChangeShapes Go.WideShapes Go.ChangeAt Go.RowKit Go.V
theorem replicaOrder_contract (H : Type) (enc : TypeId × Value -> H) (W : World) (base : Nat) (args : Array Value) (ds gs : List (DataW H)) (before : List MemPlace)
  (hval : ∀ (j : Nat) t v, Tryz.f4.params[j]? = some t -> args[j]? = some v -> Value.okWide Tryz.prog W .any base t v)
  (hW : DataW.Whole enc Tryz.prog Tryz.f4.params.toList Rows.replicaOrderSpec.vars false W args.toList ds gs before) (hL : laidMetH Tryz.prog Rows.replicaOrderRow.laid W) (hS : W.ShapedOpen Tryz.prog) :
  Calls Tryz.prog 4 args W fun e W' => ∃ v, e = .returned v /\ Rows.replicaOrderSpec.post enc Tryz.prog Tryz.f4 false true false false W args v W' := by
 have hW' := hW
 obtain ⟨p, q, hA0, hV, rfl, hfz, hnd⟩ := hW
 have hA : DataW.TrodAll enc Tryz.prog W 0 (fun _ => true) true Tryz.f4.params.toList args.toList ds p := hA0
 rw [Tryz.params4] at hA hval
 obtain ⟨v0, v1, v2, d0, d1, d2, p0, p1, p2, rfl, rfl, rfl, h0, h1, h2⟩ := trodAll_three hA
 obtain ⟨rfl, rfl⟩ := trodVars_none hV
 have k0 : Value.okWide Tryz.prog W .any base 22 v0 := hval 0 22 v0 rfl rfl
 obtain ⟨l0, n0, r0⟩ := rd_acts (b := base) (e := 30) (i := 3) (s := 28) (by kernel_rfl) (by kernel_rfl) (by kernel_rfl) (by kernel_rfl) (by kernel_rfl) (by kernel_rfl) (by kernel_rfl) (by kernel_rfl) (by kernel_rfl) (by kernel_rfl) (by kernel_rfl) k0 h0
 have hlt0 : ∀ x ∈ p0, x.block < W.heap.size := fun x hx => hW'.lt x (by simp [hx])
 have k1 : Value.okWide Tryz.prog W .any base 28 v1 := hval 1 28 v1 rfl rfl
 obtain ⟨l1, r1⟩ := rd_ints (b := base) (e := 3) (by kernel_rfl) (by kernel_rfl) (by kernel_rfl) k1 h1
 have hlt1 : ∀ x ∈ p1, x.block < W.heap.size := fun x hx => hW'.lt x (by simp [hx])
 have k2 : Value.okWide Tryz.prog W .any base 28 v2 := hval 2 28 v2 rfl rfl
 obtain ⟨l2, r2⟩ := rd_ints (b := base) (e := 3) (by kernel_rfl) (by kernel_rfl) (by kernel_rfl) k2 h2
 have hlt2 : ∀ x ∈ p2, x.block < W.heap.size := fun x hx => hW'.lt x (by simp [hx])
 obtain ⟨g, hG⟩ := starts8 hS hL
 refine (call_of (order_ok l0 l1 l2 (acs_num n0) (by have := rd_bound r0; simp only [cZ, List.length_map, maxLen] at this; omega) (by have := rd_bound r1; simp only [intsD, List.length_map, maxLen] at this; omega) (by have := rd_bound r2; simp only [intsD, List.length_map, maxLen] at this; omega)) hG (args := [v0, v1, v2]) (All2.cons (show Rd W _ (.sl 4 (cZ l0)) v0 from r0) (All2.cons (show Rd W _ (.sl 1 (intsD l1)) v1 from r1) (All2.one (show Rd W _ (.sl 1 (intsD l2)) v2 from r2))))).mono ?_
 rintro e W' ⟨rfl, hb⟩
 refine ⟨_, rfl, _, _, _, [], _, [], hW', trodAll_mk1 (shut_bool Tryz.underlying4 _), trodAll_mk3 (Below.trod laidOut (by kernel_rfl) (of_decide_eq_true (by kernel_rfl)) h0 hb hlt0) (Below.trod laidOut (by kernel_rfl) (of_decide_eq_true (by kernel_rfl)) h1 hb hlt1) (Below.trod laidOut (by kernel_rfl) (of_decide_eq_true (by kernel_rfl)) h2 hb hlt2), rfl, hb.frame _, fun h => by cases h⟩
theorem replicaOrder_met (os : Os) (args : Array Value) : laidMetH Tryz.prog Rows.replicaOrderRow.laid ((World.laidAll Tryz.prog os Rows.replicaOrderRow.laid).forCall (fun _ _ => 0) ⟨#[], args, []⟩).memory := by
 rw [MakeChecks.laidMetH_plain _ _ _ (by kernel_rfl)]; exact laidMet_laidAll _ (by kernel_rfl) (by kernel_rfl)
theorem replicaOrder_lifted (os : Os) (started : os.Started) (H : Type) (enc : TypeId × Value -> H) (F : Stop.Interp) :
  ReturnsInHanded {} Tryz.checked os 4 .any ((OpenSpec.ofChange Rows.replicaOrderSpec).preRow enc Tryz.prog Tryz.f4 Rows.replicaOrderRow.domain false Rows.replicaOrderRow.laid) (((OpenSpec.ofChange Rows.replicaOrderSpec).at F).post enc Tryz.prog Tryz.f4 false true false false) := by
 refine returnsInHanded_of_row (C := Tryz.checked) (s := OpenSpec.ofChange Rows.replicaOrderSpec) own started (by kernel_rfl) Tryz.func4
  (ChangeSpec.witness_shaped (enc := enc) (C := Tryz.checked) (os := os) (X := fun w _ => laidMetH Tryz.prog Rows.replicaOrderRow.laid w) false (World.laidAll Tryz.prog os Rows.replicaOrderRow.laid) #[.slice none 0 0, .slice none 0 0, .slice none 0 0] 8 (World.laidAll_os _ _ _)
   (World.shaped_of_ZipB (by kernel_rfl) (by kernel_rfl)) (by kernel_rfl) (by kernel_rfl) (by kernel_rfl) (replicaOrder_met os _)) ?_
 intro W base args ds gs before hval hW _ _ _ hL hS _
 exact replicaOrder_contract H enc W base args ds gs before hval hW hL hS
theorem replicaOrder_said : Rows.ReplicaOrderSaid :=
 OpenClaim.holds_of_cond 4 Tryz.f4 rfl rfl rfl rfl rfl rfl rfl ⟨rfl, rfl, rfl, rfl, rfl⟩ rfl rfl rfl rfl rfl (by kernel_rfl) Tryz.func4 aB7
  (of_decide_eq_true (by kernel_rfl)) (by unfold Func.isWrapper; first | (rw [if_pos (by decide +kernel)]; kernel_rfl) | (rw [if_neg (by decide +kernel)]; exact ⟨rfl, rfl⟩))
  (fun os started H enc _ F => by rw [OpenClaim.pre_eq_preRow]; exact replicaOrder_lifted os started H enc F)
theorem replicaOrder_plain (f : FuncId) (fn : Func) (hf : Tryz.pinned.checked.prog.funcNamed "concord/concordlaw33.ReplicaOrder" = some f) (hfn : Tryz.pinned.checked.prog.funcs[f]? = some fn) :
  true = Tryz.pinned.checked.prog.looks [] /\ ∀ (j : Nat) t, fn.params[j]? = some t -> Tryz.pinned.checked.prog.wantsStandIn t = false := by
 obtain rfl : f = 4 := Option.some.inj ((show Tryz.prog.funcNamed "concord/concordlaw33.ReplicaOrder" = some 4 by kernel_rfl).symm.trans hf) |>.symm
 obtain rfl : fn = Tryz.f4 := (Option.some.inj (Tryz.func4.symm.trans hfn)).symm
 refine ⟨by kernel_rfl, fun j t ht => ?_⟩
 rw [Tryz.params4] at ht
 have hm : t ∈ [22, 28, 28] := by simpa using Array.mem_of_getElem? ht
 have hall : ([22, 28, 28].all fun u => !Tryz.prog.wantsStandIn u) = true := by kernel_rfl
 exact (show Tryz.prog.wantsStandIn t = false by simpa using List.all_eq_true.1 hall t hm)
theorem replicaOrder_card : Rows.ReplicaOrderCardSaid :=
 Claim7.holds_tied_plain_at .later [] _ _ _ _ replicaOrder_said (fun _ h => by cases h) (by kernel_rfl) (fun _ h => by cases h) replicaOrder_row_tie rfl ⟨rfl, rfl⟩ (by kernel_rfl) rfl replicaOrder_plain aE8
end Go.Proofs.YtclaplngjmgnoaaGreatDoor
