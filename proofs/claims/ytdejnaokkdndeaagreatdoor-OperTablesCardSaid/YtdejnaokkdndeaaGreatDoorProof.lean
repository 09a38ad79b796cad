/- OperTables: where finds as many rows as there are with the text, pick keeps all rows, a lookup finds the cell of the first row with a key, and table gives the whole table: the law returns true for all numbers of the base and every key, and its arguments read as before (Rows.OperTablesCardSaid). Condition: the listed package variables hold what the program lays. -/
import Derived.Test.YtdejnaokkdndeaaGreatDoorP29
import Derived.Test.YtdejnaokkdndeaaGreatDoorP30
import Derived.Test.YtdejnaokkdndeaaGreatDoorP31
import Derived.Test.YtdejnaokkdndeaaGreatDoorP45
set_option linter.all false
namespace Go.Proofs.YtdejnaokkdndeaaGreatDoor
open Go.ChangeShapes Go.WideShapes Go.ChangeAt Go.RowKit Go.V
set_option maxRecDepth 100000 in
theorem operTables_contract (H : Type) (enc : TypeId × Value → H) (W : World) (base : Nat) (args : Array Value) (ds gs : List (DataW H)) (before : List MemPlace)
  (hval : ∀ (j : Nat) t v, Tryz.f7.params[j]? = some t → args[j]? = some v → Value.okWide Tryz.prog W .any base t v)
  (hW : DataW.Whole enc Tryz.prog Tryz.f7.params.toList Rows.operTablesSpec.vars false W args.toList ds gs before) (hL : laidMetH Tryz.prog Rows.operTablesRow.laid W) (hS : W.ShapedOpen Tryz.prog) :
  Calls Tryz.prog 7 args W fun e W' => ∃ v, e = .returned v ∧ Rows.operTablesSpec.post enc Tryz.prog Tryz.f7 false true false false W args v W' := by
 have hW' := hW
 obtain ⟨p, q, hA0, hV, rfl, hfz, hnd⟩ := hW
 have hA : DataW.TrodAll enc Tryz.prog W 0 (fun _ => true) true Tryz.f7.params.toList args.toList ds p := hA0
 rw [Tryz.params7] at hA hval
 obtain ⟨v0, v1, d0, d1, p0, p1, rfl, rfl, rfl, h0, h1⟩ := trodAll_two hA
 obtain ⟨rfl, rfl⟩ := trodVars_none hV
 have k0 : Value.okWide Tryz.prog W .any base 24 v0 := hval 0 24 v0 rfl rfl
 obtain ⟨l0, r0⟩ := rd_ints (b := base) (e := 3) (by kernel_rfl) (by kernel_rfl) (by kernel_rfl) k0 h0
 have hlt0 : ∀ x ∈ p0, x.block < W.heap.size := fun x hx => hW'.lt x (by simp [hx])
 have k1 : Value.okWide Tryz.prog W .any base 3 v1 := hval 1 3 v1 rfl rfl
 obtain ⟨x1, rfl⟩ := rd_int (by kernel_rfl) k1
 have hlt1 : ∀ x ∈ p1, x.block < W.heap.size := fun x hx => hW'.lt x (by simp [hx])
 obtain ⟨g, hg, hG⟩ := starts9 hS hL
 obtain ⟨mm, rfl⟩ : ∃ mm, g = gT mm := ⟨g.maxLen, by cases g; simp only at hg; subst hg; rfl⟩
 refine (call_of (tables_ok mm l0 x1 (by have := rd_bound r0; simp only [intsD, List.length_map, maxLen] at this; omega)) hG (args := [v0, .int .i64 x1]) (All2.cons (show Rd W _ (.sl 1 (intsD l0)) v0 from r0) (All2.one (show Rd W _ (.i x1) (.int .i64 x1) from .v _ rfl)))).mono ?_
 rintro e W' ⟨rfl, hb⟩
 refine ⟨_, rfl, _, _, _, [], _, [], hW', trodAll_mk1 (shut_bool Tryz.underlying4 _), trodAll_mk2 (Below.trod laidOut (by kernel_rfl) (of_decide_eq_true (by kernel_rfl)) h0 hb hlt0) (Below.trod laidOut (by kernel_rfl) (of_decide_eq_true (by kernel_rfl)) h1 hb hlt1), rfl, hb.frame _, fun h => by cases h⟩
theorem operTables_met (os : Os) (args : Array Value) : laidMetH Tryz.prog Rows.operTablesRow.laid ((World.laidAll Tryz.prog os Rows.operTablesRow.laid).forCall (fun _ _ => 0) ⟨#[], args, []⟩).memory := by
 rw [MakeChecks.laidMetH_plain _ _ _ (by kernel_rfl)]; exact laidMet_laidAll _ (by kernel_rfl) (by kernel_rfl)
set_option maxRecDepth 100000 in
theorem operTables_lifted (os : Os) (started : os.Started) (H : Type) (enc : TypeId × Value → H) (F : Stop.Interp) :
  ReturnsInHanded {} Tryz.checked os 7 .any ((OpenSpec.ofChange Rows.operTablesSpec).preRow enc Tryz.prog Tryz.f7 Rows.operTablesRow.domain false Rows.operTablesRow.laid) (((OpenSpec.ofChange Rows.operTablesSpec).at F).post enc Tryz.prog Tryz.f7 false true false false) := by
 refine returnsInHanded_of_row (C := Tryz.checked) (s := OpenSpec.ofChange Rows.operTablesSpec) own started (by kernel_rfl) Tryz.func7
  (ChangeSpec.witness_shaped (enc := enc) (C := Tryz.checked) (os := os) (X := fun w _ => laidMetH Tryz.prog Rows.operTablesRow.laid w) false (World.laidAll Tryz.prog os Rows.operTablesRow.laid) #[.slice none 0 0, .int .i64 0] 8 (World.laidAll_os _ _ _)
   (World.shaped_of_ZipB (by kernel_rfl) (by kernel_rfl)) (by kernel_rfl) (by kernel_rfl) (by kernel_rfl) (operTables_met os _)) ?_
 intro W base args ds gs before hval hW _ _ _ hL hS _
 exact operTables_contract H enc W base args ds gs before hval hW hL hS
theorem operTables_said : Rows.OperTablesSaid :=
 OpenClaim.holds_of_cond 7 Tryz.f7 rfl rfl rfl rfl rfl rfl rfl ⟨rfl, rfl, rfl, rfl, rfl⟩ rfl rfl rfl rfl rfl (by kernel_rfl) Tryz.func7 operTables_closed
  (of_decide_eq_true (by kernel_rfl)) (by unfold Func.isWrapper; first | (rw [if_pos (by decide +kernel)]; kernel_rfl) | (rw [if_neg (by decide +kernel)]; exact ⟨rfl, rfl⟩))
  (fun os started H enc _ F => by rw [OpenClaim.pre_eq_preRow]; exact operTables_lifted os started H enc F)
theorem operTables_plain (f : FuncId) (fn : Func) (hf : Tryz.pinned.checked.prog.funcNamed "concord/concordlaw11.OperTables" = some f) (hfn : Tryz.pinned.checked.prog.funcs[f]? = some fn) :
  true = Tryz.pinned.checked.prog.looks [] ∧ ∀ (j : Nat) t, fn.params[j]? = some t → Tryz.pinned.checked.prog.wantsStandIn t = false := by
 obtain rfl : f = 7 := Option.some.inj ((show Tryz.prog.funcNamed "concord/concordlaw11.OperTables" = some 7 by kernel_rfl).symm.trans hf) |>.symm
 obtain rfl : fn = Tryz.f7 := (Option.some.inj (Tryz.func7.symm.trans hfn)).symm
 refine ⟨by kernel_rfl, fun j t ht => ?_⟩
 rw [Tryz.params7] at ht
 have hm : t ∈ [24, 3] := by simpa using Array.mem_of_getElem? ht
 have hall : ([24, 3].all fun u => !Tryz.prog.wantsStandIn u) = true := by kernel_rfl
 exact (show Tryz.prog.wantsStandIn t = false by simpa using List.all_eq_true.1 hall t hm)
theorem operTables_card : Rows.OperTablesCardSaid :=
 Claim7.holds_tied_plain_at .later [] _ _ _ _ operTables_said (fun _ h => by cases h) (by kernel_rfl) (fun _ h => by cases h) operTables_row_tie rfl ⟨rfl, rfl⟩ (by kernel_rfl) rfl operTables_plain operTables_goes
end Go.Proofs.YtdejnaokkdndeaaGreatDoor
