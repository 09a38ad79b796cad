/- GrammarEqual: Equal is that of the reference, and two right grammars have the same text exactly if they are equal: the law returns true for every two lists of numbers and every change, and its arguments read as before (Rows.GrammarEqualCardSaid). Condition: the listed package variables hold what the program lays. -/
import Derived.Test.YtgpedhfdniigoaaGreatDoorP31
import Derived.Test.YtgpedhfdniigoaaGreatDoorP32
import Derived.Test.YtgpedhfdniigoaaGreatDoorP33
import Derived.Test.YtgpedhfdniigoaaGreatDoorP49
import Derived.Test.YtgpedhfdniigoaaGreatDoorTie
set_option linter.all false
namespace Go.Proofs.YtgpedhfdniigoaaGreatDoor
set_option maxRecDepth 100000
open Go.ChangeShapes Go.WideShapes Go.ChangeAt Go.RowKit Go.V
theorem grammarEqual_contract (H : Type) (enc : TypeId × Value -> H) (W : World) (base : Nat) (args : Array Value) (ds gs : List (DataW H)) (before : List MemPlace)
  (hval : ∀ (j : Nat) t v,Tryz.f7.params[j]? = some t -> args[j]? = some v -> Value.okWide Tryz.prog W .any base t v)
  (hW : DataW.Whole enc Tryz.prog Tryz.f7.params.toList Rows.grammarEqualSpec.vars false W args.toList ds gs before) (hL : laidMetH Tryz.prog Rows.grammarEqualRow.laid W) (hS : W.ShapedOpen Tryz.prog) :
  Calls Tryz.prog 7 args W fun e W' => ∃ v,e = .returned v /\ Rows.grammarEqualSpec.post enc Tryz.prog Tryz.f7 false true false false W args v W' := by
 have hW' := hW
 obtain ⟨p,q,hA0,hV,rfl,hfz,hnd⟩ := hW
 have hA : DataW.TrodAll enc Tryz.prog W 0 (fun _ => true) true Tryz.f7.params.toList args.toList ds p := hA0
 rw [Tryz.params7] at hA hval
 obtain ⟨v0,v1,v2,d0,d1,d2,p0,p1,p2,rfl,rfl,rfl,h0,h1,h2⟩ := trodAll_three hA
 obtain ⟨rfl,rfl⟩ := trodVars_none hV
 have k0 : Value.okWide Tryz.prog W .any base 22 v0 := hval 0 22 v0 rfl rfl
 obtain ⟨l0,r0⟩ := rd_ints (b := base) (e := 3) (by kernel_rfl) (by kernel_rfl) (by kernel_rfl) k0 h0
 have hlt0 : ∀ x ∈ p0,x.block < W.heap.size := fun x hx => hW'.lt x (by simp [hx])
 have k1 : Value.okWide Tryz.prog W .any base 22 v1 := hval 1 22 v1 rfl rfl
 obtain ⟨l1,r1⟩ := rd_ints (b := base) (e := 3) (by kernel_rfl) (by kernel_rfl) (by kernel_rfl) k1 h1
 have hlt1 : ∀ x ∈ p1,x.block < W.heap.size := fun x hx => hW'.lt x (by simp [hx])
 have k2 : Value.okWide Tryz.prog W .any base 23 v2 := hval 2 23 v2 rfl rfl
 obtain ⟨x2,y2,z2,r2⟩ := rd_3int (e := 3) (by kernel_rfl) (by kernel_rfl) (by kernel_rfl) (by kernel_rfl) k2
 have hlt2 : ∀ x ∈ p2,x.block < W.heap.size := fun x hx => hW'.lt x (by simp [hx])
 obtain ⟨g,hG⟩ := starts8 hS hL
 refine (call_of (aJM (g := g) l0 l1 ⟨by omega,by omega,by have := rd_bound r0; simp only [intsD,lm,maxLen] at this; omega⟩ ⟨by omega,by omega,by have := rd_bound r1; simp only [intsD,lm,maxLen] at this; omega⟩ x2 y2 z2) hG (args := [v0,v1,v2]) (All2.cons (show Rd W _ (.sl 1 (intsD l0)) v0 from r0) (All2.cons (show Rd W _ (.sl 1 (intsD l1)) v1 from r1) (All2.one r2)))).mono ?_
 rintro e W' ⟨rfl,hb⟩
 refine ⟨_,rfl,_,_,_,[],_,[],hW',trodAll_mk1 (shut_bool Tryz.underlying4 _),trodAll_mk3 (Below.trod laidOut (by kernel_rfl) (of_decide_eq_true (by kernel_rfl)) h0 hb hlt0) (Below.trod laidOut (by kernel_rfl) (of_decide_eq_true (by kernel_rfl)) h1 hb hlt1) (Below.trod laidOut (by kernel_rfl) (of_decide_eq_true (by kernel_rfl)) h2 hb hlt2),rfl,hb.frame _,fun h => by cases h⟩
theorem grammarEqual_met (os : Os) (args : Array Value) : laidMetH Tryz.prog Rows.grammarEqualRow.laid ((World.laidAll Tryz.prog os Rows.grammarEqualRow.laid).forCall (fun _ _ => 0) ⟨#[],args,[]⟩).memory := by
 rw [MakeChecks.laidMetH_plain _ _ _ (by kernel_rfl)]; exact laidMet_laidAll _ (by kernel_rfl) (by kernel_rfl)
theorem grammarEqual_lifted (os : Os) (started : os.Started) (H : Type) (enc : TypeId × Value -> H) (F : Stop.Interp) :
  ReturnsInHanded {} Tryz.checked os 7 .any ((OpenSpec.ofChange Rows.grammarEqualSpec).preRow enc Tryz.prog Tryz.f7 Rows.grammarEqualRow.domain false Rows.grammarEqualRow.laid) (((OpenSpec.ofChange Rows.grammarEqualSpec).at F).post enc Tryz.prog Tryz.f7 false true false false) := by
 refine returnsInHanded_of_row (C := Tryz.checked) (s := OpenSpec.ofChange Rows.grammarEqualSpec) own started (by kernel_rfl) Tryz.func7
  (ChangeSpec.witness_shaped (enc := enc) (C := Tryz.checked) (os := os) (X := fun w _ => laidMetH Tryz.prog Rows.grammarEqualRow.laid w) false (World.laidAll Tryz.prog os Rows.grammarEqualRow.laid) #[.slice none 0 0,.slice none 0 0,.agg #[.int .i64 0,.int .i64 0,.int .i64 0]] 8 (World.laidAll_os _ _ _)
   (World.shaped_of_ZipB (by kernel_rfl) (by kernel_rfl)) (by kernel_rfl) (by kernel_rfl) (by kernel_rfl) (grammarEqual_met os _)) ?_
 intro W base args ds gs before hval hW _ _ _ hL hS _
 exact grammarEqual_contract H enc W base args ds gs before hval hW hL hS
theorem grammarEqual_said : Rows.GrammarEqualSaid :=
 OpenClaim.holds_of_cond 7 Tryz.f7 rfl rfl rfl rfl rfl rfl rfl ⟨rfl,rfl,rfl,rfl,rfl⟩ rfl rfl rfl rfl rfl (by kernel_rfl) Tryz.func7 aEE
  (of_decide_eq_true (by kernel_rfl)) (by unfold Func.isWrapper; first | (rw [if_pos (by decide +kernel)]; kernel_rfl) | (rw [if_neg (by decide +kernel)]; exact ⟨rfl,rfl⟩))
  (fun os started H enc _ F => by rw [OpenClaim.pre_eq_preRow]; exact grammarEqual_lifted os started H enc F)
theorem grammarEqual_plain (f : FuncId) (fn : Func) (hf : Tryz.pinned.checked.prog.funcNamed "concord/concordlaw13.GrammarEqual" = some f) (hfn : Tryz.pinned.checked.prog.funcs[f]? = some fn) :
  true = Tryz.pinned.checked.prog.looks [] /\ ∀ (j : Nat) t,fn.params[j]? = some t -> Tryz.pinned.checked.prog.wantsStandIn t = false := by
 obtain rfl : f = 7 := Option.some.inj ((show Tryz.prog.funcNamed "concord/concordlaw13.GrammarEqual" = some 7 by kernel_rfl).symm.trans hf) |>.symm
 obtain rfl : fn = Tryz.f7 := (Option.some.inj (Tryz.func7.symm.trans hfn)).symm
 refine ⟨by kernel_rfl,fun j t ht => ?_⟩
 rw [Tryz.params7] at ht
 have hm : t ∈ [22,22,23] := by simpa using Array.mem_of_getElem? ht
 have hall : ([22,22,23].all fun u => !Tryz.prog.wantsStandIn u) = true := by kernel_rfl
 exact (show Tryz.prog.wantsStandIn t = false by simpa using at1.1 hall t hm)
theorem grammarEqual_card : Rows.GrammarEqualCardSaid :=
 Claim7.holds_tied_plain_at .later [] _ _ _ _ grammarEqual_said (fun _ h => by cases h) (by kernel_rfl) (fun _ h => by cases h) grammarEqual_row_tie rfl ⟨rfl,rfl⟩ (by kernel_rfl) rfl grammarEqual_plain aHF
end Go.Proofs.YtgpedhfdniigoaaGreatDoor
