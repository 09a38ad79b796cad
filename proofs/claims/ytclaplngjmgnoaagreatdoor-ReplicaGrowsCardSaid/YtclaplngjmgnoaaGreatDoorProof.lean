/- ReplicaGrows: what a replica has been told it does not forget, and its lines are read by the reference: the law returns true for all lists of calls, and its arguments read as before (Rows.ReplicaGrowsCardSaid). Condition: the listed package variables hold what the program lays. -/
import Derived.Test.YtclaplngjmgnoaaGreatDoorP29
import Derived.Test.YtclaplngjmgnoaaGreatDoorP30
import Derived.Test.YtclaplngjmgnoaaGreatDoorP31
import Derived.Test.YtclaplngjmgnoaaGreatDoorP47
set_option linter.all false
namespace Go.Proofs.YtclaplngjmgnoaaGreatDoor
set_option maxRecDepth 100000
open Go.ChangeShapes Go.WideShapes Go.ChangeAt Go.RowKit Go.V
theorem replicaGrows_contract (H : Type) (enc : TypeId × Value -> H) (W : World) (base : Nat) (args : Array Value) (ds gs : List (DataW H)) (before : List MemPlace)
  (hval : ∀ (j : Nat) t v,Tryz.f5.params[j]? = some t -> args[j]? = some v -> Value.okWide Tryz.prog W .any base t v)
  (hW : DataW.Whole enc Tryz.prog Tryz.f5.params.toList Rows.replicaGrowsSpec.vars false W args.toList ds gs before) (hL : laidMetH Tryz.prog Rows.replicaGrowsRow.laid W) (hS : W.ShapedOpen Tryz.prog) :
  Calls Tryz.prog 5 args W fun e W' => ∃ v,e = .returned v /\ Rows.replicaGrowsSpec.post enc Tryz.prog Tryz.f5 false true false false W args v W' := by
 have hW' := hW
 obtain ⟨p,q,hA0,hV,rfl,hfz,hnd⟩ := hW
 have hA : DataW.TrodAll enc Tryz.prog W 0 (fun _ => true) true Tryz.f5.params.toList args.toList ds p := hA0
 rw [Tryz.params5] at hA hval
 obtain ⟨v0,d0,rfl,rfl,h0⟩ := trodAll_one hA
 obtain ⟨rfl,rfl⟩ := trodVars_none hV
 have k0 : Value.okWide Tryz.prog W .any base 22 v0 := hval 0 22 v0 rfl rfl
 obtain ⟨l0,n0,r0⟩ := rd_acts (b := base) (e := 30) (i := 3) (s := 28) (by kernel_rfl) (by kernel_rfl) (by kernel_rfl) (by kernel_rfl) (by kernel_rfl) (by kernel_rfl) (by kernel_rfl) (by kernel_rfl) (by kernel_rfl) (by kernel_rfl) (by kernel_rfl) k0 h0
 have hlt0 : ∀ x ∈ p,x.block < W.heap.size := fun x hx => hW'.lt x (by simp [hx])
 obtain ⟨g,hG⟩ := starts8 hS hL
 refine (call_of (grows_ok l0 (acs_num n0) (by have := rd_bound r0; simp only [bJ,lm,maxLen] at this; omega)) hG (args := [v0]) (All2.one (show Rd W _ (.sl 4 (bJ l0)) v0 from r0))).mono ?_
 rintro e W' ⟨rfl,hb⟩
 refine ⟨_,rfl,_,_,_,[],_,[],hW',trodAll_mk1 (shut_bool Tryz.underlying4 _),trodAll_mk1 (Below.trod laidOut (by kernel_rfl) (of_decide_eq_true (by kernel_rfl)) h0 hb hlt0),rfl,hb.frame _,fun h => by cases h⟩
theorem replicaGrows_met (os : Os) (args : Array Value) : laidMetH Tryz.prog Rows.replicaGrowsRow.laid ((World.laidAll Tryz.prog os Rows.replicaGrowsRow.laid).forCall (fun _ _ => 0) ⟨#[],args,[]⟩).memory := by
 rw [MakeChecks.laidMetH_plain _ _ _ (by kernel_rfl)]; exact laidMet_laidAll _ (by kernel_rfl) (by kernel_rfl)
theorem replicaGrows_lifted (os : Os) (started : os.Started) (H : Type) (enc : TypeId × Value -> H) (F : Stop.Interp) :
  ReturnsInHanded {} Tryz.checked os 5 .any ((OpenSpec.ofChange Rows.replicaGrowsSpec).preRow enc Tryz.prog Tryz.f5 Rows.replicaGrowsRow.domain false Rows.replicaGrowsRow.laid) (((OpenSpec.ofChange Rows.replicaGrowsSpec).at F).post enc Tryz.prog Tryz.f5 false true false false) := by
 refine returnsInHanded_of_row (C := Tryz.checked) (s := OpenSpec.ofChange Rows.replicaGrowsSpec) own started (by kernel_rfl) Tryz.func5
  (ChangeSpec.witness_shaped (enc := enc) (C := Tryz.checked) (os := os) (X := fun w _ => laidMetH Tryz.prog Rows.replicaGrowsRow.laid w) false (World.laidAll Tryz.prog os Rows.replicaGrowsRow.laid) #[.slice none 0 0] 8 (World.laidAll_os _ _ _)
   (World.shaped_of_ZipB (by kernel_rfl) (by kernel_rfl)) (by kernel_rfl) (by kernel_rfl) (by kernel_rfl) (replicaGrows_met os _)) ?_
 intro W base args ds gs before hval hW _ _ _ hL hS _
 exact replicaGrows_contract H enc W base args ds gs before hval hW hL hS
theorem replicaGrows_said : Rows.ReplicaGrowsSaid :=
 OpenClaim.holds_of_cond 5 Tryz.f5 rfl rfl rfl rfl rfl rfl rfl ⟨rfl,rfl,rfl,rfl,rfl⟩ rfl rfl rfl rfl rfl (by kernel_rfl) Tryz.func5 aDP
  (of_decide_eq_true (by kernel_rfl)) (by unfold Func.isWrapper; first | (rw [if_pos (by decide +kernel)]; kernel_rfl) | (rw [if_neg (by decide +kernel)]; exact ⟨rfl,rfl⟩))
  (fun os started H enc _ F => by rw [OpenClaim.pre_eq_preRow]; exact replicaGrows_lifted os started H enc F)
theorem replicaGrows_plain (f : FuncId) (fn : Func) (hf : Tryz.pinned.checked.prog.funcNamed "concord/concordlaw33.ReplicaGrows" = some f) (hfn : Tryz.pinned.checked.prog.funcs[f]? = some fn) :
  true = Tryz.pinned.checked.prog.looks [] /\ ∀ (j : Nat) t,fn.params[j]? = some t -> Tryz.pinned.checked.prog.wantsStandIn t = false := by
 obtain rfl : f = 5 := Option.some.inj ((show Tryz.prog.funcNamed "concord/concordlaw33.ReplicaGrows" = some 5 by kernel_rfl).symm.trans hf) |>.symm
 obtain rfl : fn = Tryz.f5 := (Option.some.inj (Tryz.func5.symm.trans hfn)).symm
 refine ⟨by kernel_rfl,fun j t ht => ?_⟩
 rw [Tryz.params5] at ht
 have hm : t ∈ [22] := by simpa using Array.mem_of_getElem? ht
 have hall : ([22].all fun u => !Tryz.prog.wantsStandIn u) = true := by kernel_rfl
 exact (show Tryz.prog.wantsStandIn t = false by simpa using at1.1 hall t hm)
theorem replicaGrows_card : Rows.ReplicaGrowsCardSaid :=
 Claim7.holds_tied_plain_at .later [] _ _ _ _ replicaGrows_said (fun _ h => by cases h) (by kernel_rfl) (fun _ h => by cases h) replicaGrows_row_tie rfl ⟨rfl,rfl⟩ (by kernel_rfl) rfl replicaGrows_plain aG4
end Go.Proofs.YtclaplngjmgnoaaGreatDoor
