/- ReplicaNet: over a net that loses, doubles and delays messages, replicas have the same lines when it has no troubles any more: the law returns true for all lists of calls and all lists of troubles, and its arguments read as before (Rows.ReplicaNetCardSaid). Condition: the listed package variables hold what the program lays. -/
import Derived.Test.YtclaplngjmgnoaaGreatDoorP32
import Derived.Test.YtclaplngjmgnoaaGreatDoorP33
import Derived.Test.YtclaplngjmgnoaaGreatDoorP34
import Derived.Test.YtclaplngjmgnoaaGreatDoorP48
set_option linter.all false
namespace Go.Proofs.YtclaplngjmgnoaaGreatDoor
set_option maxRecDepth 100000
open Go.ChangeShapes Go.WideShapes Go.ChangeAt Go.RowKit Go.V
theorem replicaNet_contract (H : Type) (enc : TypeId × Value -> H) (W : World) (base : Nat) (args : Array Value) (ds gs : List (DataW H)) (before : List MemPlace)
  (hval : ∀ (j : Nat) t v,Tryz.f9.params[j]? = some t -> args[j]? = some v -> Value.okWide Tryz.prog W .any base t v)
  (hW : DataW.Whole enc Tryz.prog Tryz.f9.params.toList Rows.replicaNetSpec.vars false W args.toList ds gs before) (hL : laidMetH Tryz.prog Rows.replicaNetRow.laid W) (hS : W.ShapedOpen Tryz.prog) :
  Calls Tryz.prog 9 args W fun e W' => ∃ v,e = .returned v /\ Rows.replicaNetSpec.post enc Tryz.prog Tryz.f9 false true false false W args v W' := by
 have hW' := hW;obtain ⟨p,q,hA0,hV,rfl,hfz,hnd⟩ := hW;have hA : DataW.TrodAll enc Tryz.prog W 0 (fun _ => true) true Tryz.f9.params.toList args.toList ds p := hA0;rw [Tryz.params9] at hA hval;obtain ⟨v0,v1,d0,d1,p0,p1,rfl,rfl,rfl,h0,h1⟩ := trodAll_two hA;obtain ⟨rfl,rfl⟩ := trodVars_none hV;have k0 : Value.okWide Tryz.prog W .any base 22 v0 := hval 0 22 v0 rfl rfl;obtain ⟨l0,n0,r0⟩ := rd_acts (b := base) (e := 30) (i := 3) (s := 28) (by kernel_rfl) (by kernel_rfl) (by kernel_rfl) (by kernel_rfl) (by kernel_rfl) (by kernel_rfl) (by kernel_rfl) (by kernel_rfl) (by kernel_rfl) (by kernel_rfl) (by kernel_rfl) k0 h0;have hlt0 : ∀ x ∈ p0,x.block < W.heap.size := fun x hx => hW'.lt x (by simp [hx]);have k1 : Value.okWide Tryz.prog W .any base 75 v1 := hval 1 75 v1 rfl rfl;obtain ⟨l1,r1⟩ := rd_tbs (b := base) (e := 77) (i := 3) (s := 4) (by kernel_rfl) (by kernel_rfl) (by kernel_rfl) (by kernel_rfl) (by kernel_rfl) (by kernel_rfl) (by kernel_rfl) (by kernel_rfl) (by kernel_rfl) (by kernel_rfl) k1 h1;have hlt1 : ∀ x ∈ p1,x.block < W.heap.size := fun x hx => hW'.lt x (by simp [hx]);obtain ⟨g,hG⟩ := starts8 hS hL;refine (call_of (net_ok l0 l1 (acs_num n0) (by have := rd_bound r0; simp only [bP,lm,maxLen] at this; omega)) hG (args := [v0,v1]) (All2.cons (show Rd W _ (.sl 4 (bP l0)) v0 from r0) (All2.one (show Rd W _ (.sl 3 (aK l1)) v1 from r1)))).mono ?_;rintro e W' ⟨rfl,hb⟩;refine ⟨_,rfl,_,_,_,[],_,[],hW',trodAll_mk1 (shut_bool Tryz.underlying4 _),trodAll_mk2 (Below.trod laidOut (by kernel_rfl) (of_decide_eq_true (by kernel_rfl)) h0 hb hlt0) (Below.trod laidOut (by kernel_rfl) (of_decide_eq_true (by kernel_rfl)) h1 hb hlt1),rfl,hb.frame _,fun h => by cases h⟩
theorem replicaNet_met (os : Os) (args : Array Value) : laidMetH Tryz.prog Rows.replicaNetRow.laid ((World.laidAll Tryz.prog os Rows.replicaNetRow.laid).forCall (fun _ _ => 0) ⟨#[],args,[]⟩).memory := by
 rw [MakeChecks.laidMetH_plain _ _ _ (by kernel_rfl)]; exact laidMet_laidAll _ (by kernel_rfl) (by kernel_rfl)
theorem replicaNet_lifted (os : Os) (started : os.Started) (H : Type) (enc : TypeId × Value -> H) (F : Stop.Interp) :
  ReturnsInHanded {} Tryz.checked os 9 .any ((OpenSpec.ofChange Rows.replicaNetSpec).preRow enc Tryz.prog Tryz.f9 Rows.replicaNetRow.domain false Rows.replicaNetRow.laid) (((OpenSpec.ofChange Rows.replicaNetSpec).at F).post enc Tryz.prog Tryz.f9 false true false false) := by
 refine returnsInHanded_of_row (C := Tryz.checked) (s := OpenSpec.ofChange Rows.replicaNetSpec) own started (by kernel_rfl) Tryz.func9
  (ChangeSpec.witness_shaped (enc := enc) (C := Tryz.checked) (os := os) (X := fun w _ => laidMetH Tryz.prog Rows.replicaNetRow.laid w) false (World.laidAll Tryz.prog os Rows.replicaNetRow.laid) #[.slice none 0 0,.slice none 0 0] 8 (World.laidAll_os _ _ _)
   (World.shaped_of_ZipB (by kernel_rfl) (by kernel_rfl)) (by kernel_rfl) (by kernel_rfl) (by kernel_rfl) (replicaNet_met os _)) ?_
 intro W base args ds gs before hval hW _ _ _ hL hS _;exact replicaNet_contract H enc W base args ds gs before hval hW hL hS
theorem replicaNet_said : Rows.ReplicaNetSaid :=
 OpenClaim.holds_of_cond 9 Tryz.f9 rfl rfl rfl rfl rfl rfl rfl ⟨rfl,rfl,rfl,rfl,rfl⟩ rfl rfl rfl rfl rfl (by kernel_rfl) Tryz.func9 aGY
  (of_decide_eq_true (by kernel_rfl)) (by unfold Func.isWrapper; first | (rw [if_pos (by decide +kernel)]; kernel_rfl) | (rw [if_neg (by decide +kernel)]; exact ⟨rfl,rfl⟩))
  (fun os started H enc _ F => by rw [OpenClaim.pre_eq_preRow]; exact replicaNet_lifted os started H enc F)
theorem replicaNet_plain (f : FuncId) (fn : Func) (hf : Tryz.pinned.checked.prog.funcNamed "concord/concordlaw33.ReplicaNet" = some f) (hfn : Tryz.pinned.checked.prog.funcs[f]? = some fn) :
  true = Tryz.pinned.checked.prog.looks [] /\ ∀ (j : Nat) t,fn.params[j]? = some t -> Tryz.pinned.checked.prog.wantsStandIn t = false := by
 obtain rfl : f = 9 := Option.some.inj ((show Tryz.prog.funcNamed "concord/concordlaw33.ReplicaNet" = some 9 by kernel_rfl).symm.trans hf) |>.symm
 obtain rfl : fn = Tryz.f9 := (Option.some.inj (Tryz.func9.symm.trans hfn)).symm;refine ⟨by kernel_rfl,fun j t ht => ?_⟩;rw [Tryz.params9] at ht;have hm : t ∈ [22,75] := by simpa using Array.mem_of_getElem? ht
 have hall : ([22,75].all fun u => !Tryz.prog.wantsStandIn u) = true := by kernel_rfl
 exact (show Tryz.prog.wantsStandIn t = false by simpa using at1.1 hall t hm)
theorem replicaNet_card : Rows.ReplicaNetCardSaid :=
 Claim7.holds_tied_plain_at .later [] _ _ _ _ replicaNet_said (fun _ h => by cases h) (by kernel_rfl) (fun _ h => by cases h) replicaNet_row_tie rfl ⟨rfl,rfl⟩ (by kernel_rfl) rfl replicaNet_plain aLA
end Go.Proofs.YtclaplngjmgnoaaGreatDoor
