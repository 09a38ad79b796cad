/- Part 39 of the proof: texts W22. -/
import Derived.Test.YtdejnaokkdndeaaGreatDoorP29
import Derived.Test.YtdejnaokkdndeaaGreatDoorP38
import Derived.Maps.RangeRun
set_option linter.all false
namespace Go.V
open Go.RowKit
section
variable {P : Program} {R : Wp P} {fr : Fr} {n : Nat} {env : Env} {own : Own} {a : Act} {w w' : World} {pl : Pl} {root : Code} {Q : Exit → Act → World → Prop}
end
section
variable {P : Program} {R : Wp P} {fr : Fr} {n : Nat} {root : Code} {Q : Exit → Act → World → Prop}
end
section
variable {P : Program} {G : List (Nat × List Value)} {n : Nat}
theorem aCB {l iL p p2 : Nat} {r : Loop} {sv sv2 : SV} {refs : aS} {out : SV} {post : aS} {env0 : bK} (hL : lookO refs iL = some (.box ⟨.raw (.loop r), some l⟩ [])) (hps : r.params = #[p, p2]) (hn : r.tmps.size = n) (hp : p < n) (hp2 : p2 < n) (hpp : ¬ p = p2) (hT : tmE refs r.tmps env0)
  (h : ∀ fr : Fr, FrIs fr G [] → W (fG P l) fr n r.assign (Exit.then (aBA P l r.body (iO fr out post)) (fun _ _ _ => False)) (.code []) ⟨(p, [], sv) :: (p2, [], sv2) :: env0, refs⟩) : iS P G l [sv, sv2] refs out post := by
 intro fr w pl args hw hG m ha
 obtain ⟨v, t, rfl, hv, ht⟩ := ha.uncons
 obtain ⟨v2, t2, rfl, hv2, ht2⟩ := ht.uncons
 obtain rfl := ht2.unnil
 obtain ⟨vs, hh, _⟩ := m.obj iL _ hL
 rw [m.pin iL _ _ l hL rfl] at hh
 have hh : w.heap[l]? = some (.loop r) := hh
 refine ⟨r.fn, _, r.assign, r.body, run_yield hh (by rw [hps]; rfl), roundIn_of_wpIn trivial ?_⟩
 have hfold : (r.params.zip [v, v2].toArray).foldl (fun tmps (t, a) => tmps.setIfInBounds t a) r.tmps = (r.tmps.setIfInBounds p v).setIfInBounds p2 v2 := by rw [hps]; simp
 rw [hfold]
 refine h fr hG r.assign rfl _ w ⟨pl, m, fun _ => (hG.ds rfl).1.symm, ?_, fun t q s hf _ => ?_, fun t q s hf hh => ?_, ⟨fun q hq => (by rw [hG.lat] at hq; cases hq), fun hf => (by rw [(hG.ds rfl).2] at hf; cases hf)⟩⟩
 show ((r.tmps.setIfInBounds p v).setIfInBounds p2 v2).size = n
 simp [hn]
 show SvOk w pl (lookO refs) s (((r.tmps.setIfInBounds p v).setIfInBounds p2 v2).getD t undef)
 simp only [aF] at hf
 split at hf
 rename_i hu
 simp only [beq_iff_eq] at hu
 simp only [Option.some.injEq, Prod.mk.injEq] at hf
 obtain ⟨rfl, rfl⟩ := hf
 subst hu
 simp only [Array.getD_eq_getD_getElem?, Array.getElem?_setIfInBounds, if_neg (Ne.symm hpp), if_true]
 rw [if_pos (by omega)]
 exact hv
 rename_i hu
 have hne' : t ≠ p := fun e => hu (by simp [e])
 split at hf
 rename_i hu2
 simp only [beq_iff_eq] at hu2
 simp only [Option.some.injEq, Prod.mk.injEq] at hf
 obtain ⟨rfl, rfl⟩ := hf
 subst hu2
 simp only [Array.getD_eq_getD_getElem?, Array.getElem?_setIfInBounds, if_true]
 rw [if_pos (by simp; omega)]
 exact hv2
 rename_i hu2
 have hne2 : t ≠ p2 := fun e => hu2 (by simp [e])
 simp only [Array.getD_eq_getD_getElem?, Array.getElem?_setIfInBounds, if_neg (Ne.symm hne'), if_neg (Ne.symm hne2)]
 rw [← Array.getD_eq_getD_getElem?]
 exact (oW m hT t q s hf).2
 simp only [aF] at hf
 split at hf
 simp only [Option.some.injEq, Prod.mk.injEq] at hf
 rw [← hf.1] at hh
 exact absurd holds_nil hh
 split at hf
 simp only [Option.some.injEq, Prod.mk.injEq] at hf
 rw [← hf.1] at hh
 exact absurd holds_nil hh
 rw [(oW m hT t q s hf).1] at hh
 exact absurd holds_nil hh
end
section
variable {P : Program} {R : Wp P} {fr : Fr} {n : Nat} {root : Code} {Q : Exit → Act → World → Prop} {w : World} {pl : Pl}
end
end Go.V
