/- Part 38 of the proof: texts S11c. -/
import Derived.Test.YtdejnaokkdndeaaGreatDoorP36
set_option linter.all false
namespace Go.Proofs.YtdejnaokkdndeaaGreatDoor
open Go.RowKit Go.V
theorem hD : CellF ClD := fun c => ⟨rfl, fun j x y hx hy => by rw [hx] at hy; injection hy with hy; subst hy; exact Wk.refl _⟩
def TabW (nm : List UInt8) (cols : List (List UInt8)) (rows : List (List Cl)) : Prop := TabOk [.agg [.d (.s (S nm)), .d (.sl 1 (strs cols)), .d (.sl 1 (rowsD rows))]]
theorem wkRefl {l : List D} : All2 Wk l l := ⟨rfl, fun j x y hx hy => by rw [hx] at hy; injection hy with hy; subst hy; exact Wk.refl _⟩
theorem tabW_of {nm : List UInt8} {cols : List (List UInt8)} {rows : List (List Cl)} (K : Nat → Int) (h0 : nm.length ≤ 1000) (h1 : rightB ⟨5, [], 0, 0, 0, [nm], []⟩ = true) (h2 : 1 ≤ cols.length) (h3 : cols.length ≤ 8) (h4 : rows.length ≤ 100) (hn : allR cols.length (nameAt cols) = true) (hl : ∀ t, t ∈ cols → t.length ≤ 20)
  (hr : ∀ r, r ∈ rows → r.length = cols.length ∧ (∀ c, c ∈ r → c.good) ∧ ∀ c, c < cols.length → (r.getD c Cl.z).kind = 0 ∨ (r.getD c Cl.z).kind = K c) : TabW nm cols rows := by
 obtain ⟨a1, a2⟩ := tab_right h3 h4 hn hl fun r h => ⟨(hr r h).1, (hr r h).2.1⟩
 refine ⟨nm, cols, rows, K, All2.one (WkS.refl _), by unfold maxLen; omega, h1, h2, by omega, by omega, a2, a1, fun i hi => (hr _ (getD_mem (z := []) hi)).1, fun i c hi hc => (hr _ (getD_mem (z := []) hi)).2.2 c hc⟩
theorem rates_all (l : List Int) : AllB (nuL l) (daL l) (boL l) (lbL l) (bR l).1 ∧ (bR l).1.length ≤ 4 := by
 have a1 := nxV_bd l 0 (n := 3) (by decide)
 have hb : bN l = 2 ∨ bN l = 3 ∨ bN l = 4 := by unfold bN; omega
 rcases hb with hb | hb | hb
 ·rw [base_rows l hb (by decide) (by decide)]; exact ⟨allB _ _ _ _ 2 (by decide) (by decide), by simp [rowsB]⟩
 ·rw [base_rows l hb (by decide) (by decide)]; exact ⟨allB _ _ _ _ 3 (by decide) (by decide), by simp [rowsB]⟩
 ·rw [base_rows l hb (by decide) (by decide)]; exact ⟨allB _ _ _ _ 4 (by decide) (by decide), by simp [rowsB]⟩
theorem rates_tab (l : List Int) : TabW ratesN cols9L (bR l).1 := by
 obtain ⟨h, hl⟩ := rates_all l
 refine tabW_of K9 (by decide) (by decide) (by decide) (by decide) (by omega) names9 len9 fun r hr => ?_
 obtain ⟨t, i, ht, rfl⟩ := h r hr
 exact ⟨(row_good (base_good l) ht i).1, (row_good (base_good l) ht i).2.1, (row_good (base_good l) ht i).2.2⟩
def townsN : List UInt8 := [116, 111, 119, 110, 115]
def isK (x : Int) : Prop := x = 1 ∨ x = 2 ∨ x = 3
theorem kind9_is (j : Nat) (h : j < 4) : isK (kind9L.getD j 0) := by
 have hj : j = 0 ∨ j = 1 ∨ j = 2 ∨ j = 3 := by omega
 rcases hj with rfl | rfl | rfl | rfl <;> simp [kind9L, isK]
theorem kd9_spec (l : List Int) : ∀ (f j : Nat) (k : Int), (kd9 l f j k).1.length = f ∧ ∀ x, x ∈ (kd9 l f j k).1 → isK x
 | 0, j, k => ⟨rfl, fun x h => (by cases h)⟩
 | f + 1, j, k => by
  obtain ⟨h1, h2⟩ := kd9_spec l f (j + 1) (nxK l k 2)
  have hx := nxV_bd l k (n := 2) (by decide)
  have hy := Int.tmod_nonneg 4 (a := (j : Int) + nxV l k 2 * 2) (by omega)
  have hy2 := Int.tmod_lt_of_pos ((j : Int) + nxV l k 2 * 2) (b := 4) (by decide)
  refine ⟨by simp [kd9, h1], fun x h => ?_⟩
  simp only [kd9, List.mem_cons] at h
  rcases h with rfl | h
  ·exact kind9_is _ (by omega)
  ·exact h2 x h
theorem c9_is {kind n : Int} (hk : isK kind) (h0 : 0 ≤ n) (h1 : n < 5) : (c9 kind n).good ∧ ((c9 kind n).kind = 0 ∨ (c9 kind n).kind = kind) := by
 have hn : n = 0 ∨ n = 1 ∨ n = 2 ∨ n = 3 ∨ n = 4 := by omega
 rcases hk with rfl | rfl | rfl <;> rcases hn with rfl | rfl | rfl | rfl | rfl <;> exact ⟨⟨by decide, by decide, by decide⟩, by decide⟩
theorem rw9_spec (l : List Int) : ∀ (kds : List Int) (k : Int), (∀ x, x ∈ kds → isK x) → (rw9 l kds k).1.length = kds.length ∧ (∀ c, c ∈ (rw9 l kds k).1 → c.good) ∧ ∀ i, i < kds.length → ((rw9 l kds k).1.getD i Cl.z).kind = 0 ∨ ((rw9 l kds k).1.getD i Cl.z).kind = kds.getD i 0
 | [], k, h => ⟨rfl, fun c h => (by cases h), fun i hi => (by simp at hi)⟩
 | kd :: r, k, h => by
  obtain ⟨h1, h2, h3⟩ := rw9_spec l r (nxK l k 5) fun x hx => h x (List.mem_cons_of_mem _ hx)
  have hx := nxV_bd l k (n := 5) (by decide)
  have hc := c9_is (h kd List.mem_cons_self) hx.1 hx.2
  refine ⟨by simp [rw9, h1], fun c hm => ?_, fun i hi => ?_⟩
  ·simp only [rw9, List.mem_cons] at hm
   rcases hm with rfl | hm
   ·exact hc.1
   ·exact h2 c hm
  ·cases i with
   | zero => exact hc.2
   | succ i =>
    have := h3 i (by simpa using hi)
    simpa [rw9] using this
theorem rs9_spec (l : List Int) (kds : List Int) (hk : ∀ x, x ∈ kds → isK x) : ∀ (n : Nat) (k : Int), (rs9 l kds n k).1.length = n ∧ ∀ r, r ∈ (rs9 l kds n k).1 → r.length = kds.length ∧ (∀ c, c ∈ r → c.good) ∧ ∀ i, i < kds.length → (r.getD i Cl.z).kind = 0 ∨ (r.getD i Cl.z).kind = kds.getD i 0
 | 0, k => ⟨rfl, fun r h => (by cases h)⟩
 | n + 1, k => by
  obtain ⟨h1, h2⟩ := rs9_spec l kds hk n (rw9 l kds k).2
  refine ⟨by simp [rs9, h1], fun r hm => ?_⟩
  simp only [rs9, List.mem_cons] at hm
  rcases hm with rfl | hm
  ·exact rw9_spec l kds k hk
  ·exact h2 r hm
theorem towns_tab (l : List Int) : TabW townsN (col9L.take (mN9 l)) (mR9 l) := by
 have a1 := nxV_bd l 0 (n := 4) (by decide)
 have hm : mN9 l = 1 ∨ mN9 l = 2 ∨ mN9 l = 3 ∨ mN9 l = 4 := by unfold mN9; omega
 obtain ⟨k1, k2⟩ := kd9_spec l (mN9 l) 0 (nxK l 0 4)
 have hk : ∀ x, x ∈ (mK9 l).1.set 0 1 → isK x := fun x hx => by
  rcases List.mem_or_eq_of_mem_set hx with h | h
  ·exact k2 x h
  ·exact .inl h
 have hkl : ((mK9 l).1.set 0 1).length = mN9 l := by rw [List.length_set]; exact k1
 obtain ⟨r1, r2⟩ := rs9_spec l ((mK9 l).1.set 0 1) hk (nxV l (mK9 l).2 7).toNat (nxK l (mK9 l).2 7)
 have a7 := nxV_bd l (mK9 l).2 (n := 7) (by decide)
 have hcl : (col9L.take (mN9 l)).length = mN9 l := by rw [List.length_take, show col9L.length = 4 from rfl]; omega
 refine tabW_of (fun c => ((mK9 l).1.set 0 1).getD c 0) (by decide) (by decide) (by omega) (by omega) (by show (rs9 _ _ _ _).1.length ≤ 100; omega) ?_ ?_ fun r hr => ?_
 ·rcases hm with h | h | h | h <;> rw [h] <;> decide
 ·rcases hm with h | h | h | h <;> rw [h] <;> decide
 ·obtain ⟨b1, b2, b3⟩ := r2 r hr
  rw [hkl] at b1 b3
  rw [hcl]
  exact ⟨b1, b2, b3⟩
theorem towns_bd (l : List Int) : (col9L.take (mN9 (bT l))).length ≤ 1000 ∧ (mR9 (bT l)).length ≤ 1000 ∧ ∀ i, i < (mR9 (bT l)).length → ((mR9 (bT l)).getD i []).length = (col9L.take (mN9 (bT l))).length := by
 have a1 := nxV_bd (bT l) 0 (n := 4) (by decide)
 have hm : mN9 (bT l) ≤ 4 := by unfold mN9; omega
 obtain ⟨k1, k2⟩ := kd9_spec (bT l) (mN9 (bT l)) 0 (nxK (bT l) 0 4)
 have hk : ∀ x, x ∈ (mK9 (bT l)).1.set 0 1 → isK x := fun x hx => by
  rcases List.mem_or_eq_of_mem_set hx with h | h
  ·exact k2 x h
  ·exact .inl h
 have hkl : ((mK9 (bT l)).1.set 0 1).length = mN9 (bT l) := by rw [List.length_set]; exact k1
 obtain ⟨r1, r2⟩ := rs9_spec (bT l) ((mK9 (bT l)).1.set 0 1) hk (nxV (bT l) (mK9 (bT l)).2 7).toNat (nxK (bT l) (mK9 (bT l)).2 7)
 have a7 := nxV_bd (bT l) (mK9 (bT l)).2 (n := 7) (by decide)
 have hcl : (col9L.take (mN9 (bT l))).length = mN9 (bT l) := by rw [List.length_take, show col9L.length = 4 from rfl]; omega
 refine ⟨by omega, by show (rs9 _ _ _ _).1.length ≤ 1000; omega, fun i hi => ?_⟩
 exact ((r2 ((mR9 (bT l)).getD i []) (getD_mem (z := []) hi)).1).trans (hkl.trans hcl.symm)
def besN (l : List Int) : List (List D) := [[.s (S ratesN), .sl 1 (strs cols9L), .sl 1 (rowsF ClN (bR l).1)], [.s (S townsN), .sl 1 (strs (col9L.take (mN9 (bT l)))), .sl 1 (rowsD (mR9 (bT l)))]]
def besW (l : List Int) : List (List D) := [[.s (S ratesN), .sl 1 (strs cols9L), .sl 1 (rowsD (bR l).1)], [.s (S townsN), .sl 1 (strs (col9L.take (mN9 (bT l)))), .sl 1 (rowsD (mR9 (bT l)))]]
theorem bes_wk (l : List Int) : WkS (.c (.d (.sl 3 (besN l)))) (.c (.d (.sl 3 (besW l)))) := fun w pl own v hv =>
 Wk.sl (All2.cons (All2.cons (Wk.refl _) (All2.cons (Wk.refl _) (All2.one (wkRows hN (bR l).1)))) (All2.one wkRefl)) w _ v hv
theorem base11_ok (m : Int) (l : List Int) (h : NumOk l 0) : V.Spec Tryz.prog (Gl (gT m)) 13 [.c (.d (.sl 1 (intsD l)))] [] (.c (.d (.sl 3 (besN l)))) [] := base_ok (g := gT m) l h
theorem ty_wk {m : Int} {op p : List UInt8} {l : List Int} {out : SV} (h : V.Spec Tryz.prog (Gl (gT m)) 15 (tyA op p (besW l)) [] out []) : V.Spec Tryz.prog (Gl (gT m)) 15 (tyA op p (besN l)) [] out [] :=
 spec_wk (All2.cons (WkS.refl _) (All2.cons (WkS.refl _) (All2.cons (bes_wk l) (All2.one (WkS.refl _))))) h
end Go.Proofs.YtdejnaokkdndeaaGreatDoor
