/- Part 49 of the proof: texts K7. -/
import Derived.Test.YtdejnaokkdndeaaGreatDoorP48
set_option linter.all false
namespace Go.Proofs.YtdejnaokkdndeaaGreatDoor
open Go.RowKit Go.V
variable {m : Int}
theorem unI_ints (l : List Int) : unI (intsD l) = l := by
 unfold unI intsD
 rw [List.map_map]
 conv => rhs; rw [← List.map_id l]
 exact List.map_congr_left fun x _ => rfl
theorem nmV_of (l : List Int) (kind : Int) (h : kind = 2 ∨ kind = 3) : nmV (intsD l) 0 kind = (cvM l 0 kind).1.toV := by
 unfold nmV
 rw [unI_ints]
 rcases h with rfl | rfl <;> simp [cvM, Cl.toV] <;> split <;> simp
theorem small_fit {v : Vl} (h1 : v.s.length ≤ 200) (h2 : v.cols = []) (h3 : v.rows = []) : v.fit :=
 ⟨(by unfold maxLen; omega), (by rw [h2]; intro t ht; cases ht), (by rw [h3]; intro t ht; cases ht)⟩
theorem vN_right (l : List Int) : cRight (vN (intsD l)) := by
 have h := cv_good l 0 2
 unfold vN
 rw [nmV_of l 2 (.inl rfl)]
 refine ⟨?_, small_fit h.len rfl rfl⟩
 have e := h.right
 have k : ¬ (cvM l 0 2).1.toV.kind = 5 := h.kind
 simp only [rightK] at e
 simp only [rightB, rightK, if_neg k] at e ⊢
 exact e
theorem vD_right (l : List Int) : cRight (vD (intsD l)) := by
 have h := cv_good l 0 3
 unfold vD
 rw [nmV_of l 3 (.inr rfl)]
 refine ⟨?_, small_fit h.len rfl rfl⟩
 have e := h.right
 have k : ¬ (cvM l 0 3).1.toV.kind = 5 := h.kind
 simp only [rightK] at e
 simp only [rightB, rightK, if_neg k] at e ⊢
 exact e
theorem vN_eq (l : List Int) : vN (intsD l) = nm (vN (intsD l)).dn (vN (intsD l)).ds := by
 unfold vN
 rw [nmV_of l 2 (.inl rfl)]
 simp [cvM, Cl.toV, nm]
theorem vD_eq (l : List Int) : vD (intsD l) = dt (vD (intsD l)).n := by
 unfold vD
 rw [nmV_of l 3 (.inr rfl)]
 simp [cvM, Cl.toV, dt]
 split <;> simp
theorem nm_right {n s : Int} (h : decB n s = true) : cRight (nm n s) := ⟨by simp [rightB, rightK, nm, bareB, h], small_fit (by simp [nm]) rfl rfl⟩
theorem nm_dec {n s : Int} (h : cRight (nm n s)) : decB n s = true := by
 have := h.1
 simpa [rightB, rightK, nm, bareB] using this
theorem dt_bd {n : Int} (h : cRight (dt n)) : 0 ≤ n ∧ n ≤ 3652058 := by
 have := h.1
 simp [rightB, rightK, dt, bareB] at this
 exact ⟨of_decide_eq_true this.1, of_decide_eq_true this.2⟩
theorem ok_dig {c : UInt8} (h : isDig c = true) : okByte c = true := by
 simp only [isDig, okByte, Bool.and_eq_true, decide_eq_true_eq] at *
 have h1 := h.1; have h2 := h.2
 omega
theorem decT_ok {n s : Int} (h : 0 ≤ s) : (decT n s).all okByte = true := by
 rw [decT_abs h, absT]
 have h1 : ∀ q, (natT q).all okByte = true := fun q => List.all_eq_true.2 fun c hc => ok_dig (List.all_eq_true.1 (natT_val q).2 c hc)
 have h2 : ∀ a k, (lowD a k).all okByte = true := fun a k => List.all_eq_true.2 fun c hc => ok_dig (List.all_eq_true.1 (lowD_dig k a) c hc)
 rw [List.all_append, List.all_append, h1]
 split <;> split <;> simp [okByte, h2, List.all_cons]
theorem tx_right' {n s : Int} (h : decB n s = true) : cRight (tx (decT n s)) := by
 have hl := decT_len18 h
 obtain ⟨a, _⟩ := decB_bd h
 have hs : (S (decT n s)).data.toList = decT n s := S_dat _
 refine ⟨?_, small_fit (by simp only [tx, hs]; omega) rfl rfl⟩
 have : isTextL (decT n s) = true := by
  have hb : bs (S (decT n s)) = decT n s := S_dat _
  simp only [isTextL, isTextB, hb, S_size, Bool.and_eq_true, decide_eq_true_eq]
  exact ⟨decT_ok a, by omega⟩
 simp [rightB, rightK, tx, bareB, hs, this]
theorem same_of {v w : Vl} (h : v = w) : cSame v w true := by unfold cSame; simp [h]
theorem same_not {v w : Vl} (h : ¬ v = w) : cSame v w false := by unfold cSame; simp [h]
theorem num_ok (l : List Int) (kind : Int) (hl : (l.length : Int) ≤ 9223372036854775807) (h : kind = 2 ∨ kind = 3) : cNum (intsD l) 0 kind := by
 refine ⟨by rw [unI_ints], ?_, h⟩
 rw [unI_ints]
 exact ⟨Int.le_refl 0, by omega, hl⟩
theorem csR_ok {a b c d : List Int} {x y : Int} {eq : Bool} {r : List Prop} (hr : conj r) (hn : r ≠ [])
  (hx : decCmp (vN (intsD a)).dn (vN (intsD a)).ds (vN (intsD b)).dn (vN (intsD b)).ds = x) (hy : decCmp (vN (intsD b)).dn (vN (intsD b)).ds (vN (intsD a)).dn (vN (intsD a)).ds = y) (he : cSame (vN (intsD a)) (vN (intsD b)) eq) : conj (csR (intsD a) (intsD b) (intsD c) (intsD d) x y eq r) := by
 have ra := vN_right a; have rb := vN_right b; have rc := vD_right c; have rd := vD_right d
 have ea := vN_eq a; have eb := vN_eq b; have ec := vD_eq c; have ed := vD_eq d
 have da : decB (vN (intsD a)).dn (vN (intsD a)).ds = true := nm_dec (by rw [← ea]; exact ra)
 have db : decB (vN (intsD b)).dn (vN (intsD b)).ds = true := nm_dec (by rw [← eb]; exact rb)
 have dc := dt_bd (n := (vD (intsD c)).n) (by rw [← ec]; exact rc)
 have dd := dt_bd (n := (vD (intsD d)).n) (by rw [← ed]; exact rd)
 have hl := decT_len18 da
 cases r with
 | nil => exact absurd rfl hn
 | cons p q =>
  refine ⟨same_of ?_, ⟨dc, by omega, by omega⟩, nm_right (decB_of (Int.le_refl 0) (by decide) (.inl rfl) (by omega) (by omega)), rc, same_of ea.symm, ⟨da, rfl⟩, tx_right' da, da, ?_, ra, inR_of (by omega) (by omega), ⟨by omega, by omega⟩, rd, rc, he, rb, ra, ⟨db, da, hy⟩, ra, rb, ⟨da, db, hx⟩, rb, ra, hr⟩
  ·conv => rhs; rw [ed]
   congr 1; omega
  ·unfold cTV; rw [S_size]; omega
theorem numbers_ok (a b c d : List Int) (ha : (a.length : Int) ≤ 9223372036854775807) (hb : (b.length : Int) ≤ 9223372036854775807) (hc : (c.length : Int) ≤ 9223372036854775807) (hd : (d.length : Int) ≤ 9223372036854775807) :
  V.Spec Tryz.prog (Gl (gT m)) 5 (insN (intsD a) (intsD b) (intsD c) (intsD d)) [] (.c (.d (.b true))) [] := by
 have ra := vN_right a; have rb := vN_right b
 have ea := vN_eq a; have eb := vN_eq b
 have da : decB (vN (intsD a)).dn (vN (intsD a)).ds = true := nm_dec (by rw [← ea]; exact ra)
 have db : decB (vN (intsD b)).dn (vN (intsD b)).ds = true := nm_dec (by rw [← eb]; exact rb)
 have hab := decCmp_eq da db
 have hba := decCmp_eq db da
 have hne : ¬ decV (vN (intsD a)).dn (vN (intsD a)).ds = decV (vN (intsD b)).dn (vN (intsD b)).ds → cSame (vN (intsD a)) (vN (intsD b)) false := fun h => same_not fun e => h (by rw [e])
 have heq : decV (vN (intsD a)).dn (vN (intsD a)).ds = decV (vN (intsD b)).dn (vN (intsD b)).ds → cSame (vN (intsD a)) (vN (intsD b)) true := fun h => same_of (by
  obtain ⟨e1, e2⟩ := decV_inj da db h
  rw [ea, eb, e1, e2])
 obtain ⟨rn, rs, z, hJ⟩ := isJ_ex (decV (vN (intsD a)).dn (vN (intsD a)).ds + decV (vN (intsD b)).dn (vN (intsD b)).ds)
 have hE : conj (csE (intsD a) (intsD b) (intsD c) (intsD d) rn rs z) := ⟨⟨da, db, hJ⟩, rb, ra, num_ok d 3 hd (.inr rfl), num_ok c 3 hc (.inr rfl), num_ok b 2 hb (.inl rfl), num_ok a 2 ha (.inl rfl)⟩
 cases z with
 | true =>
  obtain ⟨j1, j2⟩ := hJ.1 rfl
  have hS : conj (cSame (nm (vN (intsD a)).dn (vN (intsD a)).ds) (vN (intsD a)) true :: cSub rn rs (vN (intsD b)).dn (vN (intsD b)).ds (vN (intsD a)).dn (vN (intsD a)).ds true :: cRight (vN (intsD b)) :: cRight (nm rn rs) :: csE (intsD a) (intsD b) (intsD c) (intsD d) rn rs true) :=
   ⟨same_of ea.symm, ⟨j1, db, fun _ => ⟨da, by omega⟩, fun h => by cases h⟩, rb, nm_right j1, hE⟩
  rcases ci_cases (decV (vN (intsD a)).dn (vN (intsD a)).ds) (decV (vN (intsD b)).dn (vN (intsD b)).ds) with ⟨h, h'⟩ | ⟨h, h'⟩ | ⟨h, h'⟩ <;> rcases ci_cases (decV (vN (intsD b)).dn (vN (intsD b)).ds) (decV (vN (intsD a)).dn (vN (intsD a)).ds) with ⟨k, k'⟩ | ⟨k, k'⟩ | ⟨k, k'⟩ <;> first | (exfalso; omega) | skip
  ·exact specX _ _ hmix (runYl m _ _ _ _ rn rs) (csR_ok hS (by simp) (hab.trans h') (hba.trans k') (hne (by omega)))
  ·exact specX _ _ hmix (runYe m _ _ _ _ rn rs) (csR_ok hS (by simp) (hab.trans h') (hba.trans k') (heq (by omega)))
  ·exact specX _ _ hmix (runYg m _ _ _ _ rn rs) (csR_ok hS (by simp) (hab.trans h') (hba.trans k') (hne (by omega)))
 | false =>
  obtain ⟨rfl, rfl, _⟩ := hJ.2 rfl
  rcases ci_cases (decV (vN (intsD a)).dn (vN (intsD a)).ds) (decV (vN (intsD b)).dn (vN (intsD b)).ds) with ⟨h, h'⟩ | ⟨h, h'⟩ | ⟨h, h'⟩ <;> rcases ci_cases (decV (vN (intsD b)).dn (vN (intsD b)).ds) (decV (vN (intsD a)).dn (vN (intsD a)).ds) with ⟨k, k'⟩ | ⟨k, k'⟩ | ⟨k, k'⟩ <;> first | (exfalso; omega) | skip
  ·exact specX _ _ hmix (runZl m _ _ _ _) (csR_ok hE (by simp [csE]) (hab.trans h') (hba.trans k') (hne (by omega)))
  ·exact specX _ _ hmix (runZe m _ _ _ _) (csR_ok hE (by simp [csE]) (hab.trans h') (hba.trans k') (heq (by omega)))
  ·exact specX _ _ hmix (runZg m _ _ _ _) (csR_ok hE (by simp [csE]) (hab.trans h') (hba.trans k') (hne (by omega)))
end Go.Proofs.YtdejnaokkdndeaaGreatDoor
