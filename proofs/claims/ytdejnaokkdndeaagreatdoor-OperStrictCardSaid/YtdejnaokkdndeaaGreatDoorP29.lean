/- Part 29 of the proof: texts Yc. -/
import Derived.Test.YtdejnaokkdndeaaGreatDoorP27
import Derived.Test.YtdejnaokkdndeaaGreatDoorP28
import Derived.Deep.Matrix
set_option linter.all false
namespace Go.Proofs.YtdejnaokkdndeaaGreatDoor
open Go.ChangeShapes Go.WideShapes Go.ChangeAt Go.RowKit Go.V
def ints1 (l : List Int) : List D := [.sl 1 (intsD l)]
def intssD (l : List (List Int)) : List (List D) := l.map ints1
section
variable {H : Type} {enc : TypeId × Value → H} {P : Program} {W : World}
theorem rd_inner {A : Option Addr} {L C : Nat} {Z : List Int} (hl : L ≤ C) (hm : C ≤ maxLen) (hZ : Z.length = C) (h0 : A = none → C = 0)
  (hc : ∀ a', A = some a' → ∀ c, c < C → W.cell? (a'.add c) = some (.int .i64 (Z.getD c 0))) : Rd W (Sh pl0 (lookO [])) (.sl 1 (intsD (Z.take L))) (.slice A L C) := by
 rcases Nat.eq_zero_or_pos C with rfl | hC
 ·obtain rfl : L = 0 := by omega
  cases A with
  | none => exact Rd.nil 1
  | some a => exact Rd.far 1 a
 ·cases A with
  | none => have := h0 rfl; omega
  | some a =>
   have hcell := hc a rfl
   have c0 := hcell 0 hC
   obtain ⟨bl, off, sp⟩ := a
   simp only [Addr.add, if_true] at c0
   unfold World.cell? at c0
   split at c0
   ·rename_i c ty fz hb
    obtain rfl : sp = none := by
     cases sp with
     | none => rfl
     | some _ => simp at c0
    have el : (intsD (Z.take L)).length = L := by simp [intsD]; omega
    have key : Rd W (Sh pl0 (lookO [])) (.sl 1 (intsD (Z.take L))) (.slice (some ⟨bl, off, none⟩) (intsD (Z.take L)).length C) := by
     refine Rd.sl (us := fun i _ => .int .i64 (Z.getD i 0)) (sh0 _) hb (by rw [el]; exact hl) hm ?_ ?_ ?_
     ·intro ds hds
      simp only [intsD, List.mem_map] at hds
      obtain ⟨n, _, rfl⟩ := hds
      rfl
     ·intro i j ds d hi hj
      have hil : i < (Z.take L).length := by
       have := (List.getElem?_eq_some_iff.1 hi).1
       simpa [intsD] using this
      simp only [List.length_take] at hil
      have := hcell i (by omega)
      simp only [intsD, List.getElem?_map, Option.map_eq_some_iff] at hi
      obtain ⟨n, hn, rfl⟩ := hi
      match j, hj with
      | 0, hj =>
       have ea : Addr.add ⟨bl, off, none⟩ i = ⟨bl, off + i, none⟩ := by
        unfold Addr.add
        split <;> simp_all
       rw [ea] at this
       simp only [World.cell?, hb] at this
       simpa using this
     ·intro i j ds d hi hj
      simp only [intsD, List.getElem?_map, Option.map_eq_some_iff] at hi
      obtain ⟨n, hn, rfl⟩ := hi
      match j, hj with
      | 0, hj =>
       simp only [intD, List.getElem?_cons_zero, Option.some.injEq] at hj
       subst hj
       have hz : Z.getD i 0 = n := by
        rw [List.getElem?_take] at hn
        split at hn
        ·simp [hn]
        ·cases hn
       rw [hz]
       exact Rd.v _ rfl
    rw [el] at key
    exact key
   ·cases c0
theorem rd_intss {b : Nat} {t e q : TypeId} {v : Value} {d : DataW H} {ps : List MemPlace} (ht : P.underlying t = some (.slice e)) (he : P.underlying e = some (.slice q)) (hq : P.underlying q = some (.int .i64)) (ce : P.cellsOf e = 1) (cq : P.cellsOf q = 1)
  (hval : Value.okWide P W .any b t v) (hd : DataW.Trod enc P W 0 (fun _ => true) true t v d ps) : ∃ l : List (List Int), Rd W (Sh pl0 (lookO [])) (.sl 1 (intssD l)) v := by
 obtain ⟨fuel, hf⟩ := hd
 have hv := slice_wide ht hval
 rw [one_cell ht hv] at hf
 rcases Deep.open_int_rows ht he hq ce cq hf with ⟨h1, _⟩ | ⟨a, len, cap, A, L, C, Z, h1, _, hl, hm, _, hcell⟩
 ·simp only [List.cons.injEq, and_true] at h1
  subst h1
  exact ⟨[], Rd.nil 1⟩
 ·simp only [List.cons.injEq, and_true] at h1
  subst h1
  rcases slice_ok ht hv with h | ⟨bl, off, len', cap', c, ty, fz, h, hb⟩
  ·simp at h
  ·simp only [Value.slice.injEq, Option.some.injEq] at h
   obtain ⟨rfl, rfl, rfl⟩ := h
   have el : (intssD ((List.range len).map fun r => (Z r).take (L r))).length = len := by simp [intssD]
   have get : ∀ {i : Nat} {ds : List D}, (intssD ((List.range len).map fun r => (Z r).take (L r)))[i]? = some ds → i < len ∧ ds = ints1 ((Z i).take (L i)) := by
    intro i ds h
    have hi := (List.getElem?_eq_some_iff.1 h).1
    rw [el] at hi
    simp only [intssD, List.map_map, List.getElem?_map, List.getElem?_range hi, Option.map_some, Option.some.injEq, Function.comp] at h
    exact ⟨hi, h.symm⟩
   refine ⟨(List.range len).map fun r => (Z r).take (L r), ?_⟩
   have key : Rd W (Sh pl0 (lookO [])) (.sl 1 (intssD ((List.range len).map fun r => (Z r).take (L r)))) (.slice (some ⟨bl, off, none⟩) (intssD ((List.range len).map fun r => (Z r).take (L r))).length cap) := by
    refine Rd.sl (us := fun i _ => .slice (A i) (L i) (C i)) (sh0 _) hb (by rw [el]; exact hl) hm ?_ ?_ ?_
    ·intro ds hds
     simp only [intssD, List.mem_map] at hds
     obtain ⟨n, _, rfl⟩ := hds
     rfl
    ·intro i j ds d hi hj
     obtain ⟨hi, rfl⟩ := get hi
     have := (hcell i (by omega)).1
     match j, hj with
     | 0, hj =>
      have ea : Addr.add ⟨bl, off, none⟩ i = ⟨bl, off + i, none⟩ := by
       unfold Addr.add
       split <;> simp_all
      rw [ea] at this
      simp only [World.cell?, hb] at this
      simpa using this
    ·intro i j ds d hi hj
     obtain ⟨hi, rfl⟩ := get hi
     obtain ⟨_, k1, k2, k3, _, k5, k6⟩ := hcell i (by omega)
     match j, hj with
     | 0, hj =>
      simp only [ints1, List.getElem?_cons_zero, Option.some.injEq] at hj
      subst hj
      exact rd_inner k1 k2 k3 k5 (fun a' h c hc => (k6 a' h).2 c hc)
   rw [el] at key
   exact key
theorem u8_wide {r : Reach} {b : Nat} {t : TypeId} {v : Value} (h : P.underlying t = some (.int .u8)) (hc : Cell.okWide P W r b t v) : ∃ n, v = .int .u8 n ∧ 0 ≤ n ∧ n ≤ 255 := by
 unfold Cell.okWide at hc
 rw [h] at hc
 have hc0 := hc
 unfold Cell.ok at hc
 rw [h] at hc
 cases v <;> simp at hc
 rename_i k n
 obtain ⟨rfl, hn⟩ := hc
 have : (0 : Int) ≤ n ∧ n ≤ 255 := hn
 exact ⟨n, rfl, this⟩
theorem rd_u8 {r : Reach} {b : Nat} {t : TypeId} {v : Value} (ht : P.underlying t = some (.int .u8)) (h : Value.okWide P W r b t v) : ∃ n, v = .int .u8 n ∧ 0 ≤ n ∧ n ≤ 255 := by
 unfold Value.okWide at h
 rw [ht] at h
 exact u8_wide ht h
theorem rd_u8s {r : Reach} {b : Nat} {t e : TypeId} {v : Value} (ht : P.underlying t = some (.array 2 e)) (hc : P.cellsOf t = 2) (hts : P.cellTypes P.depth t = some [e, e]) (he : P.underlying e = some (.int .u8)) (h : Value.okWide P W r b t v) :
  ∃ x y : Int, v = .agg #[.int .u8 x, .int .u8 y] ∧ 0 ≤ x ∧ 0 ≤ y := by
 unfold Value.okWide at h
 rw [ht] at h
 obtain ⟨cs, rfl, hs, ts, hts', _, hall⟩ := h
 obtain rfl := Option.some.inj (hts.symm.trans hts')
 rw [hc] at hs
 obtain ⟨l⟩ := cs
 match l, hs, hall with
 | [c0, c1], _, hall =>
  obtain ⟨u0, h0, k0⟩ := hall 0 c0 rfl
  obtain ⟨u1, h1, k1⟩ := hall 1 c1 rfl
  obtain rfl : e = u0 := by simpa using h0
  obtain rfl : e = u1 := by simpa using h1
  obtain ⟨x, rfl, hx, _⟩ := u8_wide he k0
  obtain ⟨y, rfl, hy, _⟩ := u8_wide he k1
  exact ⟨x, y, rfl, hx, hy⟩
def structFs (P : Program) (t : TypeId) : Array Field := match P.underlying t with
 | some (.struct fs) => fs
 | _ => #[]
def isStruct (P : Program) (t : TypeId) : Bool := match P.underlying t with
 | some (.struct _) => true
 | _ => false
theorem struct_is {t : TypeId} (h : isStruct P t = true) : P.underlying t = some (.struct (structFs P t)) := by
 unfold isStruct at h
 unfold structFs
 split at h
 ·rename_i fs e; rw [e]
 ·cases h
theorem rd_call {b : Nat} {t i s ss : TypeId} {v : Value} {d : DataW H} {ps : List MemPlace} (hst : isStruct P t = true) (hc : P.cellsOf t = 7) (hts : P.cellTypes P.depth t = some [i, i, i, i, ss, s, s])
  (hi : P.underlying i = some (.int .i64)) (hs : P.underlying s = some (.slice i)) (hss : P.underlying ss = some (.slice s)) (ci : P.cellsOf i = 1) (cs_ : P.cellsOf s = 1) (css : P.cellsOf ss = 1)
  (f2 : ((structFs P t)[2]?).map (fun f => (f.type, f.offset)) = some (ss, 4)) (f3 : ((structFs P t)[3]?).map (fun f => (f.type, f.offset)) = some (s, 5)) (f4 : ((structFs P t)[4]?).map (fun f => (f.type, f.offset)) = some (s, 6))
  (h : Value.okWide P W .any b t v) (hd : DataW.Trod enc P W 0 (fun _ => true) true t v d ps) : ∃ (o q0 q1 q2 : Int) (as_ : List (List Int)) (rw bs : List Int),
   bs.length ≤ maxLen ∧ SvOk W pl0 (lookO []) (.agg [.d (.i o), .d (.i q0), .d (.i q1), .d (.i q2), .d (.sl 1 (intssD as_)), .d (.sl 1 (intsD rw)), .d (.sl 1 (intsD bs))]) v := by
 have ht := struct_is hst
 unfold Value.okWide at h
 rw [ht] at h
 obtain ⟨cs, rfl, hsz, ts, hts', _, hall⟩ := h
 obtain rfl := Option.some.inj (hts.symm.trans hts')
 rw [hc] at hsz
 obtain ⟨l⟩ := cs
 match l, hsz, hall, hd with
 | [c0, c1, c2, c3, c4, c5, c6], _, hall, hd =>
  obtain ⟨u0, h0, k0⟩ := hall 0 c0 rfl
  obtain ⟨u1, h1, k1⟩ := hall 1 c1 rfl
  obtain ⟨u2, h2, k2⟩ := hall 2 c2 rfl
  obtain ⟨u3, h3, k3⟩ := hall 3 c3 rfl
  obtain ⟨u4, h4, k4⟩ := hall 4 c4 rfl
  obtain ⟨u5, h5, k5⟩ := hall 5 c5 rfl
  obtain ⟨u6, h6, k6⟩ := hall 6 c6 rfl
  obtain rfl : i = u0 := by simpa using h0
  obtain rfl : i = u1 := by simpa using h1
  obtain rfl : i = u2 := by simpa using h2
  obtain rfl : i = u3 := by simpa using h3
  obtain rfl : ss = u4 := by simpa using h4
  obtain rfl : s = u5 := by simpa using h5
  obtain rfl : s = u6 := by simpa using h6
  obtain ⟨o, rfl⟩ := int_wide hi k0
  obtain ⟨q0, rfl⟩ := int_wide hi k1
  obtain ⟨q1, rfl⟩ := int_wide hi k2
  obtain ⟨q2, rfl⟩ := int_wide hi k3
  have w4 : Value.okWide P W .any b ss c4 := by unfold Value.okWide; rw [hss]; exact k4
  have w5 : Cell.ok P W .any b s c5 := by unfold Cell.okWide at k5; rw [hs] at k5; exact k5
  have w6 : Cell.ok P W .any b s c6 := by unfold Cell.okWide at k6; rw [hs] at k6; exact k6
  obtain ⟨fuel, hf⟩ := hd
  obtain ⟨xs, m, _, _, _, hl, hx⟩ := DataW.trod_struct ht hf
  obtain ⟨g2, e2, t2⟩ := Option.map_eq_some_iff.1 f2
  obtain ⟨g3, e3, t3⟩ := Option.map_eq_some_iff.1 f3
  obtain ⟨g4, e4, t4⟩ := Option.map_eq_some_iff.1 f4
  simp only [Prod.mk.injEq] at t2 t3 t4
  have x2 := hx 2 g2 e2
  have x3 := hx 3 g3 e3
  have x4 := hx 4 g4 e4
  rw [t2.1, t2.2, css] at x2
  rw [t3.1, t3.2, cs_] at x3
  rw [t4.1, t4.2, cs_] at x4
  have hlt : 4 < xs.length := by rw [hl]; exact (Array.getElem?_eq_some_iff.1 e4).1
  obtain ⟨y2, hy2⟩ : ∃ x, xs[2]? = some x := ⟨xs[2]'(by omega), List.getElem?_eq_getElem (by omega)⟩
  obtain ⟨y3, hy3⟩ : ∃ x, xs[3]? = some x := ⟨xs[3]'(by omega), List.getElem?_eq_getElem (by omega)⟩
  obtain ⟨y4, hy4⟩ : ∃ x, xs[4]? = some x := ⟨xs[4]'(by omega), List.getElem?_eq_getElem (by omega)⟩
  rw [hy2] at x2; rw [hy3] at x3; rw [hy4] at x4
  obtain ⟨as_, ra⟩ := rd_intss (enc := enc) (b := b) hss hs hi cs_ ci w4 (d := y2.1) (ps := y2.2) ⟨m, by rw [one_cell hss (slice_wide hss w4)]; exact x2⟩
  obtain ⟨rw_, rr⟩ := rd_ints' hs hi ci w5 x3
  obtain ⟨bs, rb⟩ := rd_ints' hs hi ci w6 x4
  have hb := rd_bound rb
  simp only [zq7] at hb
  exact ⟨o, q0, q1, q2, as_, rw_, bs, hb, [_, _, _, _, c4, c5, c6], rfl, All2.cons (Rd.v _ rfl) (All2.cons (Rd.v _ rfl) (All2.cons (Rd.v _ rfl) (All2.cons (Rd.v _ rfl) (All2.cons ra (All2.cons rr (All2.one rb))))))⟩
end
end Go.Proofs.YtdejnaokkdndeaaGreatDoor
