/- Part 34 of the proof: texts V33e, V33f, V33g, V33h, V33i, V33j, V33k. -/
import Derived.Test.YtclaplngjmgnoaaGreatDoorP32
import Derived.Test.YtclaplngjmgnoaaGreatDoorP33
import Derived.Shelf.SlIter.Nil
import Derived.Shelf.SortM.Plain
import Derived.Shelf.SortM.SortNone
import Derived.Ground.GgzProg
import Derived.Ground.SlgmProg
import Derived.Maps.Own
set_option linter.all false
namespace Go.Proofs.YtclaplngjmgnoaaGreatDoor
open Go.RowKit Go.V
open Go.Eng (inR byteAt u8 bytesV)
variable {g : Gv}
theorem row_out {fr : Fr} {own : Own} {w w' : World} {pl : Pl} {e : TypeId} {v : Value} {xs : List Value} (m : Mem fr own w pl) (hw : fr.w0 = w) (hown : w'.ownsRow w.heap.size e 1 v xs.length xs) (h1 : ∀ x ∈ xs, x.oneCell' = true) : COk w' pl own (.d (.sl 1 (xs.map fun x => [.v x]))) v := by
 have hfl : ∀ xs : List Value, (xs.map fun x => [D.v x]).flatten = xs.map D.v := by
  intro xs
  induction xs with
  | nil => rfl
  | cons x r ih => simp only [List.map_cons, List.flatten_cons, ih]; rfl
 have hr : ∀ {F : Nat → Prop} (xs : List Value), (∀ x ∈ xs, x.oneCell' = true) → All2 (Rd w' F) (xs.map D.v) xs := by
  intro F xs
  induction xs with
  | nil => intro _; exact All2.nil
  | cons x r ih => intro h; exact All2.cons (.v _ (h x (by simp))) (ih fun y hy => h y (by simp [hy]))
 have hs : ∀ ds, ds ∈ (xs.map fun x => [D.v x]) → ds.length = 1 := by
  intro ds hd
  obtain ⟨x, _, rfl⟩ := List.mem_map.1 hd
  rfl
 obtain ⟨A, c, rfl⟩ : ∃ A c, v = .slice A xs.length c := by
  rcases hown.2 with ⟨rfl, h0⟩ | ⟨q, cap, cur, rfl, _⟩
  ·exact ⟨_, _, by rw [h0]⟩
  ·exact ⟨_, _, rfl⟩
 have := row_rd (w := w') (B := w.heap.size) (e := e) (sz := 1) (es := xs.map fun x => [.v x]) (A := A) (c := c) (xs := xs) (by rw [List.length_map]; exact hown) (F := Sh pl own) (fun b hb => by
  rcases hown.2 with ⟨hv, h0⟩ | ⟨q, cap, cur, hv, hB, _⟩
  ·injection hv with h2; rw [h2] at hb; cases hb
  ·injection hv with h2
   rw [h2] at hb
   simp only [Option.map_some, Option.some.injEq] at hb
   subst hb
   refine ⟨(m.hS _).2 (.inr (by rw [hw]; exact hB)), fun i hi => ?_⟩
   have := m.blk_lt hi
   have hB : w.heap.size ≤ q := hB
   omega) (by rw [hfl]; exact hr xs h1) hs
 rw [List.length_map] at this
 exact this
theorem spec_clone {f : FuncId} {xs : List Value} {e : TypeId} (h1 : ∀ x ∈ xs, x.oneCell' = true) (hl : xs.length ≤ 1000000)
  (hnil : ∀ w : World, Calls Tryz.prog f #[.slice none 0 0] w fun e' w' => e' = .returned (.slice none 0 0) ∧ w' = w)
  (hfar : ∀ (a : Addr) (w : World), Calls Tryz.prog f #[.slice (some a) 0 0] w fun e' w' => ∃ v', e' = .returned v' ∧ w'.ownsRow w.heap.size e 1 v' 0 [] ∧ v' ≠ .slice none 0 0 ∧ Below w.heap.size w w')
  (hsl : ∀ (b off c : Nat) (w : World), (∀ (j : Nat) (x : Value), xs[j]? = some x → w.cell? ⟨b, off + j, none⟩ = some x) → Calls Tryz.prog f #[.slice (some ⟨b, off, none⟩) xs.length c] w fun e' w' => ∃ v', e' = .returned v' ∧ w'.ownsRow w.heap.size e 1 v' xs.length xs ∧ v' ≠ .slice none 0 0 ∧ Below w.heap.size w w') :
  SpG g f [.c (.d (.sl 1 (xs.map fun x => [.v x])))] [] (.c (.d (.sl 1 (xs.map fun x => [.v x])))) [] := by
 intro fr w pl args hw hG m ha
 obtain ⟨v, r, rfl, h2, h3⟩ := ha.uncons
 rw [h3.unnil]
 have fin : ∀ {e' : Ending} {w' : World}, (∃ v', e' = .returned v' ∧ w'.ownsRow w.heap.size e 1 v' xs.length xs ∧ Below w.heap.size w w') → ∃ v' pl', e' = .returned v' ∧ Mem fr (lookO []) w' pl' ∧ SvOk w' pl' (lookO []) (.c (.d (.sl 1 (xs.map fun x => [.v x])))) v' := by
  rintro e' w' ⟨v', rfl, ho, hb⟩
  obtain ⟨m', L⟩ := m.ext (w' := w') ⟨hb.os, hb.tape, hb.output, hb.size, fun k hk _ => hb.block k hk⟩
  exact ⟨_, pl, rfl, m', row_out m hw ho h1⟩
 have h2 : Rd w (Sh pl (lookO [])) (.sl 1 (xs.map fun x => [.v x])) v := h2
 generalize hes : (xs.map fun x => [D.v x]) = es at h2
 cases h2 with
 | nil =>
  have : xs = [] := by simpa using hes
  subst this
  refine (hnil w).mono ?_
  rintro e' w' ⟨rfl, rfl⟩
  obtain ⟨v', pl', h4, h5, h6⟩ := fin (e' := .returned (.slice none 0 0)) ⟨_, rfl, World.ownsRow_nil _ _ _ _, Below.refl _ _⟩
  rw [← hes]; exact ⟨v', pl', h4, h5, h6⟩
 | far _ ad =>
  have : xs = [] := by simpa using hes
  subst this
  refine (hfar ad w).mono ?_
  rintro e' w' ⟨v', rfl, ho, _, hb⟩
  rw [← hes]
  exact fin ⟨_, rfl, ho, hb⟩
 | sl us hF hb hc hm hs hu hr =>
  rename_i b off c cs e0 fz
  subst hes
  have hlen : (xs.map fun x => [D.v x]).length = xs.length := by simp
  rw [hlen]
  refine (hsl b off c w fun j x hx => ?_).mono ?_
  ·have a1 : (xs.map fun x => [D.v x])[j]? = some [.v x] := by simp [hx]
   have a2 := hu j 0 _ _ a1 rfl
   have a3 := Rd.exact (hr j 0 _ _ a1 rfl)
   rw [a3] at a2
   rw [Lib.cell_of_heap hb]
   simpa using a2
  ·rintro e' w' ⟨v', rfl, ho, _, hbl⟩
   exact fin ⟨_, rfl, ho, hbl⟩
theorem intsD_map (l : List Int) : (l.map (Value.int .i64)).map (fun x => [D.v x]) = intsD l := by rw [List.map_map]; rfl
theorem cloneI_ok (l : List Int) (hl : l.length ≤ 1000000) : SpG g 98 [.c (.d (.sl 1 (intsD l)))] [] (.c (.d (.sl 1 (intsD l)))) [] := by
 rw [← intsD_map]
 refine spec_clone (e := 3) (fun x hx => by obtain ⟨z, _, rfl⟩ := List.mem_map.1 hx; rfl) (by rw [List.length_map]; exact hl) (fun w => Tryz.slices_Clone_int_nil 0 0 w) (fun a w => Tryz.slices_Clone_int_zero a 0 w) fun b off c w h => ?_
 have := Tryz.slices_Clone_int b off l.length c l w (Nat.le_refl _) (by omega) fun j hj => by
  have := h j (.int .i64 (l.getD j 0)) (by simp [hj])
  exact this
 rw [List.take_length] at this
 rw [List.length_map]
 exact this
theorem cloneS_nil : SpG g 163 [.c (.d (.sl 1 []))] [] (.c (.d (.sl 1 []))) [] := by
 have := spec_clone (g := g) (f := 163) (xs := []) (e := 9) (by simp) (by simp) (fun w => Tryz.slices_Clone_string_nil 0 0 w) (fun a w => Tryz.slices_Clone_string_zero a 0 w) fun b off c w h => Tryz.slices_Clone_string_zero ⟨b, off, none⟩ c w
 exact this
theorem sortC : SortC Tryz.prog 46 := ⟨fun p cap w => Tryz.slices_Sort_int_none p cap w, fun blk off cap zs w hH hb hz => Tryz.slices_Sort_int blk off cap zs w hH hb hz⟩
theorem tvs_step {l : List Tv} {k : Nat} (h : k < l.length) : tvsD (l.take k) ++ [[D.i (tvK (l.getD k none)), .s (S (tvS (l.getD k none))), .i 0, .i 0, .i 0, .sl 1 [], .sl 1 []]] = tvsD (l.take (k + 1)) := tvs_snoc h
def laterB (a b : It) : Bool := if a.time = b.time then decide (a.author > b.author) else decide (a.time > b.time)
def inS (l : List It) : Nat → List (Int × Int) × List Int
  | 0 => ([], [])
  | k + 1 =>
    let r := inS l k
    let i := l.getD k It.z
    (if (lkM i.id r.1).isSome = true ∧ laterB (l.getD ((lkM i.id r.1).getD 0).toNat It.z) i = true then r.1 else updM ltI i.id (k : Int) r.1,
     if (lkM i.id r.1).isSome = true then r.2 else r.2 ++ [i.id])
def srtI (l : List It) : List Int := (inS l l.length).2.mergeSort fun x y => decide (x ≤ y)
def inP (l : List It) (id : Int) : It := l.getD ((lkM id (inS l l.length).1).getD 0).toNat It.z
def inF (l : List It) : List It := (srtI l).map (inP l)
theorem lkM_map {α β : Type} [DecidableEq α] {k n : α} {v : β} : ∀ (es : List (α × β)), lkM n (es.map fun x => if x.1 = k then (k, v) else x) = if n = k then (if (lkM k es).isSome = true then some v else none) else lkM n es
 | [] => by simp [lkM]
 | x :: r => by
  have ih := lkM_map (k := k) (n := n) (v := v) r
  simp only [List.map_cons, lkM]
  by_cases hx : x.1 = k
  ·by_cases hn : n = k
   ·subst hn; simp [hx]
   ·have : ¬ k = n := fun h => hn h.symm
    have h2 : ¬ x.1 = n := by rw [hx]; exact this
    simp only [if_pos hx, if_neg this, ih, if_neg hn, if_neg h2]
  ·by_cases hn : n = k
   ·subst hn; simp only [if_neg hx, ih, if_pos rfl]
   ·simp only [if_neg hx, ih, if_neg hn]
theorem lkM_ins {α β : Type} [DecidableEq α] {lt : α → α → Bool} {k n : α} {v : β} : ∀ (es : List (α × β)), lkM k es = none → lkM n (insK lt k v es) = if n = k then some v else lkM n es
 | [], _ => by
  simp only [insK, lkM]
  by_cases hn : n = k
  ·subst hn; simp
  ·have : ¬ k = n := fun h => hn h.symm
   simp [hn, this]
 | x :: r, h => by
  simp only [lkM] at h
  split at h
  ·cases h
  ·rename_i hx
   have ih := lkM_ins (lt := lt) (n := n) (v := v) r h
   simp only [insK]
   split
   ·simp only [lkM]
    by_cases hn : n = k
    ·subst hn; simp
    ·have : ¬ k = n := fun h => hn h.symm
     simp [hn, this]
   ·simp only [lkM, ih]
    by_cases hn : n = k
    ·subst hn; simp [hx]
    ·simp [hn]
theorem lkM_upd {α β : Type} [DecidableEq α] {lt : α → α → Bool} {es : List (α × β)} {k n : α} {v : β} : lkM n (updM lt k v es) = if n = k then some v else lkM n es := by
 unfold updM
 split
 ·rename_i hs
  rw [lkM_map, if_pos hs]
 ·rename_i hs
  refine lkM_ins es ?_
  cases h : lkM k es with
  | none => rfl
  | some y => rw [h] at hs; exact absurd rfl hs
theorem inS_ok (l : List It) : ∀ (k : Nat), (∀ n o, lkM n (inS l k).1 = some o → 0 ≤ o ∧ o < (k : Int) ∧ (l.getD o.toNat It.z).id = n) ∧ (∀ n, n ∈ (inS l k).2 ↔ (lkM n (inS l k).1).isSome = true) ∧ (inS l k).2.length ≤ k ∧ (inS l k).2.Nodup
 | 0 => ⟨fun n o h => by simp [inS, lkM] at h, fun n => by simp [inS, lkM], Nat.le_refl _, List.nodup_nil⟩
 | k + 1 => by
  obtain ⟨h1, h2, h3, h4⟩ := inS_ok l k
  have hl : ∀ n, lkM n (inS l (k + 1)).1 = if (lkM (l.getD k It.z).id (inS l k).1).isSome = true ∧ laterB (l.getD ((lkM (l.getD k It.z).id (inS l k).1).getD 0).toNat It.z) (l.getD k It.z) = true then lkM n (inS l k).1 else if n = (l.getD k It.z).id then some (k : Int) else lkM n (inS l k).1 := by
   intro n
   simp only [inS]
   split
   ·rfl
   ·exact lkM_upd
  have hi : (inS l (k + 1)).2 = if (lkM (l.getD k It.z).id (inS l k).1).isSome = true then (inS l k).2 else (inS l k).2 ++ [(l.getD k It.z).id] := rfl
  refine ⟨fun n o h => ?_, fun n => ?_, ?_, ?_⟩
  ·rw [hl n] at h
   split at h
   ·have := h1 n o h; omega
   ·split at h
    ·rename_i hn
     simp only [Option.some.injEq] at h
     subst h; subst hn
     exact ⟨by omega, by omega, by rw [Int.toNat_natCast]⟩
    ·have := h1 n o h; omega
  ·rw [hl n, hi]
   by_cases hs : (lkM (l.getD k It.z).id (inS l k).1).isSome = true
   ·rw [if_pos hs, h2 n]
    split
    ·rfl
    ·split
     ·rename_i hn; rw [hn]; exact ⟨fun _ => rfl, fun _ => hs⟩
     ·rfl
   ·rw [if_neg hs, if_neg (fun h => hs h.1)]
    simp only [List.mem_append, List.mem_singleton, h2 n]
    by_cases hn : n = (l.getD k It.z).id
    ·rw [if_pos hn]; exact ⟨fun _ => rfl, fun _ => .inr hn⟩
    ·rw [if_neg hn]; exact ⟨fun h => h.resolve_right hn, .inl⟩
  ·rw [hi]; split
   ·omega
   ·simp only [zq1]; omega
  ·rw [hi]; split
   ·exact h4
   ·rename_i hs
    rw [List.nodup_append]
    refine ⟨h4, by simp, fun a ha b hb => ?_⟩
    simp only [List.mem_singleton] at hb
    subst hb
    rintro rfl
    exact hs ((h2 _).1 ha)
theorem srt_mem {l : List It} {n : Int} : n ∈ srtI l ↔ (lkM n (inS l l.length).1).isSome = true := by
 rw [srtI, List.mem_mergeSort]; exact (inS_ok l l.length).2.1 n
theorem srt_len (l : List It) : (srtI l).length ≤ l.length := by
 rw [srtI, List.length_mergeSort]; exact (inS_ok l l.length).2.2.1
theorem in_idx {l : List It} {k : Nat} (n : Int) (h : k < l.length) : 0 ≤ (lkM n (inS l k).1).getD 0 ∧ (lkM n (inS l k).1).getD 0 < (l.length : Int) := by
 cases hn : lkM n (inS l k).1 with
 | none => simp; omega
 | some o => have := (inS_ok l k).1 n o hn; simp; omega
theorem srt_idx {l : List It} {q : Nat} (h : q < (srtI l).length) : 0 ≤ (lkM ((srtI l).getD q 0) (inS l l.length).1).getD 0 ∧ (lkM ((srtI l).getD q 0) (inS l l.length).1).getD 0 < (l.length : Int) := by
 have hm := srt_mem.1 (getD_mem (z := 0) h)
 obtain ⟨o, ho⟩ := Option.isSome_iff_exists.1 hm
 have := (inS_ok l l.length).1 _ o ho
 rw [ho]; simp; omega
theorem inF_step {l : List It} {q : Nat} (h : q < (srtI l).length) : itsD (((srtI l).take q).map (inP l)) ++ [ItD (inP l ((srtI l).getD q 0))] = itsD (((srtI l).take (q + 1)).map (inP l)) := by
 rw [take_snoc 0 h]; simp [itsD]
theorem in_new {l : List It} {k : Nat} {em : List (Int × Int)} {es : List (List D)} (hk : k < l.length) (h1 : em = (inS l k).1) (h2 : es = intsD (inS l k).2) (hn : (lkM (l.getD k It.z).id em).isSome = false) {em' : List (Int × Int)} {es' : List (List D)}
  (h3 : em' = updM ltI (l.getD k It.z).id (k : Int) em) (h4 : es' = es ++ [[D.i (l.getD k It.z).id]]) : k + 1 ≤ l.length ∧ em' = (inS l (k + 1)).1 ∧ es' = intsD (inS l (k + 1)).2 := by
 subst h1
 have hn' : ¬ (lkM (l.getD k It.z).id (inS l k).1).isSome = true := by rw [hn]; decide
 refine ⟨by omega, ?_, ?_⟩
 ·rw [h3]; simp only [inS]; rw [if_neg (fun h => hn' h.1)]
 ·rw [h4, h2]; simp only [inS]; rw [if_neg hn']; simp [intsD, intD]
theorem in_old {l : List It} {k : Nat} {em : List (Int × Int)} {es : List (List D)} (hk : k < l.length) (h1 : em = (inS l k).1) (h2 : es = intsD (inS l k).2) (hn : (lkM (l.getD k It.z).id em).isSome = true) (hla : ¬ ((lkM (l.getD k It.z).id em).isSome = true ∧ laterB (l.getD ((lkM (l.getD k It.z).id em).getD 0).toNat It.z) (l.getD k It.z) = true)) {em' : List (Int × Int)} {es' : List (List D)}
  (h3 : em' = updM ltI (l.getD k It.z).id (k : Int) em) (h4 : es' = es) : k + 1 ≤ l.length ∧ em' = (inS l (k + 1)).1 ∧ es' = intsD (inS l (k + 1)).2 := by
 subst h1
 refine ⟨by omega, ?_, ?_⟩
 ·rw [h3]; simp only [inS]; rw [if_neg hla]
 ·rw [h4, h2]; simp only [inS]; rw [if_pos hn]
theorem in_keep {l : List It} {k : Nat} {em : List (Int × Int)} {es : List (List D)} (hk : k < l.length) (h1 : em = (inS l k).1) (h2 : es = intsD (inS l k).2) (hn : (lkM (l.getD k It.z).id em).isSome = true) (hla : (lkM (l.getD k It.z).id em).isSome = true ∧ laterB (l.getD ((lkM (l.getD k It.z).id em).getD 0).toNat It.z) (l.getD k It.z) = true) {em' : List (Int × Int)} {es' : List (List D)}
  (h3 : em' = em) (h4 : es' = es) : k + 1 ≤ l.length ∧ em' = (inS l (k + 1)).1 ∧ es' = intsD (inS l (k + 1)).2 := by
 subst h1
 refine ⟨by omega, ?_, ?_⟩
 ·rw [h3]; simp only [inS]; rw [if_pos hla]
 ·rw [h4, h2]; simp only [inS]; rw [if_pos hn]
theorem copy_tv (v : Tv) :
  SpG g 97 [.agg [.d (.i (tvK v)), .d (.s (S (tvS v))), .d (.i 0), .d (.i 0), .d (.i 0), .d (.sl 1 (([] : List (List D)))), .d (.sl 1 (([] : List (List D))))]] [] (.agg [.d (.i (tvK v)), .d (.s (S (tvS v))), .d (.i 0), .d (.i 0), .d (.i 0), .d (.sl 1 (([] : List (List D)))), .d (.sl 1 (([] : List (List D))))]) [] := by
 refine enterB 47 Tryz.func97 (by kernel_rfl) fun fr hG => ?_
 refine zL hG [(1, 2, .call (.c (.d (.sl 1 (([] : List (List D)))))) [] [])] [0, 1, 0, 1, 1, 1] (fun (zz : Nat) => match zz with | k => (0, ⟨[(1, [], .c (.bx 100 0)), (2, [], .c (.bx 101 0)), (3, [], .c (.ar 303 0)), (18, [], .c (.d (.sl 1 (([] : List (List D)))))), (19, [], .c (.d (.i ((([] : List (List D))).length : Int)))), (20, [], .c (.d (.i (k : Int))))], [(100, .box 61 [.d (.i (tvK v)), .d (.s (S (tvS v))), .d (.i 0), .d (.i 0), .d (.i 0), .d (.sl 1 (([] : List (List D)))), .d (.sl 1 (([] : List (List D))))]), (101, .box 61 [.d (.i 0), .d (.s (S [])), .d (.i 0), .d (.i 0), .d (.i 0), .d (.nil), .d (.nil)]), (303, .arr 0 55 1 (([] : List (List D))))]⟩, k = 0)) 0 (by kernel_rfl) (conjC ((cloneS_nil : SpG g _ _ _ _ _)) (conj1 (show (0 : Int) ≤ ((([] : List (List D))).length : Int) ∧ ((24 : Nat) : Int) * ((([] : List (List D))).length : Int) ≤ 281474976710656 ∧ ((([] : List (List D))).length : Int) ≤ 9223372036854775807 from (by intros; (try simp only [List.length_nil, inR]); omega)))) (by kernel_rfl) ?_ ?_
 ·exact rfl
 rintro k hk
 refine zc hG [] [0, 1] (decide (((k : Int) : Int) < ((([] : List (List D))).length : Int))) (by kernel_rfl) conj0 (fun hc2 => ?_) (fun hc2 => ?_)
 ·(try simp only [blS] at hc2)
  simp at hc2; omega
 ·(try simp only [blS] at hc2)
  refine zE hG [] (.exit 0) (⟨[(1, [], .c (.bx 100 0)), (2, [], .c (.bx 101 0)), (3, [], .c (.ar 303 0))], [(100, .box 61 [.d (.i (tvK v)), .d (.s (S (tvS v))), .d (.i 0), .d (.i 0), .d (.i 0), .d (.sl 1 (([] : List (List D)))), .d (.sl 1 (([] : List (List D))))]), (101, .box 61 [.d (.i 0), .d (.s (S [])), .d (.i 0), .d (.i 0), .d (.i 0), .d (.nil), .d (.nil)]), (303, .arr 0 55 1 (([] : List (List D))))]⟩) (by kernel_rfl) conj0 rfl ?_
  exact zr hG [] [] (by kernel_rfl) conj0
theorem copiedRow_ok (l : List Tv) (hl : l.length ≤ 1000) :
  SpG g 96 [.c (.d (.sl 7 (tvsD l)))] [] (.c (.d (.sl 7 (tvsD l)))) [] := by
 refine enterB 19 Tryz.func96 (by kernel_rfl) fun fr hG => ?_
 refine zA hG [] [0, 1, 0, 1, 1] (⟨[(2, [], .c (.d (.nil))), (3, [], .c (.d (.nil))), (6, [], .c (.d (.sl 7 (tvsD l)))), (7, [], .c (.d (.i ((tvsD l).length : Int)))), (8, [], .c (.d (.i 0)))], []⟩) [(3, 9001, 61, 7)] [] (fun (zz : Nat × List (List D)) => match zz with | (k, es) => (l.length - k, ⟨[(2, [], .c (.d (.nil))), (3, [], .c (.ar 9001 0)), (6, [], .c (.d (.sl 7 (tvsD l)))), (7, [], .c (.d (.i ((tvsD l).length : Int)))), (8, [], .c (.d (.i (k : Int))))], [(9001, .arr 0 61 7 (es))]⟩, k ≤ l.length ∧ es = tvsD (l.take k))) (0, []) (by kernel_rfl) conj0 (by kernel_rfl) (by kernel_rfl) ?_ ?_
 ·exact ⟨Nat.zero_le _, rfl⟩
 rintro ⟨k, es⟩ ⟨hk, hes⟩
 have hel : es.length = k := by rw [hes, tvsD, List.length_map, List.length_take]; omega
 refine zc hG [] [0, 1] (decide (((k : Int) : Int) < ((tvsD l).length : Int))) (by kernel_rfl) conj0 (fun hc2 => ?_) (fun hc2 => ?_)
 ·(try simp only [zq10, tvsD] at hc2)
  refine zD hG [(4, 0, .elem (TvD ((l).getD k none))), (5, 2, .call (.agg [.d (.i (tvK ((l).getD k none))), .d (.s (S (tvS ((l).getD k none)))), .d (.i 0), .d (.i 0), .d (.i 0), .d (.sl 1 (([] : List (List D)))), .d (.sl 1 (([] : List (List D))))]) [] [])] (k + 1, es ++ ([[.i (tvK ((l).getD k none)), .s (S (tvS ((l).getD k none))), .i 0, .i 0, .i 0, .sl 1 (([] : List (List D))), .sl 1 (([] : List (List D)))]] : List (List D))) (by kernel_rfl) (conjC (show (0 : Int) ≤ (k : Int) ∧ (tvsD l)[k]? = some (TvD ((l).getD k none)) from (by intros; exact map_at _ (by omega) (by (try simp only [zq4, tvsD] at *); omega))) (conjC ((copy_tv ((l).getD k none) : SpG g _ _ _ _ _)) (conjC (show ((es).length + (([[.i (tvK ((l).getD k none)), .s (S (tvS ((l).getD k none))), .i 0, .i 0, .i 0, .sl 1 (([] : List (List D))), .sl 1 (([] : List (List D)))]] : List (List D))).length) * (96 + 1) ≤ 140737488355328 from (by intros; (try simp only [zq9, tvsD] at *); omega)) (conj1 (show inR ((k : Int) + 1) from (by intros; (try simp only [zq9, tvsD] at *); omega)))))) ?_ ?_
  ·(try dsimp only); omega
  ·exact ⟨by omega, by rw [hes]; exact tvs_step (by omega)⟩
 ·(try simp only [zq10, tvsD] at hc2)
  refine zE hG [] (.exit 0) (⟨[(2, [], .c (.d (.nil))), (3, [], .c (.ar 9001 0))], [(9001, .arr 0 61 7 (es))]⟩) (by kernel_rfl) conj0 rfl ?_
  refine zR hG [] [] (.c (.d (.sl 7 (es)))) [] (by kernel_rfl) conj0 ?_ ?_
  ·rw [hes, List.take_of_length_le (by omega)]
  ·rfl
theorem copied_ok (i : It) (hi : i.input.length ≤ 1000) (hp : i.program.length ≤ 1000000) :
  SpG g 47 [.agg [.d (.i ((i).id)), .d (.i ((i).author)), .d (.i ((i).rank)), .d (.i ((i).time)), .d (.i ((i).kind)), .d (.sl 7 (tvsD ((i).input))), .d (.i (tvK ((i).output))), .d (.s (S (tvS ((i).output)))), .d (.i 0), .d (.i 0), .d (.i 0), .d (.sl 1 (([] : List (List D)))), .d (.sl 1 (([] : List (List D)))), .d (.s (S (i).prop)), .d (.s (S (i).param)), .d (.sl 1 (intsD ((i).program)))]] [] (.agg [.d (.i ((i).id)), .d (.i ((i).author)), .d (.i ((i).rank)), .d (.i ((i).time)), .d (.i ((i).kind)), .d (.sl 7 (tvsD ((i).input))), .d (.i (tvK ((i).output))), .d (.s (S (tvS ((i).output)))), .d (.i 0), .d (.i 0), .d (.i 0), .d (.sl 1 (([] : List (List D)))), .d (.sl 1 (([] : List (List D)))), .d (.s (S (i).prop)), .d (.s (S (i).param)), .d (.sl 1 (intsD ((i).program)))]) [] := by
 refine enterB 16 Tryz.func47 (by kernel_rfl) fun fr hG => ?_
 exact zr hG [(1, 2, .call (.c (.d (.sl 7 (tvsD ((i).input))))) [] []), (2, 2, .call (.agg [.d (.i (tvK ((i).output))), .d (.s (S (tvS ((i).output)))), .d (.i 0), .d (.i 0), .d (.i 0), .d (.sl 1 (([] : List (List D)))), .d (.sl 1 (([] : List (List D))))]) [] []), (3, 2, .call (.c (.d (.sl 1 (intsD ((i).program))))) [] [])] [] (by kernel_rfl) (conjC ((copiedRow_ok ((i).input) (by assumption) : SpG g _ _ _ _ _)) (conjC ((copy_tv ((i).output) : SpG g _ _ _ _ _)) (conj1 ((cloneI_ok ((i).program) (by assumption) : SpG g _ _ _ _ _)))))
theorem later_ok (a b : It) :
  SpG g 45 [.agg [.d (.i ((a).id)), .d (.i ((a).author)), .d (.i ((a).rank)), .d (.i ((a).time)), .d (.i ((a).kind)), .d (.sl 7 (tvsD ((a).input))), .d (.i (tvK ((a).output))), .d (.s (S (tvS ((a).output)))), .d (.i 0), .d (.i 0), .d (.i 0), .d (.sl 1 (([] : List (List D)))), .d (.sl 1 (([] : List (List D)))), .d (.s (S (a).prop)), .d (.s (S (a).param)), .d (.sl 1 (intsD ((a).program)))], .agg [.d (.i ((b).id)), .d (.i ((b).author)), .d (.i ((b).rank)), .d (.i ((b).time)), .d (.i ((b).kind)), .d (.sl 7 (tvsD ((b).input))), .d (.i (tvK ((b).output))), .d (.s (S (tvS ((b).output)))), .d (.i 0), .d (.i 0), .d (.i 0), .d (.sl 1 (([] : List (List D)))), .d (.sl 1 (([] : List (List D)))), .d (.s (S (b).prop)), .d (.s (S (b).param)), .d (.sl 1 (intsD ((b).program)))]] [] (.c (.d (.b (laterB a b)))) [] := by
 refine enterB 20 Tryz.func45 (by kernel_rfl) fun fr hG => ?_
 refine zC hG [] [1, 0, 1] (!decide (((a).time : Int) = ((b).time))) (⟨[(2, [], .c (.bx 100 0)), (3, [], .c (.bx 101 0)), (4, [], .c (.d (.b false)))], [(100, .box 63 [.d (.i ((a).id)), .d (.i ((a).author)), .d (.i ((a).rank)), .d (.i ((a).time)), .d (.i ((a).kind)), .d (.sl 7 (tvsD ((a).input))), .d (.i (tvK ((a).output))), .d (.s (S (tvS ((a).output)))), .d (.i 0), .d (.i 0), .d (.i 0), .d (.sl 1 (([] : List (List D)))), .d (.sl 1 (([] : List (List D)))), .d (.s (S (a).prop)), .d (.s (S (a).param)), .d (.sl 1 (intsD ((a).program)))]), (101, .box 63 [.d (.i ((b).id)), .d (.i ((b).author)), .d (.i ((b).rank)), .d (.i ((b).time)), .d (.i ((b).kind)), .d (.sl 7 (tvsD ((b).input))), .d (.i (tvK ((b).output))), .d (.s (S (tvS ((b).output)))), .d (.i 0), .d (.i 0), .d (.i 0), .d (.sl 1 (([] : List (List D)))), .d (.sl 1 (([] : List (List D)))), .d (.s (S (b).prop)), .d (.s (S (b).param)), .d (.sl 1 (intsD ((b).program)))])]⟩) (by kernel_rfl) conj0 (fun hc1 => ?_) (fun hc1 => ?_)
 ·(try simp only [blS] at hc1)
  refine zR hG [] [] (.c (.d (.b (decide (((a).time : Int) > ((b).time)))))) [] (by kernel_rfl) conj0 ?_ ?_
  ·rw [laterB, if_neg (by simpa using hc1)]
  ·rfl
 ·(try simp only [blS] at hc1)
  refine zR hG [] [] (.c (.d (.b (decide (((a).author : Int) > ((b).author)))))) [] (by kernel_rfl) conj0 ?_ ?_
  ·rw [laterB, if_pos (by simpa using hc1)]
  ·rfl
def zq14 := And.intro @List.length_append.{0} (And.intro @List.length_cons.{0} (And.intro @List.length_map.{0, 0} (And.intro @List.length_nil.{0} (And.intro @Go.Eng.inR.eq_1 (@intsD.eq_1)))))
theorem inForce_ok (l : List It) (hl : l.length ≤ 100000) (hI : ∀ i, i ∈ l → ItOk i) :
  SpG g 24 [.c (.d (.sl 16 (itsD l)))] [] (.c (.d (.sl 16 (itsD (inF l))))) [] := by
 refine enterB 70 Tryz.func24 (by kernel_rfl) fun fr hG => ?_
 refine stepLen 0 rfl fun hl0 => ?_
 refine zA hG [(1, 0, .mask [])] [0, 1, 0, 1, 1, 1] (⟨[(0, [], .c (.d (.sl 16 (itsD l)))), (2, [], .c (.d (.nil))), (3, [], .c (.mp 200)), (4, [], .c (.d (.nil))), (13, [], .c (.d (.sl 16 (itsD l)))), (14, [], .c (.d (.i ((itsD l).length : Int)))), (15, [], .c (.d (.i 0)))], [(200, .box ⟨.mpi ([]), none⟩ [])]⟩) [(4, 9001, 3, 1)] [] (fun (zz : Nat × List (Int × Int) × List (List D)) => match zz with | (k, em, es) => (l.length - k, ⟨[(0, [], .c (.d (.sl 16 (itsD l)))), (2, [], .c (.d (.nil))), (3, [], .c (.mp 200)), (4, [], .c (.ar 9001 0)), (13, [], .c (.d (.sl 16 (itsD l)))), (14, [], .c (.d (.i ((itsD l).length : Int)))), (15, [], .c (.d (.i (k : Int))))], [(200, .box ⟨.mpi (em), none⟩ []), (9001, .arr 0 3 1 (es))]⟩, k ≤ l.length ∧ em = (inS l k).1 ∧ es = intsD (inS l k).2)) (0, [], []) (by kernel_rfl) conj0 (by kernel_rfl) (by kernel_rfl) ?_ ?_
 ·exact ⟨Nat.zero_le _, rfl, rfl⟩
 rintro ⟨k, em, es⟩ ⟨hk, hem, hes⟩
 have hel : es.length = (inS l k).2.length := by rw [hes, intsD, List.length_map]
 have hel2 := (inS_ok l k).2.2.1
 refine zc hG [] [0, 1] (decide (((k : Int) : Int) < ((itsD l).length : Int))) (by kernel_rfl) conj0 (fun hc2 => ?_) (fun hc2 => ?_)
 ·(try simp only [zq10, tvsD, itsD] at hc2)
  have hix := in_idx (l.getD k It.z).id (l := l) (k := k) (by simpa [itsD] using hc2)
  rw [← hem] at hix
  refine zC hG [(5, 1, .elem (ItD ((l).getD k It.z)))] [1, 0, 1, 1, 0, 0, 1, 1] (!((lkM (((l).getD k It.z).id) em).isSome)) (⟨[(0, [], .c (.d (.sl 16 (itsD l)))), (2, [], .c (.d (.nil))), (3, [], .c (.mp 200)), (4, [], .c (.ar 9001 0)), (5, [], .c (.d (.i (k : Int)))), (6, [], .c (.bx 603 0)), (7, [], .c (.d (.i ((lkM (((l).getD k It.z).id) em).getD 0)))), (8, [], .c (.d (.b ((lkM (((l).getD k It.z).id) em).isSome)))), (13, [], .c (.d (.sl 16 (itsD l)))), (14, [], .c (.d (.i ((itsD l).length : Int)))), (15, [], .c (.d (.i (k : Int))))], [(200, .box ⟨.mpi (em), none⟩ []), (603, .box 63 [.d (.i (((l).getD k It.z).id)), .d (.i (((l).getD k It.z).author)), .d (.i (((l).getD k It.z).rank)), .d (.i (((l).getD k It.z).time)), .d (.i (((l).getD k It.z).kind)), .d (.sl 7 (tvsD (((l).getD k It.z).input))), .d (.i (tvK (((l).getD k It.z).output))), .d (.s (S (tvS (((l).getD k It.z).output)))), .d (.i 0), .d (.i 0), .d (.i 0), .d (.sl 1 (([] : List (List D)))), .d (.sl 1 (([] : List (List D)))), .d (.s (S ((l).getD k It.z).prop)), .d (.s (S ((l).getD k It.z).param)), .d (.sl 1 (intsD (((l).getD k It.z).program)))]), (9001, .arr 0 3 1 (es))]⟩) (by kernel_rfl) (conj1 (show (0 : Int) ≤ (k : Int) ∧ (itsD l)[k]? = some (ItD ((l).getD k It.z)) from (by intros; exact map_at (f := ItD) It.z (by omega) (by (try simp only [itsD, List.length_map] at *); omega)))) (fun hc3 => ?_) (fun hc3 => ?_)
  ·(try simp only [zq10, tvsD, itsD] at hc3)
   refine zC hG [(9, 5, .elem (ItD ((l).getD ((lkM (((l).getD k It.z).id) em).getD 0 : Int).toNat It.z))), (9, 8, .call (.c (.d (.b (laterB ((l).getD ((lkM (((l).getD k It.z).id) em).getD 0 : Int).toNat It.z) ((l).getD k It.z))))) [] [])] [1, 1, 1, 1, 0, 0, 1, 1] ((!((lkM (((l).getD k It.z).id) em).isSome)) || (!(laterB ((l).getD ((lkM (((l).getD k It.z).id) em).getD 0 : Int).toNat It.z) ((l).getD k It.z)))) (⟨[(0, [], .c (.d (.sl 16 (itsD l)))), (2, [], .c (.d (.nil))), (3, [], .c (.mp 200)), (4, [], .c (.ar 9001 0)), (5, [], .c (.d (.i (k : Int)))), (6, [], .c (.bx 603 0)), (13, [], .c (.d (.sl 16 (itsD l)))), (14, [], .c (.d (.i ((itsD l).length : Int)))), (15, [], .c (.d (.i (k : Int))))], [(200, .box ⟨.mpi (em), none⟩ []), (603, .box 63 [.d (.i (((l).getD k It.z).id)), .d (.i (((l).getD k It.z).author)), .d (.i (((l).getD k It.z).rank)), .d (.i (((l).getD k It.z).time)), .d (.i (((l).getD k It.z).kind)), .d (.sl 7 (tvsD (((l).getD k It.z).input))), .d (.i (tvK (((l).getD k It.z).output))), .d (.s (S (tvS (((l).getD k It.z).output)))), .d (.i 0), .d (.i 0), .d (.i 0), .d (.sl 1 (([] : List (List D)))), .d (.sl 1 (([] : List (List D)))), .d (.s (S ((l).getD k It.z).prop)), .d (.s (S ((l).getD k It.z).param)), .d (.sl 1 (intsD (((l).getD k It.z).program)))]), (9001, .arr 0 3 1 (es ++ ([[.i (((l).getD k It.z).id)]] : List (List D))))]⟩) (by kernel_rfl) (conjC (show ((es).length + (([[.i (((l).getD k It.z).id)]] : List (List D))).length) * (8 + 1) ≤ 140737488355328 from (by intros; (try simp only [zq14, itsD] at *); omega)) (conjC (show (!((lkM (((l).getD k It.z).id) em).isSome)) = false → (0 : Int) ≤ ((lkM (((l).getD k It.z).id) em).getD 0) ∧ (itsD l)[((lkM (((l).getD k It.z).id) em).getD 0 : Int).toNat]? = some (ItD ((l).getD ((lkM (((l).getD k It.z).id) em).getD 0 : Int).toNat It.z)) from (by intros; exact map_at (f := ItD) It.z (by omega) (by (try simp only [itsD, List.length_map] at *); omega))) (conj1 (fun (hg1 : (!((lkM (((l).getD k It.z).id) em).isSome)) = false) => ((later_ok ((l).getD ((lkM (((l).getD k It.z).id) em).getD 0 : Int).toNat It.z) ((l).getD k It.z) : SpG g _ _ _ _ _)))))) (fun hc4 => ?_) (fun hc4 => ?_)
   ·(try simp only [zq10, tvsD, itsD] at hc4)
    refine zD hG [] (k + 1, updM ltI (((l).getD k It.z).id) (k : Int) em, es ++ ([[.i (((l).getD k It.z).id)]] : List (List D))) (by kernel_rfl) (conj1 (show inR ((k : Int) + 1) from (by intros; (try simp only [zq14, itsD] at *); omega))) ?_ ?_
    ·(try dsimp only); omega
    ·exact in_new (by omega) hem hes hc3 rfl rfl
   ·(try simp only [zq10, tvsD, itsD] at hc4)
    refine zD hG [] (k + 1, em, es ++ ([[.i (((l).getD k It.z).id)]] : List (List D))) (by kernel_rfl) (conj1 (show inR ((k : Int) + 1) from (by intros; (try simp only [zq14, itsD] at *); omega))) ?_ ?_
    ·(try dsimp only); omega
    ·exact absurd (hc3.symm.trans hc4.1) (by decide)
  ·(try simp only [zq10, tvsD, itsD] at hc3)
   refine zC hG [(9, 5, .elem (ItD ((l).getD ((lkM (((l).getD k It.z).id) em).getD 0 : Int).toNat It.z))), (9, 8, .call (.c (.d (.b (laterB ((l).getD ((lkM (((l).getD k It.z).id) em).getD 0 : Int).toNat It.z) ((l).getD k It.z))))) [] [])] [1, 1, 1, 1, 0, 0, 1, 1] ((!((lkM (((l).getD k It.z).id) em).isSome)) || (!(laterB ((l).getD ((lkM (((l).getD k It.z).id) em).getD 0 : Int).toNat It.z) ((l).getD k It.z)))) (⟨[(0, [], .c (.d (.sl 16 (itsD l)))), (2, [], .c (.d (.nil))), (3, [], .c (.mp 200)), (4, [], .c (.ar 9001 0)), (5, [], .c (.d (.i (k : Int)))), (6, [], .c (.bx 603 0)), (13, [], .c (.d (.sl 16 (itsD l)))), (14, [], .c (.d (.i ((itsD l).length : Int)))), (15, [], .c (.d (.i (k : Int))))], [(200, .box ⟨.mpi (em), none⟩ []), (603, .box 63 [.d (.i (((l).getD k It.z).id)), .d (.i (((l).getD k It.z).author)), .d (.i (((l).getD k It.z).rank)), .d (.i (((l).getD k It.z).time)), .d (.i (((l).getD k It.z).kind)), .d (.sl 7 (tvsD (((l).getD k It.z).input))), .d (.i (tvK (((l).getD k It.z).output))), .d (.s (S (tvS (((l).getD k It.z).output)))), .d (.i 0), .d (.i 0), .d (.i 0), .d (.sl 1 (([] : List (List D)))), .d (.sl 1 (([] : List (List D)))), .d (.s (S ((l).getD k It.z).prop)), .d (.s (S ((l).getD k It.z).param)), .d (.sl 1 (intsD (((l).getD k It.z).program)))]), (9001, .arr 0 3 1 (es))]⟩) (by kernel_rfl) (conjC (show (!((lkM (((l).getD k It.z).id) em).isSome)) = false → (0 : Int) ≤ ((lkM (((l).getD k It.z).id) em).getD 0) ∧ (itsD l)[((lkM (((l).getD k It.z).id) em).getD 0 : Int).toNat]? = some (ItD ((l).getD ((lkM (((l).getD k It.z).id) em).getD 0 : Int).toNat It.z)) from (by intros; exact map_at (f := ItD) It.z (by omega) (by (try simp only [itsD, List.length_map] at *); omega))) (conj1 (fun (hg1 : (!((lkM (((l).getD k It.z).id) em).isSome)) = false) => ((later_ok ((l).getD ((lkM (((l).getD k It.z).id) em).getD 0 : Int).toNat It.z) ((l).getD k It.z) : SpG g _ _ _ _ _))))) (fun hc5 => ?_) (fun hc5 => ?_)
   ·(try simp only [zq10, tvsD, itsD] at hc5)
    refine zD hG [] (k + 1, updM ltI (((l).getD k It.z).id) (k : Int) em, es) (by kernel_rfl) (conj1 (show inR ((k : Int) + 1) from (by intros; (try simp only [zq14, itsD] at *); omega))) ?_ ?_
    ·(try dsimp only); omega
    ·exact in_old (by omega) hem hes hc3 (fun hh => by rcases hc5 with h | h; (· rw [hh.1] at h; cases h); rw [hh.2] at h; cases h) rfl rfl
   ·(try simp only [zq10, tvsD, itsD] at hc5)
    refine zD hG [] (k + 1, em, es) (by kernel_rfl) (conj1 (show inR ((k : Int) + 1) from (by intros; (try simp only [zq14, itsD] at *); omega))) ?_ ?_
    ·(try dsimp only); omega
    ·exact in_keep (by omega) hem hes hc3 hc5 rfl rfl
 ·(try simp only [zq10, tvsD, itsD] at hc2)
  have hkl : k = l.length := by omega
  subst hkl
  have hes2 := hes
  have hem2 := hem
  refine zE hG [] (.exit 0) (⟨[(0, [], .c (.d (.sl 16 (itsD l)))), (2, [], .c (.d (.nil))), (3, [], .c (.mp 200)), (4, [], .c (.ar 9001 0))], [(200, .box ⟨.mpi (em), none⟩ []), (9001, .arr 0 3 1 (es))]⟩) (by kernel_rfl) conj0 rfl ?_
  refine zA hG [(12, 1, .callG (.tup []) [9001, 0] [(0, .arr 0 3 1 (intsD (srtI l)))])] [0, 1, 0, 1, 1, 1, 1, 1, 1] (⟨[(0, [], .c (.d (.sl 16 (itsD l)))), (2, [], .c (.d (.nil))), (3, [], .c (.mp 200)), (9, [], .c (.d (.nil))), (52, [], .c (.ar 9001 0)), (53, [], .c (.d (.i ((intsD (srtI l)).length : Int)))), (54, [], .c (.d (.i 0)))], [(200, .box ⟨.mpi (em), none⟩ []), (9001, .arr 0 3 1 (intsD (srtI l)))]⟩) [(9, 9002, 63, 16)] [] (fun (zz : Nat × List (List D)) => match zz with | (q, et) => ((srtI l).length - q, ⟨[(0, [], .c (.d (.sl 16 (itsD l)))), (2, [], .c (.d (.nil))), (3, [], .c (.mp 200)), (9, [], .c (.ar 9002 0)), (52, [], .c (.ar 9001 0)), (53, [], .c (.d (.i ((intsD (srtI l)).length : Int)))), (54, [], .c (.d (.i (q : Int))))], [(200, .box ⟨.mpi (em), none⟩ []), (9001, .arr 0 3 1 (intsD (srtI l))), (9002, .arr 0 63 16 (et))]⟩, q ≤ (srtI l).length ∧ et = itsD (((srtI l).take q).map (inP l)))) (0, []) (by kernel_rfl) (conjC (sortC) (conj1 (show SortI (es) (intsD (srtI l)) from ⟨(inS l l.length).2, hes2, rfl, by have := (inS_ok l l.length).2.2.1; omega⟩))) (by kernel_rfl) (by kernel_rfl) ?_ ?_
  ·exact ⟨Nat.zero_le _, rfl⟩
  rintro ⟨q, et⟩ ⟨hq, het⟩
  have htl : et.length = q := by rw [het, itsD, List.length_map, List.length_map, List.length_take]; omega
  have hsl := srt_len l
  have hsd : (intsD (srtI l)).length = (srtI l).length := by rw [intsD, List.length_map]
  refine zc hG [] [0, 1] (decide (((q : Int) : Int) < ((intsD (srtI l)).length : Int))) (by kernel_rfl) conj0 (fun hc7 => ?_) (fun hc7 => ?_)
  ·(try simp only [zq10, tvsD, itsD] at hc7)
   have hix2 := srt_idx (l := l) (q := q) (by omega)
   rw [← hem2] at hix2
   refine zD hG [(16, 1, .elem (intD ((srtI l).getD q 0))), (17, 5, .elem (ItD ((l).getD ((lkM ((srtI l).getD q 0) em).getD 0 : Int).toNat It.z))), (17, 7, .call (.agg [.d (.i (((l).getD ((lkM ((srtI l).getD q 0) em).getD 0 : Int).toNat It.z).id)), .d (.i (((l).getD ((lkM ((srtI l).getD q 0) em).getD 0 : Int).toNat It.z).author)), .d (.i (((l).getD ((lkM ((srtI l).getD q 0) em).getD 0 : Int).toNat It.z).rank)), .d (.i (((l).getD ((lkM ((srtI l).getD q 0) em).getD 0 : Int).toNat It.z).time)), .d (.i (((l).getD ((lkM ((srtI l).getD q 0) em).getD 0 : Int).toNat It.z).kind)), .d (.sl 7 (tvsD (((l).getD ((lkM ((srtI l).getD q 0) em).getD 0 : Int).toNat It.z).input))), .d (.i (tvK (((l).getD ((lkM ((srtI l).getD q 0) em).getD 0 : Int).toNat It.z).output))), .d (.s (S (tvS (((l).getD ((lkM ((srtI l).getD q 0) em).getD 0 : Int).toNat It.z).output)))), .d (.i 0), .d (.i 0), .d (.i 0), .d (.sl 1 (([] : List (List D)))), .d (.sl 1 (([] : List (List D)))), .d (.s (S ((l).getD ((lkM ((srtI l).getD q 0) em).getD 0 : Int).toNat It.z).prop)), .d (.s (S ((l).getD ((lkM ((srtI l).getD q 0) em).getD 0 : Int).toNat It.z).param)), .d (.sl 1 (intsD (((l).getD ((lkM ((srtI l).getD q 0) em).getD 0 : Int).toNat It.z).program)))]) [] [])] (q + 1, et ++ ([[.i (((l).getD ((lkM ((srtI l).getD q 0) em).getD 0 : Int).toNat It.z).id), .i (((l).getD ((lkM ((srtI l).getD q 0) em).getD 0 : Int).toNat It.z).author), .i (((l).getD ((lkM ((srtI l).getD q 0) em).getD 0 : Int).toNat It.z).rank), .i (((l).getD ((lkM ((srtI l).getD q 0) em).getD 0 : Int).toNat It.z).time), .i (((l).getD ((lkM ((srtI l).getD q 0) em).getD 0 : Int).toNat It.z).kind), .sl 7 (tvsD (((l).getD ((lkM ((srtI l).getD q 0) em).getD 0 : Int).toNat It.z).input)), .i (tvK (((l).getD ((lkM ((srtI l).getD q 0) em).getD 0 : Int).toNat It.z).output)), .s (S (tvS (((l).getD ((lkM ((srtI l).getD q 0) em).getD 0 : Int).toNat It.z).output))), .i 0, .i 0, .i 0, .sl 1 (([] : List (List D))), .sl 1 (([] : List (List D))), .s (S ((l).getD ((lkM ((srtI l).getD q 0) em).getD 0 : Int).toNat It.z).prop), .s (S ((l).getD ((lkM ((srtI l).getD q 0) em).getD 0 : Int).toNat It.z).param), .sl 1 (intsD (((l).getD ((lkM ((srtI l).getD q 0) em).getD 0 : Int).toNat It.z).program))]] : List (List D))) (by kernel_rfl) (conjC (show (0 : Int) ≤ (q : Int) ∧ (q : Int) < ((intsD (srtI l)).length : Int) from (by intros; (try simp only [zq14, itsD] at *); omega)) (conjC (show (intsD (srtI l))[q]? = some (intD ((srtI l).getD q 0)) from (by intros; exact map_nat (f := intD) (l := srtI l) 0 (by omega))) (conjC (show (0 : Int) ≤ ((lkM ((srtI l).getD q 0) em).getD 0) ∧ (itsD l)[((lkM ((srtI l).getD q 0) em).getD 0 : Int).toNat]? = some (ItD ((l).getD ((lkM ((srtI l).getD q 0) em).getD 0 : Int).toNat It.z)) from (by intros; exact map_at (f := ItD) It.z (by omega) (by (try simp only [itsD, List.length_map] at *); omega))) (conjC ((copied_ok ((l).getD ((lkM ((srtI l).getD q 0) em).getD 0 : Int).toNat It.z) (by (first | exact Nat.le_trans (hI _ (getD_mem (by omega))).len (by decide) | exact Nat.le_trans (hI _ (getD_mem (by omega))).plen (by decide))) (by (first | exact Nat.le_trans (hI _ (getD_mem (by omega))).len (by decide) | exact Nat.le_trans (hI _ (getD_mem (by omega))).plen (by decide))) : SpG g _ _ _ _ _)) (conjC (show ((et).length + (([[.i (((l).getD ((lkM ((srtI l).getD q 0) em).getD 0 : Int).toNat It.z).id), .i (((l).getD ((lkM ((srtI l).getD q 0) em).getD 0 : Int).toNat It.z).author), .i (((l).getD ((lkM ((srtI l).getD q 0) em).getD 0 : Int).toNat It.z).rank), .i (((l).getD ((lkM ((srtI l).getD q 0) em).getD 0 : Int).toNat It.z).time), .i (((l).getD ((lkM ((srtI l).getD q 0) em).getD 0 : Int).toNat It.z).kind), .sl 7 (tvsD (((l).getD ((lkM ((srtI l).getD q 0) em).getD 0 : Int).toNat It.z).input)), .i (tvK (((l).getD ((lkM ((srtI l).getD q 0) em).getD 0 : Int).toNat It.z).output)), .s (S (tvS (((l).getD ((lkM ((srtI l).getD q 0) em).getD 0 : Int).toNat It.z).output))), .i 0, .i 0, .i 0, .sl 1 (([] : List (List D))), .sl 1 (([] : List (List D))), .s (S ((l).getD ((lkM ((srtI l).getD q 0) em).getD 0 : Int).toNat It.z).prop), .s (S ((l).getD ((lkM ((srtI l).getD q 0) em).getD 0 : Int).toNat It.z).param), .sl 1 (intsD (((l).getD ((lkM ((srtI l).getD q 0) em).getD 0 : Int).toNat It.z).program))]] : List (List D))).length) * (216 + 1) ≤ 140737488355328 from (by intros; (try simp only [zq14, itsD] at *); omega)) (conj1 (show inR ((q : Int) + 1) from (by intros; (try simp only [zq14, itsD] at *); omega)))))))) ?_ ?_
   ·(try dsimp only); omega
   ·refine ⟨by omega, ?_⟩
    rw [het, ← inF_step (by omega)]; subst hem2; rfl
  ·(try simp only [zq10, tvsD, itsD] at hc7)
   refine zE hG [] (.exit 2) (⟨[(2, [], .c (.d (.nil))), (9, [], .c (.ar 9002 0))], [(9002, .arr 0 63 16 (et))]⟩) (by kernel_rfl) conj0 rfl ?_
   refine zR hG [] [] (.c (.d (.sl 16 (et)))) [] (by kernel_rfl) conj0 ?_ ?_
   ·rw [het, List.take_of_length_le (by omega)]; rfl
   ·rfl
end Go.Proofs.YtclaplngjmgnoaaGreatDoor
namespace Go.Proofs
open Go.RowKit Go.Maps Go.Sort Go.Shelf
shelf_lay_g SlLaysZ.n7 Ggz 7 at Tryz 60 as Tryz.keysK
shelf_lay_g SlLaysZ.n6 Ggz 6 at Tryz 59 as Tryz.sortedK
shelf_lay_g SlLaysM.n6 Slgm 6 at Tryz 112 as Tryz.sortK
theorem Tryz.sortsK (m : Nat) : AnyZ.SortsIn Tryz.prog Tryz.sortedK_ren Fence.wide m :=
  ⟨fun blk off cap ss W hH hblk hsz => callsIn_wide.2 (AnyM.slices_Sort_string Tryz.sortK blk off cap ss W hH hblk hsz),
   fun p cap W => callsIn_wide.2 (AnyM.slices_Sort_string_none Tryz.sortK p cap W)⟩
set_option maxHeartbeats 1000000 in
theorem Tryz.sorted_keysK {H : Type} (Bm b nn : Nat) (D0 : DataW H) (R : Value → Option (DataW H × List MemPlace)) (w : World) (hBm : Bm < w.heap.size) (hm : w.cell? ⟨Bm, 0, none⟩ = some (.map (some b))) (hown : w.ownsMap Tryz.prog 9 R b nn D0) (hmax : Maps.size D0 ≤ maxLen) (hbytes : Maps.size D0 * 16 ≤ 140737488355328) :
  CallsIn Fence.wide 5 Tryz.prog 59 #[.func (.func 113) #[] #[.pointer (some ⟨Bm, 0, none⟩)]] w fun e w' => ∃ (v : Value) (ss : List (List UInt8)), e = .returned v ∧ ss.Perm (strKeys D0) ∧
   w'.ownsRow w.heap.size 9 1 v ss.length ((ss.mergeSort (fun x y => decide (x ≤ y))).map encStr) ∧ (v = .slice none 0 0 ↔ ss = []) ∧ Below w.heap.size w w' := by
 have hseq : SeqGives Fence.wide 2 Tryz.prog 113 #[.pointer (some ⟨Bm, 0, none⟩)] encStr (fun ss => ss.Perm (strKeys D0)) (Maps.size D0) w :=
  AnyZ.keys_gives (ρ := Tryz.keysK_ren) { Tryz.keysK with } Fence.wide _ trivial rfl (by omega) Bm b nn D0 _ hBm hm hown
 exact AnyZ.sorted_in Tryz.sortedK Fence.wide 5 trivial trivial trivial trivial rfl (by omega) (Tryz.sortsK _) (enters_of Tryz.func112 (by kernel_rfl) rfl) 113 #[.pointer (some ⟨Bm, 0, none⟩)] trivial (enters_of Tryz.func113 (by kernel_rfl) rfl) _ _ hmax hbytes _ hseq
end Go.Proofs
namespace Go.Proofs.YtclaplngjmgnoaaGreatDoor
open Go.RowKit Go.V
open Go.Eng (inR byteAt u8 bytesV)
variable {g : Gv}
theorem tv_cut {v v' : Tv} {r r' : List UInt8} (hr : EndsW r) (hr' : EndsW r') (h : tvT v ++ r = tvT v' ++ r') : v = v' ∧ r = r' := by
 cases v with
 | none => cases v' with
  | none => simp only [tvT, List.cons_append, List.nil_append, List.cons.injEq, true_and] at h; exact ⟨rfl, h⟩
  | some s => simp [tvT] at h
 | some s => cases v' with
  | none => simp [tvT] at h
  | some s' =>
   have e : escL s ++ 39 :: r = escL s' ++ 39 :: r' := by simpa [tvT] using h
   have h1 := tq_tv s hr
   have h2 := tq_tv s' hr'
   rw [e, h2] at h1
   simp only [Prod.mk.injEq, true_and] at h1
   exact ⟨by rw [h1.1], h1.2.symm⟩
theorem rwT_cons (v : Tv) (r : List Tv) : rwT (v :: r) = tvT v ++ (if r = [] then [] else 124 :: rwT r) := by
 cases r with
 | nil => simp [rwT, joinL]
 | cons x s => simp [rwT, joinL]
theorem rwT_inj : ∀ {a b : List Tv}, rwT a = rwT b → a = b
 | [], [], _ => rfl
 | [], v :: r, h => absurd h.symm (rwT_ne (by simp))
 | v :: r, [], h => absurd h (rwT_ne (by simp))
 | v :: r, v' :: r', h => by
  have hE : ∀ s : List Tv, EndsW (if s = [] then [] else 124 :: rwT s) := by
   intro s
   split
   ·exact .inl rfl
   ·exact .inr ⟨124, _, rfl, rfl⟩
  rw [rwT_cons, rwT_cons] at h
  obtain ⟨h1, h2⟩ := tv_cut (hE r) (hE r') h
  have h3 : r = r' := by
   by_cases e : r = []
   ·rw [if_pos e] at h2
    by_cases e' : r' = []
    ·rw [e, e']
    ·rw [if_neg e'] at h2; cases h2
   ·rw [if_neg e] at h2
    by_cases e' : r' = []
    ·rw [if_pos e'] at h2; cases h2
    ·rw [if_neg e'] at h2
     injection h2 with _ h4
     exact rwT_inj h4
  rw [h1, h3]
theorem itoa_inj {n m : Int} (hn : nOk n) (hm : nOk m) (h : Lib.itoa n = Lib.itoa m) : n = m := by
 have := atoi_itoa hn
 rw [h, atoi_itoa hm] at this
 injection this with h
 exact h.symm
theorem map_itoa_inj : ∀ {a b : List Int}, (∀ n, n ∈ a → nOk n) → (∀ n, n ∈ b → nOk n) → a.map Lib.itoa = b.map Lib.itoa → a = b
 | [], [], _, _, _ => rfl
 | [], y :: r, _, _, h => by simp at h
 | y :: r, [], _, _, h => by simp at h
 | x :: a, y :: b, ha, hb, h => by
  simp only [List.map_cons, List.cons.injEq] at h
  rw [itoa_inj (ha x (by simp)) (hb y (by simp)) h.1, map_itoa_inj (fun n hn => ha n (by simp [hn])) (fun n hn => hb n (by simp [hn])) h.2]
theorem S_map_inj : ∀ {a b : List (List UInt8)}, a.map S = b.map S → a = b
 | [], [], _ => rfl
 | [], y :: r, h => by simp at h
 | y :: r, [], h => by simp at h
 | x :: a, y :: b, h => by
  simp only [List.map_cons, List.cons.injEq] at h
  rw [S_inj.1 h.1, S_map_inj h.2]
theorem prT_inj {i j : It} (hi : ItOk i) (hj : ItOk j) (h : prT i = prT j) : i.program = j.program := by
 by_cases h1 : i.program = []
 ·by_cases h2 : j.program = []
  ·rw [h1, h2]
  ·exact (prT_ne (h ▸ (by rw [prT, h1]; rfl)) h2).elim
 ·by_cases h2 : j.program = []
  ·exact (prT_ne (h.trans (by rw [prT, h2]; rfl)) h1).elim
  ·have key : ∀ {i : It}, ItOk i → i.program ≠ [] → ∃ n, (prT i).count 44 = n ∧ Lib.splitB (S [44]) 0 n (S (prT i)) = (i.program.map Lib.itoa).map S := by
    intro i hi h1
    obtain ⟨x, r, hx⟩ : ∃ x r, i.program.map Lib.itoa = x :: r := by
     cases he : i.program with
     | nil => exact absurd he h1
     | cons y s => exact ⟨_, _, rfl⟩
    have hno : ∀ y, y ∈ x :: r → ∀ b, b ∈ y → ¬ b = 44 := by
     intro y hy b hb
     rw [← hx] at hy
     obtain ⟨n, _, rfl⟩ := List.mem_map.1 hy
     exact itoa_not (.inr (.inr rfl)) b hb
    exact ⟨r.length, by rw [prT, hx]; exact count_parts r x hno, by rw [prT, hx]; exact split_parts r x hno⟩
   obtain ⟨n, a1, a2⟩ := key hi h1
   obtain ⟨m, b1, b2⟩ := key hj h2
   rw [← h] at b1 b2
   have : n = m := a1.symm.trans b1
   subst this
   rw [a2] at b2
   exact map_itoa_inj hi.prog hj.prog (S_map_inj b2)
theorem itT_inj {i j : It} (hi : ItOk i) (hj : ItOk j) (h : itT i = itT j) : i = j := by
 have h1 : rsT i 1 = rsT j 1 := by rw [itT_head, itT_head] at h; exact List.append_cancel_left h
 have num : ∀ {k : Nat}, k < 5 → rsT i (k + 1) = rsT j (k + 1) → (idsL i).getD k 0 = (idsL j).getD k 0 ∧ rsT i (k + 2) = rsT j (k + 2) := by
  intro k hk h
  have e : ∀ i : It, (itP i).getD (k + 1) [] = Lib.itoa ((idsL i).getD k 0) := by
   intro i
   match k, hk with
   | 0, _ => rfl
   | 1, _ => rfl
   | 2, _ => rfl
   | 3, _ => rfl
   | 4, _ => rfl
  rw [rsT_step i (by omega), rsT_step j (by omega), e, e] at h
  have a := cut_at (a := Lib.itoa ((idsL i).getD k 0)) (r := rsT i (k + 1 + 1)) (itoa_not (.inl rfl))
  rw [h, cut_at (itoa_not (.inl rfl))] at a
  simp only [Prod.mk.injEq, and_true] at a
  have hm : ∀ i : It, (idsL i).getD k 0 ∈ idsL i := fun i => getD_mem (by simpa [idsL] using hk)
  exact ⟨(itoa_inj (ids_ok hj _ (hm j)) (ids_ok hi _ (hm i)) a.1).symm, a.2.symm⟩
 have word : ∀ {k : Nat}, k < 4 → rsT i (k + 6) = rsT j (k + 6) → (wsL i).getD k [] = (wsL j).getD k [] ∧ rsT i (k + 7) = rsT j (k + 7) := by
  intro k hk h
  have e : ∀ i : It, (itP i).getD (k + 6) [] = wdT ((wsL i).getD k []) := by
   intro i
   match k, hk with
   | 0, _ => rfl
   | 1, _ => rfl
   | 2, _ => rfl
   | 3, _ => rfl
  rw [rsT_step i (by omega), rsT_step j (by omega), e, e] at h
  have e2 : ∀ i : It, wdT ((wsL i).getD k []) ++ 32 :: rsT i (k + 6 + 1) = Lib.itoa (((wsL i).getD k []).length : Int) ++ 58 :: wrT i k := by intro i; simp [wdT, wrT]
  rw [e2, e2] at h
  have a := cut_at (a := Lib.itoa (((wsL i).getD k []).length : Int)) (r := wrT i k) (itoa_not (.inr (.inl rfl)))
  rw [h, cut_at (itoa_not (.inr (.inl rfl)))] at a
  simp only [Prod.mk.injEq, and_true] at a
  have l1 := ws_get hi hk
  have l2 := ws_get hj hk
  have hlen := itoa_inj (nOk_len (by omega)) (nOk_len (by omega)) a.1
  have hlen : ((wsL j).getD k []).length = ((wsL i).getD k []).length := by omega
  have hw := a.2
  unfold wrT at hw
  obtain ⟨b1, b2⟩ := List.append_inj hw hlen
  injection b2 with _ b3
  exact ⟨b1.symm, b3.symm⟩
 obtain ⟨n0, h2⟩ := num (k := 0) (by decide) h1
 obtain ⟨n1, h3⟩ := num (k := 1) (by decide) h2
 obtain ⟨n2, h4⟩ := num (k := 2) (by decide) h3
 obtain ⟨n3, h5⟩ := num (k := 3) (by decide) h4
 obtain ⟨n4, h6⟩ := num (k := 4) (by decide) h5
 obtain ⟨w0, h7⟩ := word (k := 0) (by decide) h6
 obtain ⟨w1, h8⟩ := word (k := 1) (by decide) h7
 obtain ⟨w2, h9⟩ := word (k := 2) (by decide) h8
 obtain ⟨w3, h10⟩ := word (k := 3) (by decide) h9
 have w0 := rwT_inj w0
 have w1 : i.output = j.output := (tv_cut (.inl rfl) (.inl rfl) (by rw [List.append_nil, List.append_nil]; exact w1)).1
 have hp := prT_inj hi hj h10
 cases i; cases j
 simp only [It.mk.injEq]
 exact ⟨n0, n1, n2, n3, n4, w0, w1, w2, w3, hp⟩
noncomputable def itOf (t : List UInt8) : It := @dite It (∃ i, ItOk i ∧ itT i = t) (Classical.propDecidable _) (fun h => Classical.choose h) (fun _ => It.z)
def IsIt (t : List UInt8) : Prop := ∃ i, ItOk i ∧ itT i = t
theorem itOf_ok {t : List UInt8} (h : IsIt t) : ItOk (itOf t) ∧ itT (itOf t) = t := by
 have : itOf t = Classical.choose h := by unfold itOf; exact dif_pos h
 rw [this]; exact Classical.choose_spec h
theorem itOf_it {i : It} (h : ItOk i) : itOf (itT i) = i := by
 have h2 : IsIt (itT i) := ⟨i, h, rfl⟩
 obtain ⟨h3, h4⟩ := itOf_ok h2
 exact itT_inj h3 h h4
def kSort (es : List (List UInt8 × Bool)) : Prop := (es.map (·.1)).Pairwise (· < ·)
theorem sort_keys {es : List (List UInt8 × Bool)} (h : kSort es) {ss : List (List UInt8)} (hp : ss.Perm (es.map (·.1))) : ss.mergeSort (fun x y => decide (x ≤ y)) = es.map (·.1) := by
 have h1 : (ss.mergeSort (fun x y => decide (x ≤ y))).Pairwise (fun a b => a ≤ b) := by
  have := List.pairwise_mergeSort (le := fun x y : List UInt8 => decide (x ≤ y)) (fun a b c h1 h2 => by simp only [decide_eq_true_eq] at *; exact List.le_trans h1 h2) (fun a b => by simp only [Bool.or_eq_true, decide_eq_true_eq]; exact List.le_total a b) ss
  exact this.imp fun h => by simpa using h
 have h2 : (es.map (·.1)).Pairwise (fun a b => a ≤ b) := h.imp fun h => List.le_of_lt h
 exact List.Perm.eq_of_pairwise (fun a b _ _ h1 h2 => List.le_antisymm h1 h2) h1 h2 ((List.mergeSort_perm _ _).trans hp)
theorem keys_own {w : World} {b : Nat} {es : List (List UInt8 × Bool)} {ents : Array MapEntry} {clock : Nat} (hb : w.heap[b]? = some (.map ents clock)) (hM : MapIs (kvB es) ents clock) (hl : es.length ≤ 1000000) (hk : ∀ x, x ∈ es → x.1.length ≤ 1000000) :
  ∃ D0 : DataW Unit, w.ownsMap Tryz.prog 9 (fun _ => some (.nil, [])) b ents.size D0 ∧ (Go.strKeys D0).Perm (es.map (·.1)) ∧ Maps.size D0 = es.length := by
 have hsz : ents.toList.length = es.length := by have := hM.kv.length_eq; simpa [kvB] using this
 have hst : Tryz.prog.underlying 9 = some .string := by kernel_rfl
 have hin : ∀ e ∈ ents.toList, ∃ x : List UInt8, ∃ c, (x, c) ∈ es ∧ e.key = .string ⟨x.toArray⟩ := by
  intro e he
  have : (e.key, e.val) ∈ kvB es := hM.kv.mem_iff.1 (List.mem_map.2 ⟨e, he, rfl⟩)
  obtain ⟨⟨x, c⟩, hx, hxe⟩ := List.mem_map.1 this
  simp only [Prod.mk.injEq] at hxe
  exact ⟨x, c, hx, hxe.1.symm⟩
 have hrd : ∀ e ∈ ents.toList, ∃ x : List UInt8, e.key = .string ⟨x.toArray⟩ ∧ WideElems.rd Tryz.prog 9 (fun _ => some ((DataW.nil : DataW Unit), [])) e = some (.string x, .nil) := by
  intro e he
  obtain ⟨x, c, hx, hke⟩ := hin e he
  refine ⟨x, hke, ?_⟩
  have hxl := hk _ hx
  have hxs : (⟨x.toArray⟩ : ByteArray).size = x.length := by simp [ByteArray.size]
  have h2 : x.length ≤ maxLen := by unfold maxLen; simp only at hxl; omega
  unfold WideElems.rd
  rw [keyOf_string hst, hke]
  simp [mapKey, hst, hxs, h2]
 refine ⟨.map ((ents.toList.map (WideElems.rg Tryz.prog 9 (fun _ => some ((DataW.nil : DataW Unit), [])))).foldr DataW.insert []), ⟨ents, clock, hb, ⟨?_, ⟨hM.lt, hM.nd, ?_⟩, fun x hx => ?_⟩, Nat.le_refl _, rfl⟩, ?_, ?_⟩
 ·have : ents.size = es.length := by rw [← hsz]; simp
  unfold maxLen; omega
 ·have h1 : (ents.toList.map (·.key)) = (ents.toList.map fun e => (e.key, e.val)).map (·.1) := by rw [List.map_map]; rfl
  rw [h1]
  exact ((hM.kv.map (·.1)).nodup_iff).2 hM.kn
 ·obtain ⟨t, _, h⟩ := hrd x hx
  exact ⟨_, h⟩
 ·have hp := WideShapes.sorted_perm (ents.toList.map (WideElems.rg Tryz.prog 9 (fun _ => some ((DataW.nil : DataW Unit), []))))
  have hp2 := hp.map fun p => Go.strOf p.1
  refine hp2.trans ?_
  rw [List.map_map]
  have e1 : ents.toList.map ((fun p : Lit × DataW Unit => Go.strOf p.1) ∘ WideElems.rg Tryz.prog 9 (fun _ => some ((DataW.nil : DataW Unit), []))) = (ents.toList.map fun e => (e.key, e.val)).map fun y => match y.1 with
    | .string s => s.data.toList
    | _ => [] := by
   rw [List.map_map]
   refine List.map_congr_left fun e he => ?_
   obtain ⟨t, h1, h2⟩ := hrd e he
   simp only [Function.comp, WideElems.rg, h2, h1, Option.getD_some, Go.strOf]
  rw [e1]
  have hp3 := hM.kv.map fun y : Value × Value => match y.1 with
   | .string s => s.data.toList
   | _ => []
  refine hp3.trans ?_
  have e2 : (kvB es).map (fun y : Value × Value => match y.1 with
   | .string s => s.data.toList
   | _ => []) = es.map (·.1) := by
   rw [kvB, List.map_map]
   exact List.map_congr_left fun x _ => by simp
  rw [e2]
 ·have hp := WideShapes.sorted_perm (ents.toList.map (WideElems.rg Tryz.prog 9 (fun _ => some ((DataW.nil : DataW Unit), []))))
  have := hp.length_eq
  simp only [Maps.size, this, List.length_map, hsz]
theorem sortedKeys_ok (es : List (List UInt8 × Bool)) (hs : kSort es) (hl : es.length ≤ 1000000) (hk : ∀ x, x ∈ es → x.1.length ≤ 1000000) :
  SpG g 59 [.c (.fn 113 [] [(0, 0)])] [(0, .box 47 [.mp 1]), (1, .box ⟨.mpb es, none⟩ [])] (.c (.d (.sl 1 (strs (es.map (·.1)))))) [(0, .box 47 [.mp 1]), (1, .box ⟨.mpb es, none⟩ [])] := by
 intro fr w pl args hw hG m ha
 obtain ⟨v, r, rfl, h1, h2⟩ := ha.uncons
 rw [h2.unnil]
 obtain ⟨_, rfl⟩ := h1
 obtain ⟨vs, hv, hc⟩ := m.obj 0 _ rfl
 obtain ⟨y, r', rfl, hy, hr'⟩ := hc.uncons
 rw [hr'.unnil] at hv
 obtain ⟨_, rfl⟩ := hy
 obtain ⟨vs1, ⟨ents, clock, hb, hM⟩, _⟩ := m.obj 1 _ rfl
 have hv : w.heap[pl.blk 0]? = some (.cells #[.map (some (pl.blk 1))] 47 (0, 0)) := hv
 obtain ⟨D0, hown, hperm, hsize⟩ := keys_own hb hM hl hk
 have hcall := callsIn_wide.1 (Tryz.sorted_keysK (pl.blk 0) (pl.blk 1) ents.size D0 _ w (Array.getElem?_eq_some_iff.1 hv).1 (by rw [Lib.cell_of_heap hv]; rfl) hown (by rw [hsize]; unfold maxLen; omega) (by rw [hsize]; omega))
 refine Calls.mono hcall ?_
 rintro e w' ⟨v, ss, rfl, hp, hrow, _, hbl⟩
 obtain ⟨m', L⟩ := m.ext (w' := w') ⟨hbl.os, hbl.tape, hbl.output, hbl.size, fun k hk _ => hbl.block k hk⟩
 have hpe := hp.trans hperm
 rw [sort_keys hs hpe] at hrow
 have hlen : ss.length = ((es.map (·.1)).map encStr).length := by have := hpe.length_eq; simp only [List.length_map] at this ⊢; exact this
 rw [hlen] at hrow
 have := row_out m hw hrow (fun x hx => by obtain ⟨z, _, rfl⟩ := List.mem_map.1 hx; rfl)
 refine ⟨_, pl, rfl, m', ?_⟩
 have e : ((es.map (·.1)).map encStr).map (fun x => [D.v x]) = strs (es.map (·.1)) := by
  rw [List.map_map]; rfl
 rw [e] at this
 exact this
end Go.Proofs.YtclaplngjmgnoaaGreatDoor
namespace Go.Proofs.YtclaplngjmgnoaaGreatDoor
open Go.RowKit Go.V
open Go.Eng (inR byteAt u8 bytesV)
variable {g : Gv}
abbrev RS := List (List UInt8 × Bool)
def permB (a n : Int) : Bool := decide (1 ≤ n) && decide (n ≤ 8) && decide (1 ≤ a) && decide (a ≤ n)
def lineT (t : List UInt8) (b : Bool) : List UInt8 := (if b then 45 else 43) :: (Lib.itoa (t.length : Int) ++ 58 :: (t ++ [10]))
def encT (es : RS) : List UInt8 := es.flatMap fun x => lineT x.1 x.2
structure RsOk (n : Int) (es : RS) : Prop where
 sort : kSort es
 len : es.length ≤ 4000
 it : ∀ x, x ∈ es → IsIt x.1
 au : ∀ x, x ∈ es → 1 ≤ (itOf x.1).author ∧ (itOf x.1).author ≤ n
theorem it_len {t : List UInt8} (h : IsIt t) : t.length ≤ 200000 := by
 obtain ⟨h1, h2⟩ := itOf_ok h
 have := itT_len h1
 rw [h2] at this; exact this
theorem RsOk.tlen {n : Int} {es : RS} (h : RsOk n es) {x : List UInt8 × Bool} (hx : x ∈ es) : x.1.length ≤ 200000 := it_len (h.it x hx)
theorem line_len {t : List UInt8} (h : t.length ≤ 200000) (b : Bool) : (lineT t b).length ≤ 200100 := by
 have := itoa_len (nOk_len (n := t.length) (by omega))
 simp only [zq1, lineT]
 omega
theorem flat_le {α : Type} {f : α → List UInt8} {c : Nat} : ∀ {l : List α}, (∀ x, x ∈ l → (f x).length ≤ c) → (l.flatMap f).length ≤ c * l.length
 | [], _ => by simp
 | x :: l, h => by
  have h1 := h x (by simp)
  have h2 := flat_le (f := f) (l := l) fun y hy => h y (by simp [hy])
  simp only [zq0, List.flatMap_cons, Nat.mul_add, Nat.mul_one]
  omega
theorem enc_take {n : Int} {es : RS} (h : RsOk n es) (k : Nat) : (encT (es.take k)).length ≤ 800400000 := by
 have := flat_le (f := fun x : List UInt8 × Bool => lineT x.1 x.2) (l := es.take k) (c := 200100) fun x hx => line_len (h.tlen (List.mem_of_mem_take hx)) x.2
 have h2 := h.len
 have h3 : (es.take k).length ≤ es.length := by rw [List.length_take]; omega
 unfold encT
 omega
theorem enc_snoc {es : RS} {k : Nat} (h : k < es.length) : encT (es.take (k + 1)) = encT (es.take k) ++ lineT (es.getD k ([], false)).1 (es.getD k ([], false)).2 := by
 rw [take_snoc ([], false) h]; simp [encT]
theorem key_at {es : RS} {k : Nat} (h : k < es.length) : (es.map (·.1)).getD k [] = (es.getD k ([], false)).1 := by simp [h]
theorem lk_at {es : RS} (hs : kSort es) {k : Nat} (h : k < es.length) : lkM (es.getD k ([], false)).1 es = some (es.getD k ([], false)).2 := by
 refine lkM_of_mem ?_ ?_
 ·have h2 : (es.map (·.1)).Pairwise (· < ·) := hs
  exact h2.imp fun {a b} h e => by rw [e] at h; exact List.lt_irrefl _ h
 ·exact getD_mem h
theorem itoa_sz (t : List UInt8) (h : t.length ≤ 200000) : SpG g 55 [.c (.d (.i ((S t).size : Int)))] [] (.c (.d (.s (S (Lib.itoa (t.length : Int)))))) [] := by
 have := itoa_ok (g := g) (t.length : Int) (by omega) (by omega)
 rw [S_size]; exact this
theorem readIt {t : List UInt8} (h : IsIt t) : SpG g 38 [.c (.d (.s (S t)))] [] (.tup [(true, [.d (.i ((itOf t).id)), .d (.i ((itOf t).author)), .d (.i ((itOf t).rank)), .d (.i ((itOf t).time)), .d (.i ((itOf t).kind)), .d (.sl 7 (tvsD ((itOf t).input))), .d (.i (tvK ((itOf t).output))), .d (.s (S (tvS ((itOf t).output)))), .d (.i 0), .d (.i 0), .d (.i 0), .d (.sl 1 (([] : List (List D)))), .d (.sl 1 (([] : List (List D)))), .d (.s (S (itOf t).prop)), .d (.s (S (itOf t).param)), .d (.sl 1 (intsD ((itOf t).program)))]), (false, [.d (.b true)])]) [] := by
 obtain ⟨h1, h2⟩ := itOf_ok h
 have := itRead_ok (g := g) (itOf t) h1
 rw [h2] at this
 exact this
theorem key_len {n : Int} {es : RS} (h : RsOk n es) {k : Nat} (hk : k < es.length) : ((es.map (·.1)).getD k []).length ≤ 200000 := by
 rw [key_at hk]; exact h.tlen (getD_mem hk)
theorem key_it {n : Int} {es : RS} (h : RsOk n es) {k : Nat} (hk : k < es.length) : IsIt ((es.map (·.1)).getD k []) := by
 rw [key_at hk]; exact h.it _ (getD_mem hk)
theorem enc_step {es : RS} (hs : kSort es) {k : Nat} (h : k < es.length) : bytesD (encT (es.take k)) ++ bytesD (S (lineT ((es.map (·.1)).getD k []) ((lkM ((es.map (·.1)).getD k []) es).getD false))).data.toList = bytesD (encT (es.take (k + 1))) := by
 rw [key_at h, lk_at hs h, enc_snoc h, bytesD_app, S_data]; rfl
theorem zero_made (a n : Int) (es : RS) :
  SpG g 32 [.c (.bx 0 0)] [(0, .box 73 [.d (.i a), .d (.i n), .mp 1]), (1, .box ⟨.mpb (es), none⟩ [])] (.c (.d (.b false))) [(0, .box 73 [.d (.i a), .d (.i n), .mp 1]), (1, .box ⟨.mpb (es), none⟩ [])] := by
 refine enterB 12 Tryz.func32 (by kernel_rfl) fun fr hG => ?_
 exact zr hG [] [] (by kernel_rfl) conj0
def zq15 := And.intro @List.length_cons.{0} (And.intro @List.length_nil.{0} (And.intro @S_size (@maxLen.eq_1)))
theorem line_ok (t : List UInt8) (b : Bool) (h : t.length ≤ 200000) :
  SpG g 35 [.c (.d (.s (S t))), .c (.d (.b b))] [] (.c (.d (.s (S (lineT t b))))) [] := by
 have hl := itoa_len (nOk_len (n := t.length) (by omega))
 refine enterB 16 Tryz.func35 (by kernel_rfl) fun fr hG => ?_
 refine zC hG [] [1, 0, 1, 1] (b) (⟨[(0, [], .c (.d (.s (S t)))), (4, [], .c (.d (.s (S [])))), (5, [], .c (.d (.s (S [43]))))], []⟩) (by kernel_rfl) conj0 (fun hc1 => ?_) (fun hc1 => ?_)
 ·(try simp only [blS] at hc1)
  refine zR hG [(4, 3, .call (.c (.d (.s (S (Lib.itoa (t.length : Int)))))) [] [])] [] (.c (.d (.s (((((S [45]) ++ (S (Lib.itoa (t.length : Int)))) ++ (S [58])) ++ (S t)) ++ (S [10]))))) [] (by kernel_rfl) (conjC ((itoa_sz t h : SpG g _ _ _ _ _)) (conjC (show (S [45]).size + (S (Lib.itoa (t.length : Int))).size ≤ maxLen from (by intros; (try simp only [zq15, ByteArray.size_append] at *); omega)) (conjC (show ((S [45]) ++ (S (Lib.itoa (t.length : Int)))).size + (S [58]).size ≤ maxLen from (by intros; (try simp only [zq15, ByteArray.size_append] at *); omega)) (conjC (show (((S [45]) ++ (S (Lib.itoa (t.length : Int)))) ++ (S [58])).size + (S t).size ≤ maxLen from (by intros; (try simp only [zq15, ByteArray.size_append] at *); omega)) (conj1 (show ((((S [45]) ++ (S (Lib.itoa (t.length : Int)))) ++ (S [58])) ++ (S t)).size + (S [10]).size ≤ maxLen from (by intros; (try simp only [zq15, ByteArray.size_append] at *); omega))))))) ?_ ?_
  ·cases b <;> first | (exfalso; cases hc1; done) | (rw [S_app, S_app, S_app, S_app]; simp [lineT]; done) | (exfalso; simp at hc1; done)
  ·rfl
 ·(try simp only [blS] at hc1)
  refine zR hG [(4, 3, .call (.c (.d (.s (S (Lib.itoa (t.length : Int)))))) [] [])] [] (.c (.d (.s (((((S [43]) ++ (S (Lib.itoa (t.length : Int)))) ++ (S [58])) ++ (S t)) ++ (S [10]))))) [] (by kernel_rfl) (conjC ((itoa_sz t h : SpG g _ _ _ _ _)) (conjC (show (S [43]).size + (S (Lib.itoa (t.length : Int))).size ≤ maxLen from (by intros; (try simp only [zq15, ByteArray.size_append] at *); omega)) (conjC (show ((S [43]) ++ (S (Lib.itoa (t.length : Int)))).size + (S [58]).size ≤ maxLen from (by intros; (try simp only [zq15, ByteArray.size_append] at *); omega)) (conjC (show (((S [43]) ++ (S (Lib.itoa (t.length : Int)))) ++ (S [58])).size + (S t).size ≤ maxLen from (by intros; (try simp only [zq15, ByteArray.size_append] at *); omega)) (conj1 (show ((((S [43]) ++ (S (Lib.itoa (t.length : Int)))) ++ (S [58])) ++ (S t)).size + (S [10]).size ≤ maxLen from (by intros; (try simp only [zq15, ByteArray.size_append] at *); omega))))))) ?_ ?_
  ·cases b <;> first | (exfalso; cases hc1; done) | (rw [S_app, S_app, S_app, S_app]; simp [lineT]; done) | (exfalso; simp at hc1; done)
  ·rfl
theorem keys_ok_ (es : RS) :
  SpG g 60 [.c (.mp 0)] [(0, .box ⟨.mpb (es), none⟩ [])] (.c (.fn 113 [] [(100, 0)])) [(100, .box 47 [.mp 0]), (0, .box ⟨.mpb (es), none⟩ [])] := by
 refine enterB 4 Tryz.func60 (by kernel_rfl) fun fr hG => ?_
 exact zr hG [] [100] (by kernel_rfl) conj0
theorem keys_ok (es : RS) :
  SpG g 60 [.c (.mp 0)] [(0, .box ⟨.mpb (es), none⟩ [])] (.c (.fn 113 [] [(100, 0)])) [(0, .box ⟨.mpb (es), none⟩ []), (100, .box 47 [.mp 0])] := by
 refine spec_look (keys_ok_ es) ?_
 first | rfl | (funext i; simp only [lookO_cons, upd]; ((repeat' split) <;> first | rfl | (exfalso; omega)))
theorem ordered_ok_ (a n : Int) (es : RS) :
  SpG g 33 [.c (.bx 0 0)] [(0, .box 73 [.d (.i a), .d (.i n), .mp 1]), (1, .box ⟨.mpb (es), none⟩ [])] (.c (.fn 58 [] [(100, 0)])) [(100, .box 35 [.bx 0 0]), (0, .box 73 [.d (.i a), .d (.i n), .mp 1]), (1, .box ⟨.mpb (es), none⟩ [])] := by
 refine enterB 4 Tryz.func33 (by kernel_rfl) fun fr hG => ?_
 exact zr hG [] [100] (by kernel_rfl) conj0
theorem ordered_ok (a n : Int) (es : RS) :
  SpG g 33 [.c (.bx 0 0)] [(0, .box 73 [.d (.i a), .d (.i n), .mp 1]), (1, .box ⟨.mpb (es), none⟩ [])] (.c (.fn 58 [] [(100, 0)])) [(0, .box 73 [.d (.i a), .d (.i n), .mp 1]), (1, .box ⟨.mpb (es), none⟩ []), (100, .box 35 [.bx 0 0])] := by
 refine spec_look (ordered_ok_ a n es) ?_
 first | rfl | (funext i; simp only [lookO_cons, upd]; ((repeat' split) <;> first | rfl | (exfalso; omega)))
theorem copyCheck0q (q : Option Nat) (es : List (List V.D)) :
  SpG g 61 [.c (.bx 0 0)] [(0, .box ⟨.c 89, q⟩ [.d (.v (.pointer none)), .ar 1 0]), (1, .arr 0 5 1 (es))] (.tup []) [(0, .box ⟨.c 89, q⟩ [.bx 0 0, .ar 1 0]), (1, .arr 0 5 1 (es))] := by
 refine enterB 20 Tryz.func61 (by kernel_rfl) fun fr hG => ?_
 refine zc hG [] [1] (true) (by kernel_rfl) conj0 (fun _ => ?_) (fun hc1 => absurd hc1 (by decide))
 exact zr hG [] [] (by kernel_rfl) (conj1 (show NoEsc Tryz.prog 114 from noEsc_114))
theorem copyCheck1q (q : Option Nat) (es : List (List V.D)) :
  SpG g 61 [.c (.bx 0 0)] [(0, .box ⟨.c 89, q⟩ [.bx 0 0, .ar 1 0]), (1, .arr 0 5 1 (es))] (.tup []) [(0, .box ⟨.c 89, q⟩ [.bx 0 0, .ar 1 0]), (1, .arr 0 5 1 (es))] := by
 refine enterB 20 Tryz.func61 (by kernel_rfl) fun fr hG => ?_
 refine zc hG [] [1] (false) (by kernel_rfl) conj0 (fun hc1 => absurd hc1 (by decide)) (fun _ => ?_)
 refine zC hG [] [1, 1, 1] (false) (⟨[], [(0, .box ⟨.c 89, q⟩ [.bx 0 0, .ar 1 0]), (1, .arr 0 5 1 (es))]⟩) (by kernel_rfl) conj0 (fun hc2 => absurd hc2 (by decide)) (fun _ => ?_)
 exact zr hG [] [] (by kernel_rfl) conj0
theorem writeString0q (q : Option Nat) (es : List (List V.D)) (s : ByteArray) (h : es.length + s.size ≤ 1000000000000) :
  SpG g 34 [.c (.bx 0 0), .c (.d (.s s))] [(0, .box ⟨.c 89, q⟩ [.d (.v (.pointer none)), .ar 1 0]), (1, .arr 0 5 1 (es))] (.tup [(false, [.d (.i (s.size : Int))]), (false, [.d (.v (.nilIface))])]) [(0, .box ⟨.c 89, q⟩ [.bx 0 0, .ar 1 0]), (1, .arr 0 5 1 (es ++ bytesD s.data.toList))] := by
 refine enterB 19 Tryz.func34 (by kernel_rfl) fun fr hG => ?_
 exact zr hG [(1, 1, .callG (.tup []) [0, 1] [(0, .box ⟨.c 89, q⟩ [.bx 0 0, .ar 1 0]), (1, .arr 0 5 1 (es))])] [] (by kernel_rfl) (conjC ((copyCheck0q q (es) : SpG g _ _ _ _ _)) (conj1 (show (es).length + (s).size ≤ 1000000000000 from (by intros; first | assumption | omega))))
theorem writeString1q (q : Option Nat) (es : List (List V.D)) (s : ByteArray) (h : es.length + s.size ≤ 1000000000000) :
  SpG g 34 [.c (.bx 0 0), .c (.d (.s s))] [(0, .box ⟨.c 89, q⟩ [.bx 0 0, .ar 1 0]), (1, .arr 0 5 1 (es))] (.tup [(false, [.d (.i (s.size : Int))]), (false, [.d (.v (.nilIface))])]) [(0, .box ⟨.c 89, q⟩ [.bx 0 0, .ar 1 0]), (1, .arr 0 5 1 (es ++ bytesD s.data.toList))] := by
 refine enterB 19 Tryz.func34 (by kernel_rfl) fun fr hG => ?_
 exact zr hG [(1, 1, .callG (.tup []) [0, 1] [(0, .box ⟨.c 89, q⟩ [.bx 0 0, .ar 1 0]), (1, .arr 0 5 1 (es))])] [] (by kernel_rfl) (conjC ((copyCheck1q q (es) : SpG g _ _ _ _ _)) (conj1 (show (es).length + (s).size ≤ 1000000000000 from (by intros; first | assumption | omega))))
theorem encY0 (b3 D l : Nat) (fn : FuncId) (tm : Array Value) (h3 : tm.getD 3 undef = .pointer (some ⟨b3, 0, none⟩)) (hn : tm.size = 17) (es : List (List V.D)) (t : List UInt8) (w : Bool) (ht : t.length ≤ 200000) (he : es.length ≤ 900000000) :
  YSpec Tryz.prog (Gl g) l [.c (.d (.s (S t))), .c (.d (.b w))] [(0, .box ⟨.raw (.loop (recOf (bodyOf Tryz.f14) [0, 1, 0, 1, 1, 1] fn tm D)), some l⟩ []), (1, .box ⟨.c 89, some b3⟩ [.d (.v (.pointer none)), .ar 2 0]), (2, .arr 0 5 1 (es))] (.c (.d (.b true))) [(0, .box ⟨.raw (.loop (recOf (bodyOf Tryz.f14) [0, 1, 0, 1, 1, 1] fn tm D)), some l⟩ []), (1, .box ⟨.c 89, some b3⟩ [.bx 1 0, .ar 2 0]), (2, .arr 0 5 1 (es ++ bytesD (S (lineT t w)).data.toList))] := by
 have hll := line_len ht w
 refine enterY2 (iL := 0) (p := 10) (p2 := 11) (env0 := [(3, [], .c (.bx 1 0))]) (n := 17) (r := (recOf (bodyOf Tryz.f14) [0, 1, 0, 1, 1, 1] fn tm D)) rfl (by kernel_rfl) hn (by decide) (by decide) (by decide) ⟨rfl, ⟨_, _, _, rfl, rfl, h3⟩, trivial⟩ fun fr hG => ?_
 refine stepB hG hmix [] (⟨[(3, [], .c (.bx 1 0)), (4, [], .c (.d (.s (S t)))), (5, [], .c (.d (.b w)))], [(0, .box ⟨.raw (.loop (recOf (bodyOf Tryz.f14) [0, 1, 0, 1, 1, 1] fn tm D)), some l⟩ []), (1, .box ⟨.c 89, some b3⟩ [.d (.v (.pointer none)), .ar 2 0]), (2, .arr 0 5 1 (es))]⟩) 0 (r := (recOf (bodyOf Tryz.f14) [0, 1, 0, 1, 1, 1] fn tm D)) (by kernel_rfl) conj0 rfl rfl ?_
 refine stepK hG (⟨[(3, [], .c (.bx 1 0)), (4, [], .c (.d (.s (S t)))), (5, [], .c (.d (.b w)))], [(0, .box ⟨.raw (.loop { (recOf (bodyOf Tryz.f14) [0, 1, 0, 1, 1, 1] fn tm D) with state := .busy }), some l⟩ []), (1, .box ⟨.c 89, some b3⟩ [.d (.v (.pointer none)), .ar 2 0]), (2, .arr 0 5 1 (es))]⟩) (by kernel_rfl) ?_
 refine stepY hG hmix [(7, 2, .call (.c (.d (.s (S (lineT (t) w))))) [] []), (7, 3, .callG (.tup [(false, [.d (.i ((S (lineT (t) w)).size : Int))]), (false, [.d (.v (.nilIface))])]) [1, 2] [(0, .box ⟨.c 89, some b3⟩ [.bx 0 0, .ar 1 0]), (1, .arr 0 5 1 ((es) ++ bytesD (S (lineT (t) w)).data.toList))])] [] 0 .normal [(0, .box ⟨.raw (endL { (recOf (bodyOf Tryz.f14) [0, 1, 0, 1, 1, 1] fn tm D) with state := .busy } .normal), some l⟩ []), (2, .arr 0 5 1 ((es) ++ bytesD (S (lineT (t) w)).data.toList)), (1, .box ⟨.c 89, some b3⟩ [.bx 1 0, .ar 2 0])] (by kernel_rfl) (conjC ((line_ok (t) w (by exact ht) : SpG g _ _ _ _ _)) (conj1 ((writeString0q (some b3) (es) (S (lineT (t) w)) (by rw [S_size]; omega) : SpG g _ _ _ _ _)))) ?_ ?_
 ·rfl
 ·funext i; simp only [lookO_cons, upd]; (repeat' split) <;> first | rfl | (exfalso; omega)
theorem encY1 (b3 D l : Nat) (fn : FuncId) (tm : Array Value) (h3 : tm.getD 3 undef = .pointer (some ⟨b3, 0, none⟩)) (hn : tm.size = 17) (es : List (List V.D)) (t : List UInt8) (w : Bool) (ht : t.length ≤ 200000) (he : es.length ≤ 900000000) :
  YSpec Tryz.prog (Gl g) l [.c (.d (.s (S t))), .c (.d (.b w))] [(0, .box ⟨.raw (.loop (recOf (bodyOf Tryz.f14) [0, 1, 0, 1, 1, 1] fn tm D)), some l⟩ []), (1, .box ⟨.c 89, some b3⟩ [.bx 1 0, .ar 2 0]), (2, .arr 0 5 1 (es))] (.c (.d (.b true))) [(0, .box ⟨.raw (.loop (recOf (bodyOf Tryz.f14) [0, 1, 0, 1, 1, 1] fn tm D)), some l⟩ []), (1, .box ⟨.c 89, some b3⟩ [.bx 1 0, .ar 2 0]), (2, .arr 0 5 1 (es ++ bytesD (S (lineT t w)).data.toList))] := by
 have hll := line_len ht w
 refine enterY2 (iL := 0) (p := 10) (p2 := 11) (env0 := [(3, [], .c (.bx 1 0))]) (n := 17) (r := (recOf (bodyOf Tryz.f14) [0, 1, 0, 1, 1, 1] fn tm D)) rfl (by kernel_rfl) hn (by decide) (by decide) (by decide) ⟨rfl, ⟨_, _, _, rfl, rfl, h3⟩, trivial⟩ fun fr hG => ?_
 refine stepB hG hmix [] (⟨[(3, [], .c (.bx 1 0)), (4, [], .c (.d (.s (S t)))), (5, [], .c (.d (.b w)))], [(0, .box ⟨.raw (.loop (recOf (bodyOf Tryz.f14) [0, 1, 0, 1, 1, 1] fn tm D)), some l⟩ []), (1, .box ⟨.c 89, some b3⟩ [.bx 1 0, .ar 2 0]), (2, .arr 0 5 1 (es))]⟩) 0 (r := (recOf (bodyOf Tryz.f14) [0, 1, 0, 1, 1, 1] fn tm D)) (by kernel_rfl) conj0 rfl rfl ?_
 refine stepK hG (⟨[(3, [], .c (.bx 1 0)), (4, [], .c (.d (.s (S t)))), (5, [], .c (.d (.b w)))], [(0, .box ⟨.raw (.loop { (recOf (bodyOf Tryz.f14) [0, 1, 0, 1, 1, 1] fn tm D) with state := .busy }), some l⟩ []), (1, .box ⟨.c 89, some b3⟩ [.bx 1 0, .ar 2 0]), (2, .arr 0 5 1 (es))]⟩) (by kernel_rfl) ?_
 refine stepY hG hmix [(7, 2, .call (.c (.d (.s (S (lineT (t) w))))) [] []), (7, 3, .callG (.tup [(false, [.d (.i ((S (lineT (t) w)).size : Int))]), (false, [.d (.v (.nilIface))])]) [1, 2] [(0, .box ⟨.c 89, some b3⟩ [.bx 0 0, .ar 1 0]), (1, .arr 0 5 1 ((es) ++ bytesD (S (lineT (t) w)).data.toList))])] [] 0 .normal [(0, .box ⟨.raw (endL { (recOf (bodyOf Tryz.f14) [0, 1, 0, 1, 1, 1] fn tm D) with state := .busy } .normal), some l⟩ []), (2, .arr 0 5 1 ((es) ++ bytesD (S (lineT (t) w)).data.toList)), (1, .box ⟨.c 89, some b3⟩ [.bx 1 0, .ar 2 0])] (by kernel_rfl) (conjC ((line_ok (t) w (by exact ht) : SpG g _ _ _ _ _)) (conj1 ((writeString1q (some b3) (es) (S (lineT (t) w)) (by rw [S_size]; omega) : SpG g _ _ _ _ _)))) ?_ ?_
 ·rfl
 ·funext i; simp only [lookO_cons, upd]; (repeat' split) <;> first | rfl | (exfalso; omega)
def zq16 := And.intro @List.length_map.{0, 0} (And.intro @blS (@strs.eq_1))
def zq17 := And.intro @List.length_map.{0, 0} (And.intro @Go.Eng.inR.eq_1 (@strs.eq_1))
theorem encIt_ (b0 b4 b5 : Nat) (b3 D l : Nat) (fn : FuncId) (tm : Array Value) (h3 : tm.getD 3 undef = .pointer (some ⟨b3, 0, none⟩)) (hn : tm.size = 17) (a n : Int) (es : RS) (hes : RsOk n es) (hne : es ≠ []) :
  SpG g 58 [.c (.d (.v (.func (.yield l) #[] #[]))), .c (.bx 0 0)] [(0, .box ⟨.c 35, some b0⟩ [.bx 4 0]), (1, .box ⟨.raw (.loop (recOf (bodyOf Tryz.f14) [0, 1, 0, 1, 1, 1] fn tm D)), some l⟩ []), (2, .box ⟨.c 89, some b3⟩ [.d (.v (.pointer none)), .ar 3 0]), (3, .arr 0 5 1 (([] : List (List V.D)))), (4, .box ⟨.c 73, some b4⟩ [.d (.i a), .d (.i n), .mp 5]), (5, .box ⟨.mpb (es), some b5⟩ [])] (.tup []) [(0, .box ⟨.c 35, some b0⟩ [.bx 4 0]), (1, .box ⟨.raw (.loop (recOf (bodyOf Tryz.f14) [0, 1, 0, 1, 1, 1] fn tm D)), some l⟩ []), (2, .box ⟨.c 89, some b3⟩ [.bx 2 0, .ar 3 0]), (3, .arr 0 5 1 (bytesD (encT es))), (4, .box 73 [.d (.i a), .d (.i n), .mp 5]), (5, .box ⟨.mpb (es), none⟩ [])] := by
 have hle := hes.len
 have hpos := List.length_pos_iff.2 hne
 have hsl : (strs (es.map (·.1))).length = es.length := by rw [strs, List.length_map, List.length_map]
 refine enterB 27 Tryz.func58 (by kernel_rfl) fun fr hG => ?_
 refine stepU [4, 5] (⟨[(0, [], .c (.d (.v (.func (.yield l) #[] #[])))), (1, [], .c (.bx 0 0))], [(0, .box ⟨.c 35, some b0⟩ [.bx 4 0]), (1, .box ⟨.raw (.loop (recOf (bodyOf Tryz.f14) [0, 1, 0, 1, 1, 1] fn tm D)), some l⟩ []), (2, .box ⟨.c 89, some b3⟩ [.d (.v (.pointer none)), .ar 3 0]), (3, .arr 0 5 1 (([] : List (List V.D)))), (4, .box 73 [.d (.i a), .d (.i n), .mp 5]), (5, .box ⟨.mpb (es), none⟩ [])]⟩) (by kernel_rfl) ?_
 refine stepL hG hmix [(0, 4, .callG (.c (.fn 113 [] [(100, 0)])) [5] [(0, .box ⟨.mpb (es), none⟩ []), (100, .box 47 [.mp 0])]), (0, 5, .callG (.c (.d (.sl 1 (strs (es.map (·.1)))))) [104, 5] [(0, .box 47 [.mp 1]), (1, .box ⟨.mpb (es), none⟩ [])])] [0, 1] ((fun (zz : Nat × List (List V.D)) => match zz with | (0, eb) => ⟨[(0, [], .c (.d (.v (.func (.yield l) #[] #[])))), (1, [], .c (.bx 0 0)), (10, [], .c (.d (.sl 1 (strs (es.map (·.1)))))), (11, [], .c (.d (.i ((strs (es.map (·.1))).length : Int)))), (12, [], .c (.d (.i 0)))], [(0, .box ⟨.c 35, some b0⟩ [.bx 4 0]), (1, .box ⟨.raw (.loop (recOf (bodyOf Tryz.f14) [0, 1, 0, 1, 1, 1] fn tm D)), some l⟩ []), (2, .box ⟨.c 89, some b3⟩ [.d (.v (.pointer none)), .ar 3 0]), (3, .arr 0 5 1 (eb)), (4, .box 73 [.d (.i a), .d (.i n), .mp 5]), (5, .box ⟨.mpb (es), none⟩ [])]⟩ | (k + 1, eb) => ⟨[(0, [], .c (.d (.v (.func (.yield l) #[] #[])))), (1, [], .c (.bx 0 0)), (10, [], .c (.d (.sl 1 (strs (es.map (·.1)))))), (11, [], .c (.d (.i ((strs (es.map (·.1))).length : Int)))), (12, [], .c (.d (.i ((k + 1 : Nat) : Int))))], [(0, .box ⟨.c 35, some b0⟩ [.bx 4 0]), (1, .box ⟨.raw (.loop (recOf (bodyOf Tryz.f14) [0, 1, 0, 1, 1, 1] fn tm D)), some l⟩ []), (2, .box ⟨.c 89, some b3⟩ [.bx 2 0, .ar 3 0]), (3, .arr 0 5 1 (eb)), (4, .box 73 [.d (.i a), .d (.i n), .mp 5]), (5, .box ⟨.mpb (es), none⟩ [])]⟩) (0, [])) _ (by kernel_rfl) (conjC ((keys_ok es : SpG g _ _ _ _ _)) (conj1 ((sortedKeys_ok es (by exact hes.sort) (by have := hes.len; omega) (by intro x hx; have := hes.tlen hx; omega) : SpG g _ _ _ _ _)))) ?_
 refine loopR (σ := Nat × List (List V.D)) (fun (zz : Nat × List (List V.D)) => match zz with | (k, eb) => es.length - k) (fun (zz : Nat × List (List V.D)) => match zz with | (0, eb) => ⟨[(0, [], .c (.d (.v (.func (.yield l) #[] #[])))), (1, [], .c (.bx 0 0)), (10, [], .c (.d (.sl 1 (strs (es.map (·.1)))))), (11, [], .c (.d (.i ((strs (es.map (·.1))).length : Int)))), (12, [], .c (.d (.i 0)))], [(0, .box ⟨.c 35, some b0⟩ [.bx 4 0]), (1, .box ⟨.raw (.loop (recOf (bodyOf Tryz.f14) [0, 1, 0, 1, 1, 1] fn tm D)), some l⟩ []), (2, .box ⟨.c 89, some b3⟩ [.d (.v (.pointer none)), .ar 3 0]), (3, .arr 0 5 1 (eb)), (4, .box 73 [.d (.i a), .d (.i n), .mp 5]), (5, .box ⟨.mpb (es), none⟩ [])]⟩ | (k + 1, eb) => ⟨[(0, [], .c (.d (.v (.func (.yield l) #[] #[])))), (1, [], .c (.bx 0 0)), (10, [], .c (.d (.sl 1 (strs (es.map (·.1)))))), (11, [], .c (.d (.i ((strs (es.map (·.1))).length : Int)))), (12, [], .c (.d (.i ((k + 1 : Nat) : Int))))], [(0, .box ⟨.c 35, some b0⟩ [.bx 4 0]), (1, .box ⟨.raw (.loop (recOf (bodyOf Tryz.f14) [0, 1, 0, 1, 1, 1] fn tm D)), some l⟩ []), (2, .box ⟨.c 89, some b3⟩ [.bx 2 0, .ar 3 0]), (3, .arr 0 5 1 (eb)), (4, .box 73 [.d (.i a), .d (.i n), .mp 5]), (5, .box ⟨.mpb (es), none⟩ [])]⟩) (fun (zz : Nat × List (List V.D)) => match zz with | (k, eb) => k ≤ es.length ∧ eb = bytesD (encT (es.take k))) (0, []) (by kernel_rfl) ?_ ?_
 ·exact ⟨Nat.zero_le _, rfl⟩
 rintro ⟨k, eb⟩ ⟨hk, heb⟩
 have hel : eb.length ≤ 800400000 := by rw [heb, bytesD_len]; exact enc_take hes k
 rcases k with _ | k <;> (try dsimp only at hk heb)
 ·skip
  refine zc hG [] [0, 1] (decide ((0 : Int) < ((strs (es.map (·.1))).length : Int))) (by kernel_rfl) conj0 (fun hc2 => ?_) (fun hc2 => ?_)
  ·(try simp only [zq16] at hc2)
   refine zC hG [(2, 0, .elem (strD (((es.map (·.1))).getD 0 []))), (3, 8, .callG (.c (.d (.b true))) [1, 2, 3] [(0, .box ⟨.raw (.loop (recOf (bodyOf Tryz.f14) [0, 1, 0, 1, 1, 1] fn tm D)), some l⟩ []), (1, .box ⟨.c 89, some b3⟩ [.bx 1 0, .ar 2 0]), (2, .arr 0 5 1 ((eb) ++ bytesD (S (lineT (((es.map (·.1))).getD 0 []) ((lkM (((es.map (·.1))).getD 0 []) es).getD false))).data.toList))])] [1, 1, 0, 0, 1, 1] (false) (⟨[(0, [], .c (.d (.v (.func (.yield l) #[] #[])))), (1, [], .c (.bx 0 0)), (10, [], .c (.d (.sl 1 (strs (es.map (·.1)))))), (11, [], .c (.d (.i ((strs (es.map (·.1))).length : Int)))), (12, [], .c (.d (.i 0)))], [(0, .box ⟨.c 35, some b0⟩ [.bx 4 0]), (1, .box ⟨.raw (.loop (recOf (bodyOf Tryz.f14) [0, 1, 0, 1, 1, 1] fn tm D)), some l⟩ []), (2, .box ⟨.c 89, some b3⟩ [.bx 2 0, .ar 3 0]), (3, .arr 0 5 1 ((eb) ++ bytesD (S (lineT (((es.map (·.1))).getD 0 []) ((lkM (((es.map (·.1))).getD 0 []) es).getD false))).data.toList)), (4, .box 73 [.d (.i a), .d (.i n), .mp 5]), (5, .box ⟨.mpb (es), none⟩ [])]⟩) (by kernel_rfl) (conjC (show (0 : Int) ≤ 0 ∧ (strs (es.map (·.1)))[0]? = some (strD (((es.map (·.1))).getD 0 [])) from (by intros; exact map_at (f := strD) [] (by omega) (by (try simp only [zq4] at *); omega))) (conj1 ((encY0 b3 D l fn tm h3 hn (eb) (((es.map (·.1))).getD 0 []) ((lkM (((es.map (·.1))).getD 0 []) es).getD false) (by exact key_len hes (by omega)) (by omega) : YSpec Tryz.prog (Gl g) _ _ _ _ _)))) (fun hc3 => absurd hc3 (by decide)) (fun _ => ?_)
   refine zD hG [] (1, (eb) ++ bytesD (S (lineT (((es.map (·.1))).getD 0 []) ((lkM (((es.map (·.1))).getD 0 []) es).getD false))).data.toList) (by kernel_rfl) (conj1 (show inR (0 + 1) from (by unfold inR; decide))) ?_ ?_
   ·(try dsimp only); omega
   ·exact ⟨by omega, by rw [heb]; exact enc_step hes.sort (k := 0) (by omega)⟩
  ·(try simp only [zq16] at hc2)
   refine zE hG [] (.exit 0) (⟨[], [(0, .box ⟨.c 35, some b0⟩ [.bx 4 0]), (1, .box ⟨.raw (.loop (recOf (bodyOf Tryz.f14) [0, 1, 0, 1, 1, 1] fn tm D)), some l⟩ []), (2, .box ⟨.c 89, some b3⟩ [.d (.v (.pointer none)), .ar 3 0]), (3, .arr 0 5 1 (eb)), (4, .box 73 [.d (.i a), .d (.i n), .mp 5]), (5, .box ⟨.mpb (es), none⟩ [])]⟩) (by kernel_rfl) conj0 rfl ?_
   refine zR hG [] [] (.tup []) [(0, .box ⟨.c 35, some b0⟩ [.bx 4 0]), (1, .box ⟨.raw (.loop (recOf (bodyOf Tryz.f14) [0, 1, 0, 1, 1, 1] fn tm D)), some l⟩ []), (2, .box ⟨.c 89, some b3⟩ [.d (.v (.pointer none)), .ar 3 0]), (3, .arr 0 5 1 (eb)), (4, .box 73 [.d (.i a), .d (.i n), .mp 5]), (5, .box ⟨.mpb (es), none⟩ [])] (by kernel_rfl) conj0 ?_ ?_
   ·exfalso; omega
   ·exfalso; omega
 ·skip
  refine zc hG [] [0, 1] (decide ((((k + 1 : Nat) : Int) : Int) < ((strs (es.map (·.1))).length : Int))) (by kernel_rfl) conj0 (fun hc4 => ?_) (fun hc4 => ?_)
  ·(try simp only [zq16] at hc4)
   refine zC hG [(2, 0, .elem (strD (((es.map (·.1))).getD (k + 1 : Nat) []))), (3, 8, .callG (.c (.d (.b true))) [1, 2, 3] [(0, .box ⟨.raw (.loop (recOf (bodyOf Tryz.f14) [0, 1, 0, 1, 1, 1] fn tm D)), some l⟩ []), (1, .box ⟨.c 89, some b3⟩ [.bx 1 0, .ar 2 0]), (2, .arr 0 5 1 ((eb) ++ bytesD (S (lineT (((es.map (·.1))).getD (k + 1 : Nat) []) ((lkM (((es.map (·.1))).getD (k + 1 : Nat) []) es).getD false))).data.toList))])] [1, 1, 0, 0, 1, 1] (false) (⟨[(0, [], .c (.d (.v (.func (.yield l) #[] #[])))), (1, [], .c (.bx 0 0)), (10, [], .c (.d (.sl 1 (strs (es.map (·.1)))))), (11, [], .c (.d (.i ((strs (es.map (·.1))).length : Int)))), (12, [], .c (.d (.i ((k + 1 : Nat) : Int))))], [(0, .box ⟨.c 35, some b0⟩ [.bx 4 0]), (1, .box ⟨.raw (.loop (recOf (bodyOf Tryz.f14) [0, 1, 0, 1, 1, 1] fn tm D)), some l⟩ []), (2, .box ⟨.c 89, some b3⟩ [.bx 2 0, .ar 3 0]), (3, .arr 0 5 1 ((eb) ++ bytesD (S (lineT (((es.map (·.1))).getD (k + 1 : Nat) []) ((lkM (((es.map (·.1))).getD (k + 1 : Nat) []) es).getD false))).data.toList)), (4, .box 73 [.d (.i a), .d (.i n), .mp 5]), (5, .box ⟨.mpb (es), none⟩ [])]⟩) (by kernel_rfl) (conjC (show (0 : Int) ≤ ((k + 1 : Nat) : Int) ∧ (strs (es.map (·.1)))[(k + 1 : Nat)]? = some (strD (((es.map (·.1))).getD (k + 1 : Nat) [])) from (by intros; exact map_at (f := strD) [] (by omega) (by (try simp only [zq4] at *); omega))) (conj1 ((encY1 b3 D l fn tm h3 hn (eb) (((es.map (·.1))).getD (k + 1 : Nat) []) ((lkM (((es.map (·.1))).getD (k + 1 : Nat) []) es).getD false) (by exact key_len hes (by omega)) (by omega) : YSpec Tryz.prog (Gl g) _ _ _ _ _)))) (fun hc5 => absurd hc5 (by decide)) (fun _ => ?_)
   refine zD hG [] (k + 1 + 1, (eb) ++ bytesD (S (lineT (((es.map (·.1))).getD (k + 1 : Nat) []) ((lkM (((es.map (·.1))).getD (k + 1 : Nat) []) es).getD false))).data.toList) (by kernel_rfl) (conj1 (show inR (((k + 1 : Nat) : Int) + 1) from (by intros; (try simp only [zq17] at *); omega))) ?_ ?_
   ·(try dsimp only); omega
   ·exact ⟨by omega, by rw [heb]; exact enc_step hes.sort (k := k + 1) (by omega)⟩
  ·(try simp only [zq16] at hc4)
   refine zE hG [] (.exit 0) (⟨[], [(0, .box ⟨.c 35, some b0⟩ [.bx 4 0]), (1, .box ⟨.raw (.loop (recOf (bodyOf Tryz.f14) [0, 1, 0, 1, 1, 1] fn tm D)), some l⟩ []), (2, .box ⟨.c 89, some b3⟩ [.bx 2 0, .ar 3 0]), (3, .arr 0 5 1 (eb)), (4, .box 73 [.d (.i a), .d (.i n), .mp 5]), (5, .box ⟨.mpb (es), none⟩ [])]⟩) (by kernel_rfl) conj0 rfl ?_
   refine zR hG [] [] (.tup []) [(0, .box ⟨.c 35, some b0⟩ [.bx 4 0]), (1, .box ⟨.raw (.loop (recOf (bodyOf Tryz.f14) [0, 1, 0, 1, 1, 1] fn tm D)), some l⟩ []), (2, .box ⟨.c 89, some b3⟩ [.bx 2 0, .ar 3 0]), (3, .arr 0 5 1 (eb)), (4, .box 73 [.d (.i a), .d (.i n), .mp 5]), (5, .box ⟨.mpb (es), none⟩ [])] (by kernel_rfl) conj0 ?_ ?_
   ·rfl
   ·have hk2 : k + 1 = es.length := by omega
    rw [hk2, List.take_length] at heb
    rw [heb]
theorem encIt (b0 b4 b5 : Nat) (b3 D l : Nat) (fn : FuncId) (tm : Array Value) (h3 : tm.getD 3 undef = .pointer (some ⟨b3, 0, none⟩)) (hn : tm.size = 17) (a n : Int) (es : RS) (hes : RsOk n es) (hne : es ≠ []) :
  SpG g 58 [.c (.d (.v (.func (.yield l) #[] #[]))), .c (.bx 0 0)] [(0, .box ⟨.c 35, some b0⟩ [.bx 4 0]), (1, .box ⟨.raw (.loop (recOf (bodyOf Tryz.f14) [0, 1, 0, 1, 1, 1] fn tm D)), some l⟩ []), (2, .box ⟨.c 89, some b3⟩ [.d (.v (.pointer none)), .ar 3 0]), (3, .arr 0 5 1 (([] : List (List V.D)))), (4, .box ⟨.c 73, some b4⟩ [.d (.i a), .d (.i n), .mp 5]), (5, .box ⟨.mpb (es), some b5⟩ [])] (.tup []) [(0, .box ⟨.c 35, some b0⟩ [.bx 4 0]), (1, .box ⟨.raw (.loop (recOf (bodyOf Tryz.f14) [0, 1, 0, 1, 1, 1] fn tm D)), some l⟩ []), (2, .box ⟨.c 89, some b3⟩ [.bx 2 0, .ar 3 0]), (3, .arr 0 5 1 (bytesD (encT es))), (4, .box 73 [.d (.i a), .d (.i n), .mp 5]), (5, .box ⟨.mpb (es), none⟩ [])] := by
 refine spec_look (encIt_ b0 b4 b5 b3 D l fn tm h3 hn a n es hes hne) ?_
 first | rfl | (funext i; simp only [lookO_cons, upd]; ((repeat' split) <;> first | rfl | (exfalso; omega)))
theorem encIt0_ (b0 b4 b5 : Nat) (b3 D l : Nat) (fn : FuncId) (tm : Array Value) (h3 : tm.getD 3 undef = .pointer (some ⟨b3, 0, none⟩)) (hn : tm.size = 17) (a n : Int) (es : RS) (hes : RsOk n es) (hz : es = []) :
  SpG g 58 [.c (.d (.v (.func (.yield l) #[] #[]))), .c (.bx 0 0)] [(0, .box ⟨.c 35, some b0⟩ [.bx 4 0]), (1, .box ⟨.raw (.loop (recOf (bodyOf Tryz.f14) [0, 1, 0, 1, 1, 1] fn tm D)), some l⟩ []), (2, .box ⟨.c 89, some b3⟩ [.d (.v (.pointer none)), .ar 3 0]), (3, .arr 0 5 1 (([] : List (List V.D)))), (4, .box ⟨.c 73, some b4⟩ [.d (.i a), .d (.i n), .mp 5]), (5, .box ⟨.mpb (es), some b5⟩ [])] (.tup []) [(0, .box ⟨.c 35, some b0⟩ [.bx 4 0]), (1, .box ⟨.raw (.loop (recOf (bodyOf Tryz.f14) [0, 1, 0, 1, 1, 1] fn tm D)), some l⟩ []), (2, .box ⟨.c 89, some b3⟩ [.d (.v (.pointer none)), .ar 3 0]), (3, .arr 0 5 1 (([] : List (List V.D)))), (4, .box 73 [.d (.i a), .d (.i n), .mp 5]), (5, .box ⟨.mpb (es), none⟩ [])] := by
 have hsl : (strs (es.map (·.1))).length = 0 := by rw [hz]; rfl
 refine enterB 27 Tryz.func58 (by kernel_rfl) fun fr hG => ?_
 refine stepU [4, 5] (⟨[(0, [], .c (.d (.v (.func (.yield l) #[] #[])))), (1, [], .c (.bx 0 0))], [(0, .box ⟨.c 35, some b0⟩ [.bx 4 0]), (1, .box ⟨.raw (.loop (recOf (bodyOf Tryz.f14) [0, 1, 0, 1, 1, 1] fn tm D)), some l⟩ []), (2, .box ⟨.c 89, some b3⟩ [.d (.v (.pointer none)), .ar 3 0]), (3, .arr 0 5 1 (([] : List (List V.D)))), (4, .box 73 [.d (.i a), .d (.i n), .mp 5]), (5, .box ⟨.mpb (es), none⟩ [])]⟩) (by kernel_rfl) ?_
 refine zL hG [(0, 4, .callG (.c (.fn 113 [] [(100, 0)])) [5] [(0, .box ⟨.mpb (es), none⟩ []), (100, .box 47 [.mp 0])]), (0, 5, .callG (.c (.d (.sl 1 (strs (es.map (·.1)))))) [104, 5] [(0, .box 47 [.mp 1]), (1, .box ⟨.mpb (es), none⟩ [])])] [0, 1] (fun (zz : Nat) => match zz with | k => (0, ⟨[(0, [], .c (.d (.v (.func (.yield l) #[] #[])))), (1, [], .c (.bx 0 0)), (10, [], .c (.d (.sl 1 (strs (es.map (·.1)))))), (11, [], .c (.d (.i ((strs (es.map (·.1))).length : Int)))), (12, [], .c (.d (.i (k : Int))))], [(0, .box ⟨.c 35, some b0⟩ [.bx 4 0]), (1, .box ⟨.raw (.loop (recOf (bodyOf Tryz.f14) [0, 1, 0, 1, 1, 1] fn tm D)), some l⟩ []), (2, .box ⟨.c 89, some b3⟩ [.d (.v (.pointer none)), .ar 3 0]), (3, .arr 0 5 1 (([] : List (List V.D)))), (4, .box 73 [.d (.i a), .d (.i n), .mp 5]), (5, .box ⟨.mpb (es), none⟩ [])]⟩, k = 0)) 0 (by kernel_rfl) (conjC ((keys_ok es : SpG g _ _ _ _ _)) (conj1 ((sortedKeys_ok es (by exact hes.sort) (by have := hes.len; omega) (by intro x hx; have := hes.tlen hx; omega) : SpG g _ _ _ _ _)))) (by kernel_rfl) ?_ ?_
 ·exact rfl
 rintro k hk
 refine zc hG [] [0, 1] (decide (((k : Int) : Int) < ((strs (es.map (·.1))).length : Int))) (by kernel_rfl) conj0 (fun hc2 => ?_) (fun hc2 => ?_)
 ·(try simp only [blS] at hc2)
  omega
 ·(try simp only [blS] at hc2)
  refine zE hG [] (.exit 0) (⟨[], [(0, .box ⟨.c 35, some b0⟩ [.bx 4 0]), (1, .box ⟨.raw (.loop (recOf (bodyOf Tryz.f14) [0, 1, 0, 1, 1, 1] fn tm D)), some l⟩ []), (2, .box ⟨.c 89, some b3⟩ [.d (.v (.pointer none)), .ar 3 0]), (3, .arr 0 5 1 (([] : List (List V.D)))), (4, .box 73 [.d (.i a), .d (.i n), .mp 5]), (5, .box ⟨.mpb (es), none⟩ [])]⟩) (by kernel_rfl) conj0 rfl ?_
  exact zr hG [] [] (by kernel_rfl) conj0
theorem encIt0 (b0 b4 b5 : Nat) (b3 D l : Nat) (fn : FuncId) (tm : Array Value) (h3 : tm.getD 3 undef = .pointer (some ⟨b3, 0, none⟩)) (hn : tm.size = 17) (a n : Int) (es : RS) (hes : RsOk n es) (hz : es = []) :
  SpG g 58 [.c (.d (.v (.func (.yield l) #[] #[]))), .c (.bx 0 0)] [(0, .box ⟨.c 35, some b0⟩ [.bx 4 0]), (1, .box ⟨.raw (.loop (recOf (bodyOf Tryz.f14) [0, 1, 0, 1, 1, 1] fn tm D)), some l⟩ []), (2, .box ⟨.c 89, some b3⟩ [.d (.v (.pointer none)), .ar 3 0]), (3, .arr 0 5 1 (([] : List (List V.D)))), (4, .box ⟨.c 73, some b4⟩ [.d (.i a), .d (.i n), .mp 5]), (5, .box ⟨.mpb (es), some b5⟩ [])] (.tup []) [(0, .box ⟨.c 35, some b0⟩ [.bx 4 0]), (1, .box ⟨.raw (.loop (recOf (bodyOf Tryz.f14) [0, 1, 0, 1, 1, 1] fn tm D)), some l⟩ []), (2, .box ⟨.c 89, some b3⟩ [.d (.v (.pointer none)), .ar 3 0]), (3, .arr 0 5 1 (([] : List (List V.D)))), (4, .box 73 [.d (.i a), .d (.i n), .mp 5]), (5, .box ⟨.mpb (es), none⟩ [])] := by
 refine spec_look (encIt0_ b0 b4 b5 b3 D l fn tm h3 hn a n es hes hz) ?_
 first | rfl | (funext i; simp only [lookO_cons, upd]; ((repeat' split) <;> first | rfl | (exfalso; omega)))
theorem builderString0_ (es : List (List V.D)) (r : ByteArray) (h : es = bytesD r.data.toList) :
  SpG g 36 [.c (.bx 0 0)] [(0, .box 89 [.d (.v (.pointer none)), .ar 1 0]), (1, .arr 0 5 1 (es))] (.c (.d (.s r))) [(1, .arr 0 5 1 []), (0, .box 89 [.d (.v (.pointer none)), .any])] := by
 refine enterB 14 Tryz.func36 (by kernel_rfl) fun fr hG => ?_
 exact zr hG [(1, 10, .call (.c (.d (.s (r)))) [] [])] [] (by kernel_rfl) (conjC (show es = bytesD (r).data.toList from h) (conj1 (show (((es).length : Int) : Int) = ((r).size : Int) from (by intros; first | assumption | (rw [h, bytesD_len]; rfl)))))
theorem builderString0 (es : List (List V.D)) (r : ByteArray) (h : es = bytesD r.data.toList) :
  SpG g 36 [.c (.bx 0 0)] [(0, .box 89 [.d (.v (.pointer none)), .ar 1 0]), (1, .arr 0 5 1 es)] (.c (.d (.s r))) [(0, .box 89 [.d (.v (.pointer none)), .any]), (1, .arr 0 5 1 [])] :=
 spec_look (builderString0_ es r h) (by funext i; match i with | 0 => rfl | 1 => rfl | i + 2 => rfl)
theorem encode_ok_ (a n : Int) (es : RS) (hes : RsOk n es) :
  SpG g 14 [.c (.bx 0 0)] [(0, .box 73 [.d (.i a), .d (.i n), .mp 1]), (1, .box ⟨.mpb (es), none⟩ [])] (.c (.d (.s (S (encT es))))) [(0, .box 73 [.d (.i a), .d (.i n), .mp 1]), (1, .box ⟨.mpb (es), none⟩ [])] := by
 refine enterM 17 Tryz.func14 (by kernel_rfl) fun fr hG => ?_
 refine zC hG [(1, 1, .callG (.c (.d (.b false))) [0, 1] [(0, .box 73 [.d (.i a), .d (.i n), .mp 1]), (1, .box ⟨.mpb (es), none⟩ [])])] [1, 0, 1] (false) (⟨[(0, [], .c (.bx 0 0)), (2, [], .c (.d (.s (S []))))], [(0, .box 73 [.d (.i a), .d (.i n), .mp 1]), (1, .box ⟨.mpb (es), none⟩ [])]⟩) (by kernel_rfl) (conj1 ((zero_made a n es : SpG g _ _ _ _ _))) (fun hc1 => absurd hc1 (by decide)) (fun _ => ?_)
 refine stepL hG hmix [(4, 1, .callG (.c (.fn 58 [] [(100, 0)])) [0, 1] [(0, .box 73 [.d (.i a), .d (.i n), .mp 1]), (1, .box ⟨.mpb (es), none⟩ []), (100, .box 35 [.bx 0 0])])] [0, 1, 0, 1, 1, 1] (⟨[(2, [], .c (.d (.s (S [])))), (3, [], .c (.bx 400 0)), (9, [], .c (.fn 58 [] [(501, 0)]))], [(0, .box 73 [.d (.i a), .d (.i n), .mp 1]), (1, .box ⟨.mpb (es), none⟩ []), (400, .box 89 [.d (.v (.pointer none)), .d (.nil)]), (501, .box 35 [.bx 0 0])]⟩) _ (by kernel_rfl) (conj1 ((ordered_ok a n es : SpG g _ _ _ _ _))) ?_
 refine stepA hG [] [(400, 1, 9003, 5, 1)] (⟨[(2, [], .c (.d (.s (S [])))), (3, [], .c (.bx 400 0)), (9, [], .c (.fn 58 [] [(501, 0)]))], [(0, .box 73 [.d (.i a), .d (.i n), .mp 1]), (1, .box ⟨.mpb (es), none⟩ []), (400, .box 89 [.d (.v (.pointer none)), .ar 9003 0]), (501, .box 35 [.bx 0 0]), (9003, .arr 0 5 1 (([] : List (List V.D))))]⟩) (by kernel_rfl) ?_
 refine rangeR (g := 9) (ps := rgP (bodyOf Tryz.f14) [0, 1, 0, 1, 1, 1]) (assign := rgA (bodyOf Tryz.f14) [0, 1, 0, 1, 1, 1]) (body := rgB (bodyOf Tryz.f14) [0, 1, 0, 1, 1, 1]) hG (by kernel_rfl) 9900 9901 9910 (by kernel_rfl) rfl (by kernel_rfl) fun b D l fn tm hT hn => ?_
 rcases Classical.em (es = []) with hz | hz
 ·skip
  refine ⟨.tup [], [501, 9901, 400, 9003, 0, 1], [(0, .box ⟨.c 35, some (b 501)⟩ [.bx 4 0]), (1, .box ⟨.raw (.loop (recOf (bodyOf Tryz.f14) [0, 1, 0, 1, 1, 1] fn tm D)), some l⟩ []), (2, .box ⟨.c 89, some (b 400)⟩ [.d (.v (.pointer none)), .ar 3 0]), (3, .arr 0 5 1 (([] : List (List V.D)))), (4, .box 73 [.d (.i a), .d (.i n), .mp 5]), (5, .box ⟨.mpb (es), none⟩ [])], none, ⟨[(2, [], .c (.d (.s (S [])))), (3, [], .c (.bx 400 0))], [(0, .box 73 [.d (.i a), .d (.i n), .mp 1]), (1, .box ⟨.mpb (es), none⟩ []), (400, .box ⟨.c 89, some (b 400)⟩ [.d (.v (.pointer none)), .ar 9003 0]), (9003, .arr 0 5 1 (([] : List (List V.D)))), (9900, .box ⟨.raw (.deferred (some [])), some D⟩ [])]⟩, _, .normal, by kernel_rfl, conj1 (encIt0 (b 501) (b 0) (b 1) (b 400) D l fn tm (hT.bx 3 400 0 rfl) hn a n es hes hz : SpG g _ _ _ _ _), rfl, ?_⟩
  have hG0 := hG
  replace hG := marked_is (D := D) hG
  refine stepU [0, 1, 400] (⟨[(2, [], .c (.d (.s (S [])))), (3, [], .c (.bx 400 0))], [(0, .box 73 [.d (.i a), .d (.i n), .mp 1]), (1, .box ⟨.mpb (es), none⟩ []), (400, .box 89 [.d (.v (.pointer none)), .ar 9003 0]), (9003, .arr 0 5 1 (([] : List (List V.D)))), (9900, .box ⟨.raw (.deferred (some [])), some D⟩ [])]⟩) (by kernel_rfl) ?_
  refine stepRM hG0 hmix [(8, 0, .callG (.c (.d (.s (S (encT es))))) [400, 9003] [(0, .box 89 [.d (.v (.pointer none)), .any]), (1, .arr 0 5 1 (([] : List (List V.D))))])] [] 9900 (.c (.d (.s (S (encT es))))) [(0, .box 73 [.d (.i a), .d (.i n), .mp 1]), (1, .box ⟨.mpb (es), none⟩ [])] (by kernel_rfl) (conj1 ((builderString0 (([] : List (List V.D))) (S (encT es)) (by first | (rw [S_data]; done) | (rw [hz]; rfl)) : SpG g _ _ _ _ _))) ?_ ?_
  ·rfl
  ·rfl
 ·skip
  refine ⟨.tup [], [501, 9901, 400, 9003, 0, 1], [(0, .box ⟨.c 35, some (b 501)⟩ [.bx 4 0]), (1, .box ⟨.raw (.loop (recOf (bodyOf Tryz.f14) [0, 1, 0, 1, 1, 1] fn tm D)), some l⟩ []), (2, .box ⟨.c 89, some (b 400)⟩ [.bx 2 0, .ar 3 0]), (3, .arr 0 5 1 (bytesD (encT es))), (4, .box 73 [.d (.i a), .d (.i n), .mp 5]), (5, .box ⟨.mpb (es), none⟩ [])], none, ⟨[(2, [], .c (.d (.s (S [])))), (3, [], .c (.bx 400 0))], [(0, .box 73 [.d (.i a), .d (.i n), .mp 1]), (1, .box ⟨.mpb (es), none⟩ []), (400, .box ⟨.c 89, some (b 400)⟩ [.bx 400 0, .ar 9003 0]), (9003, .arr 0 5 1 (bytesD (encT es))), (9900, .box ⟨.raw (.deferred (some [])), some D⟩ [])]⟩, _, .normal, by kernel_rfl, conj1 (encIt (b 501) (b 0) (b 1) (b 400) D l fn tm (hT.bx 3 400 0 rfl) hn a n es hes hz : SpG g _ _ _ _ _), rfl, ?_⟩
  have hG0 := hG
  replace hG := marked_is (D := D) hG
  refine stepU [0, 1, 400] (⟨[(2, [], .c (.d (.s (S [])))), (3, [], .c (.bx 400 0))], [(0, .box 73 [.d (.i a), .d (.i n), .mp 1]), (1, .box ⟨.mpb (es), none⟩ []), (400, .box 89 [.bx 400 0, .ar 9003 0]), (9003, .arr 0 5 1 (bytesD (encT es))), (9900, .box ⟨.raw (.deferred (some [])), some D⟩ [])]⟩) (by kernel_rfl) ?_
  refine stepRM hG0 hmix [(8, 0, .callG (.c (.d (.s (S (encT es))))) [400, 9003] [(0, .box 89 [.bx 0 0, .any]), (1, .arr 0 5 1 (([] : List (List V.D))))])] [] 9900 (.c (.d (.s (S (encT es))))) [(0, .box 73 [.d (.i a), .d (.i n), .mp 1]), (1, .box ⟨.mpb (es), none⟩ [])] (by kernel_rfl) (conj1 ((builderString (bytesD (encT es)) (S (encT es)) (by first | (rw [S_data]; done) | (rw [hz]; rfl)) : SpG g _ _ _ _ _))) ?_ ?_
  ·rfl
  ·rfl
theorem encode_ok (a n : Int) (es : RS) (hes : RsOk n es) :
  SpG g 14 [.c (.bx 0 0)] [(0, .box 73 [.d (.i a), .d (.i n), .mp 1]), (1, .box ⟨.mpb (es), none⟩ [])] (.c (.d (.s (S (encT es))))) [(0, .box 73 [.d (.i a), .d (.i n), .mp 1]), (1, .box ⟨.mpb (es), none⟩ [])] := by
 refine spec_look (encode_ok_ a n es hes) ?_
 first | rfl | (funext i; simp only [lookO_cons, upd]; ((repeat' split) <;> first | rfl | (exfalso; omega)))
end Go.Proofs.YtclaplngjmgnoaaGreatDoor
namespace Go.Proofs.YtclaplngjmgnoaaGreatDoor
open Go.RowKit Go.V
open Go.Eng (inR byteAt u8 bytesV)
variable {g : Gv}
theorem kSort.nodup {es : RS} (h : kSort es) : (es.map (·.1)).Nodup := by
 have h2 : (es.map (·.1)).Pairwise (· < ·) := h
 exact h2.imp fun {a b} h e => by rw [e] at h; exact List.lt_irrefl _ h
theorem ins_keys {k : List UInt8} {v : Bool} : ∀ {es : RS}, kSort es → lkM k es = none → kSort (insK ltS k v es) ∧ (∀ x, x ∈ (insK ltS k v es).map (·.1) ↔ x = k ∨ x ∈ es.map (·.1)) ∧ (insK ltS k v es).length = es.length + 1
 | [], _, _ => ⟨List.pairwise_singleton _ _, fun x => by simp [insK], rfl⟩
 | y :: r, h, hn => by
  have h' : ((y :: r).map (·.1)).Pairwise (· < ·) := h
  rw [List.map_cons, List.pairwise_cons] at h'
  simp only [lkM] at hn
  split at hn
  ·cases hn
  ·rename_i hy
   obtain ⟨h1, h2, h3⟩ := ins_keys (k := k) (v := v) (es := r) h'.2 hn
   simp only [insK]
   by_cases hlt : ltS k y.1 = true
   ·rw [if_pos hlt]
    have hlt2 : k < y.1 := by simpa [ltS] using hlt
    refine ⟨?_, fun x => by simp, by simp⟩
    show (((k, v) :: y :: r).map (·.1)).Pairwise (· < ·)
    rw [List.map_cons, List.pairwise_cons]
    refine ⟨fun z hz => ?_, by rw [List.map_cons, List.pairwise_cons]; exact h'⟩
    rw [List.map_cons] at hz
    rcases List.mem_cons.1 hz with rfl | hz
    ·exact hlt2
    ·exact List.lt_trans hlt2 (h'.1 z hz)
   ·rw [if_neg hlt]
    have hle : y.1 < k := by
     have h5 : ¬ k < y.1 := by simpa [ltS] using hlt
     rcases List.le_iff_lt_or_eq.1 (show y.1 ≤ k from h5) with h6 | h6
     ·exact h6
     ·exact absurd h6 hy
    refine ⟨?_, fun x => ?_, by simp only [List.length_cons, h3]⟩
    ·show ((y :: insK ltS k v r).map (·.1)).Pairwise (· < ·)
     rw [List.map_cons, List.pairwise_cons]
     refine ⟨fun z hz => ?_, h1⟩
     rcases (h2 z).1 hz with rfl | hz
     ·exact hle
     ·exact h'.1 z hz
    ·simp only [List.map_cons, List.mem_cons, h2 x]
     constructor
     ·rintro (h | h | h)
      ·exact .inr (.inl h)
      ·exact .inl h
      ·exact .inr (.inr h)
     ·rintro (h | h | h)
      ·exact .inr (.inl h)
      ·exact .inl h
      ·exact .inr (.inr h)
theorem lk_some_mem {k : List UInt8} {es : RS} : (lkM k es).isSome = true ↔ k ∈ es.map (·.1) := by
 induction es with
 | nil => simp [lkM]
 | cons y r ih =>
  simp only [lkM, List.map_cons, List.mem_cons]
  by_cases h : y.1 = k
  ·simp [h]
  ·have h2 : ¬ k = y.1 := fun e => h e.symm
   simp only [if_neg h, ih, h2, false_or]
theorem upd_keys {k : List UInt8} {v : Bool} {es : RS} (h : kSort es) : kSort (updM ltS k v es) ∧ (∀ x, x ∈ (updM ltS k v es).map (·.1) ↔ x = k ∨ x ∈ es.map (·.1)) ∧ (updM ltS k v es).length ≤ es.length + 1 ∧ es.length ≤ (updM ltS k v es).length := by
 unfold updM
 split
 ·rename_i hs
  have e : (es.map fun x => if x.1 = k then (k, v) else x).map (·.1) = es.map (·.1) := by
   rw [List.map_map]
   refine List.map_congr_left fun x _ => ?_
   simp only [Function.comp]
   split
   ·rename_i hx; exact hx.symm
   ·rfl
  refine ⟨by unfold kSort; rw [e]; exact h, fun x => ?_, by simp, by simp⟩
  rw [e]
  have := lk_some_mem.1 hs
  constructor
  ·exact .inr
  ·rintro (rfl | h)
   ·exact this
   ·exact h
 ·rename_i hs
  have hn : lkM k es = none := by
   cases hh : lkM k es with
   | none => rfl
   | some y => rw [hh] at hs; exact absurd rfl hs
  obtain ⟨h1, h2, h3⟩ := ins_keys (v := v) h hn
  exact ⟨h1, h2, by omega, by omega⟩
theorem k_ext {a b : RS} (ha : kSort a) (hb : kSort b) (h : ∀ n, lkM n a = lkM n b) : a = b := by
 have hk : a.map (·.1) = b.map (·.1) := by
  have hp : (a.map (·.1)).Perm (b.map (·.1)) := nodup_perm ha.nodup hb.nodup fun x => by rw [← lk_some_mem, ← lk_some_mem, h x]
  have h1 : (a.map (·.1)).Pairwise (· < ·) := ha
  have h2 : (b.map (·.1)).Pairwise (· < ·) := hb
  exact List.Perm.eq_of_pairwise (fun x y _ _ h3 h4 => absurd (List.lt_trans h3 h4) (List.lt_irrefl _)) h1 h2 hp
 have hl : a.length = b.length := by have := congrArg List.length hk; simpa using this
 refine List.ext_getElem hl fun i h1 h2 => ?_
 have e1 : a[i].1 = b[i].1 := by
  have := congrArg (fun l => l[i]?) hk
  simpa [h1, h2] using this
 have e2 : lkM (a[i]).1 a = some (a[i]).2 := lkM_of_mem ha.nodup (List.getElem_mem h1)
 have e3 : lkM (b[i]).1 b = some (b[i]).2 := lkM_of_mem hb.nodup (List.getElem_mem h2)
 rw [h, e1, e3] at e2
 simp only [Option.some.injEq] at e2
 exact Prod.ext e1 e2.symm
noncomputable def liveL (es : RS) : List It := (es.filter fun x => !x.2).map fun x => itOf x.1
theorem live_snoc {es : RS} {k : Nat} (h : k < es.length) : liveL (es.take (k + 1)) = liveL (es.take k) ++ (bif (es.getD k ([], false)).2 then [] else [itOf (es.getD k ([], false)).1]) := by
 rw [take_snoc ([], false) h]
 simp only [liveL, List.filter_append, List.map_append]
 cases hw : (es.getD k ([], false)).2 <;> simp [List.filter, hw, -List.getD_eq_getElem?_getD]
theorem live_len (es : RS) : (liveL es).length ≤ es.length := by
 rw [liveL, List.length_map]; exact List.length_filter_le _ _
theorem live_ok {n : Int} {es : RS} (h : RsOk n es) : ∀ i, i ∈ liveL es → ItOk i := by
 intro i hi
 obtain ⟨x, hx, rfl⟩ := List.mem_map.1 hi
 exact (itOf_ok (h.it x (List.mem_filter.1 hx).1)).1
theorem live_step {n : Int} {es : RS} (hes : RsOk n es) {k : Nat} (h : k < es.length) : (bif (lkM ((es.map (·.1)).getD k []) es).getD false then itsD (liveL (es.take k)) else itsD (liveL (es.take k)) ++ [ItD (itOf ((es.map (·.1)).getD k []))]) = itsD (liveL (es.take (k + 1))) := by
 rw [key_at h, lk_at hes.sort h, live_snoc h]
 cases hw : (es.getD k ([], false)).2 <;> simp [itsD, hw, -List.getD_eq_getElem?_getD]
theorem inForce_es {l : List It} (hl : l.length ≤ 100000) (hI : ∀ i, i ∈ l → ItOk i) {es : List (List V.D)} (h : es = itsD l) : SpG g 24 [.c (.d (.sl 16 es))] [] (.c (.d (.sl 16 (itsD (inF l))))) [] := by subst h; exact inForce_ok l hl hI
noncomputable def wdS (id : Int) (es : RS) : Nat → RS × Bool
 | 0 => (es, false)
 | k + 1 =>
  let r := wdS id es k
  let t := (es.map (·.1)).getD k []
  bif decide ((itOf t).id = id) && !((lkM t r.1).getD false) then (updM ltS t true r.1, true) else r
noncomputable def wdR (id : Int) (es : RS) : RS := (wdS id es es.length).1
noncomputable def wdE (id : Int) (es : RS) : Int := bif (wdS id es es.length).2 then 0 else 34
noncomputable def ownC (a : Int) (es : RS) : Nat := (es.filter fun x => decide ((itOf x.1).author = a)).length
noncomputable def giveE (a : Int) (es : RS) (i : It) : Int := if i.author = a then (if (lkM (itT i) es).isSome = true then 33 else if ownC a es ≥ 30 then 2 else 0) else 35
noncomputable def giveS (a : Int) (es : RS) (i : It) : RS := if giveE a es i = 0 then updM ltS (itT i) false es else es
theorem own_perm {a : Int} {es fs : RS} (h : es.Perm fs) : ownC a es = ownC a fs := (h.filter _).length_eq
theorem own_snoc {a : Int} {es : RS} {x : List UInt8 × Bool} : (ownC a (es ++ [x]) : Int) = if (itOf x.1).author = a then (ownC a es : Int) + 1 else (ownC a es : Int) := by
 unfold ownC
 rw [List.filter_append, List.length_append]
 by_cases h : (itOf x.1).author = a <;> simp [List.filter, h]
theorem own_le (a : Int) (es : RS) : ownC a es ≤ es.length := List.length_filter_le _ _
theorem infYf (b3 D l : Nat) (fn : FuncId) (tm : Array Value) (h3 : tm.getD 3 undef = .pointer (some ⟨b3, 0, none⟩)) (hn : tm.size = 30) (es : List (List V.D)) (t : List UInt8) (ht : IsIt t) (he : es.length ≤ 1000000) :
  YSpec Tryz.prog (Gl g) l [.c (.d (.s (S t))), .c (.d (.b false))] [(0, .box ⟨.raw (.loop (recOf (bodyOf Tryz.f16) [0, 1, 0, 1, 1, 1] fn tm D)), some l⟩ []), (1, .box ⟨.c 38, some b3⟩ [.ar 2 0]), (2, .arr 0 63 16 (es))] (.c (.d (.b true))) [(0, .box ⟨.raw (.loop (recOf (bodyOf Tryz.f16) [0, 1, 0, 1, 1, 1] fn tm D)), some l⟩ []), (1, .box ⟨.c 38, some b3⟩ [.ar 2 0]), (2, .arr 0 63 16 (es ++ [[.i ((itOf t).id), .i ((itOf t).author), .i ((itOf t).rank), .i ((itOf t).time), .i ((itOf t).kind), .sl 7 (tvsD ((itOf t).input)), .i (tvK ((itOf t).output)), .s (S (tvS ((itOf t).output))), .i 0, .i 0, .i 0, .sl 1 (([] : List (List V.D))), .sl 1 (([] : List (List V.D))), .s (S (itOf t).prop), .s (S (itOf t).param), .sl 1 (intsD ((itOf t).program))]]))] := by
 refine enterY2 (iL := 0) (p := 12) (p2 := 13) (env0 := [(3, [], .c (.bx 1 0))]) (n := 30) (r := (recOf (bodyOf Tryz.f16) [0, 1, 0, 1, 1, 1] fn tm D)) rfl (by kernel_rfl) hn (by decide) (by decide) (by decide) ⟨rfl, ⟨_, _, _, rfl, rfl, h3⟩, trivial⟩ fun fr hG => ?_
 refine stepB hG hmix [] (⟨[(3, [], .c (.bx 1 0)), (4, [], .c (.d (.s (S t)))), (5, [], .c (.d (.b false)))], [(0, .box ⟨.raw (.loop (recOf (bodyOf Tryz.f16) [0, 1, 0, 1, 1, 1] fn tm D)), some l⟩ []), (1, .box ⟨.c 38, some b3⟩ [.ar 2 0]), (2, .arr 0 63 16 (es))]⟩) 0 (r := (recOf (bodyOf Tryz.f16) [0, 1, 0, 1, 1, 1] fn tm D)) (by kernel_rfl) conj0 rfl rfl ?_
 refine stepK hG (⟨[(3, [], .c (.bx 1 0)), (4, [], .c (.d (.s (S t)))), (5, [], .c (.d (.b false)))], [(0, .box ⟨.raw (.loop { (recOf (bodyOf Tryz.f16) [0, 1, 0, 1, 1, 1] fn tm D) with state := .busy }), some l⟩ []), (1, .box ⟨.c 38, some b3⟩ [.ar 2 0]), (2, .arr 0 63 16 (es))]⟩) (by kernel_rfl) ?_
 refine zC hG [(7, 1, .call (.tup [(true, [.d (.i ((itOf (t)).id)), .d (.i ((itOf (t)).author)), .d (.i ((itOf (t)).rank)), .d (.i ((itOf (t)).time)), .d (.i ((itOf (t)).kind)), .d (.sl 7 (tvsD ((itOf (t)).input))), .d (.i (tvK ((itOf (t)).output))), .d (.s (S (tvS ((itOf (t)).output)))), .d (.i 0), .d (.i 0), .d (.i 0), .d (.sl 1 (([] : List (List V.D)))), .d (.sl 1 (([] : List (List V.D)))), .d (.s (S (itOf (t)).prop)), .d (.s (S (itOf (t)).param)), .d (.sl 1 (intsD ((itOf (t)).program)))]), (false, [.d (.b true)])]) [] [])] [1, 1, 0] (true) (⟨[(3, [], .c (.bx 1 0)), (6, [], .c (.bx 805 0))], [(0, .box ⟨.raw (.loop { (recOf (bodyOf Tryz.f16) [0, 1, 0, 1, 1, 1] fn tm D) with state := .busy }), some l⟩ []), (1, .box ⟨.c 38, some b3⟩ [.ar 2 0]), (2, .arr 0 63 16 (es)), (805, .box 63 [.d (.i ((itOf (t)).id)), .d (.i ((itOf (t)).author)), .d (.i ((itOf (t)).rank)), .d (.i ((itOf (t)).time)), .d (.i ((itOf (t)).kind)), .d (.sl 7 (tvsD ((itOf (t)).input))), .d (.i (tvK ((itOf (t)).output))), .d (.s (S (tvS ((itOf (t)).output)))), .d (.i 0), .d (.i 0), .d (.i 0), .d (.sl 1 (([] : List (List V.D)))), .d (.sl 1 (([] : List (List V.D)))), .d (.s (S (itOf (t)).prop)), .d (.s (S (itOf (t)).param)), .d (.sl 1 (intsD ((itOf (t)).program)))])]⟩) (by kernel_rfl) (conj1 ((readIt (t := t) (by exact ht) : SpG g _ _ _ _ _))) (fun _ => ?_) (fun hc1 => absurd hc1 (by decide))
 refine stepY hG hmix [] [] 0 .normal [(0, .box ⟨.raw (endL { (recOf (bodyOf Tryz.f16) [0, 1, 0, 1, 1, 1] fn tm D) with state := .busy } .normal), some l⟩ []), (1, .box ⟨.c 38, some b3⟩ [.ar 2 0]), (2, .arr 0 63 16 (es ++ ([[.i ((itOf (t)).id), .i ((itOf (t)).author), .i ((itOf (t)).rank), .i ((itOf (t)).time), .i ((itOf (t)).kind), .sl 7 (tvsD ((itOf (t)).input)), .i (tvK ((itOf (t)).output)), .s (S (tvS ((itOf (t)).output))), .i 0, .i 0, .i 0, .sl 1 (([] : List (List V.D))), .sl 1 (([] : List (List V.D))), .s (S (itOf (t)).prop), .s (S (itOf (t)).param), .sl 1 (intsD ((itOf (t)).program))]] : List (List V.D))))] (by kernel_rfl) (conj1 (show ((es).length + (([[.i ((itOf (t)).id), .i ((itOf (t)).author), .i ((itOf (t)).rank), .i ((itOf (t)).time), .i ((itOf (t)).kind), .sl 7 (tvsD ((itOf (t)).input)), .i (tvK ((itOf (t)).output)), .s (S (tvS ((itOf (t)).output))), .i 0, .i 0, .i 0, .sl 1 (([] : List (List V.D))), .sl 1 (([] : List (List V.D))), .s (S (itOf (t)).prop), .s (S (itOf (t)).param), .sl 1 (intsD ((itOf (t)).program))]] : List (List V.D))).length) * (216 + 1) ≤ 140737488355328 from (by intros; (try simp only [zq5]); omega))) ?_ ?_
 ·rfl
 ·rfl
theorem infYt (b3 D l : Nat) (fn : FuncId) (tm : Array Value) (h3 : tm.getD 3 undef = .pointer (some ⟨b3, 0, none⟩)) (hn : tm.size = 30) (es : List (List V.D)) (t : List UInt8) (ht : IsIt t) (he : es.length ≤ 1000000) :
  YSpec Tryz.prog (Gl g) l [.c (.d (.s (S t))), .c (.d (.b true))] [(0, .box ⟨.raw (.loop (recOf (bodyOf Tryz.f16) [0, 1, 0, 1, 1, 1] fn tm D)), some l⟩ []), (1, .box ⟨.c 38, some b3⟩ [.ar 2 0]), (2, .arr 0 63 16 (es))] (.c (.d (.b true))) [(0, .box ⟨.raw (.loop (recOf (bodyOf Tryz.f16) [0, 1, 0, 1, 1, 1] fn tm D)), some l⟩ []), (1, .box ⟨.c 38, some b3⟩ [.ar 2 0]), (2, .arr 0 63 16 (es))] := by
 refine enterY2 (iL := 0) (p := 12) (p2 := 13) (env0 := [(3, [], .c (.bx 1 0))]) (n := 30) (r := (recOf (bodyOf Tryz.f16) [0, 1, 0, 1, 1, 1] fn tm D)) rfl (by kernel_rfl) hn (by decide) (by decide) (by decide) ⟨rfl, ⟨_, _, _, rfl, rfl, h3⟩, trivial⟩ fun fr hG => ?_
 refine stepB hG hmix [] (⟨[(3, [], .c (.bx 1 0)), (4, [], .c (.d (.s (S t)))), (5, [], .c (.d (.b true)))], [(0, .box ⟨.raw (.loop (recOf (bodyOf Tryz.f16) [0, 1, 0, 1, 1, 1] fn tm D)), some l⟩ []), (1, .box ⟨.c 38, some b3⟩ [.ar 2 0]), (2, .arr 0 63 16 (es))]⟩) 0 (r := (recOf (bodyOf Tryz.f16) [0, 1, 0, 1, 1, 1] fn tm D)) (by kernel_rfl) conj0 rfl rfl ?_
 refine stepK hG (⟨[(3, [], .c (.bx 1 0)), (4, [], .c (.d (.s (S t)))), (5, [], .c (.d (.b true)))], [(0, .box ⟨.raw (.loop { (recOf (bodyOf Tryz.f16) [0, 1, 0, 1, 1, 1] fn tm D) with state := .busy }), some l⟩ []), (1, .box ⟨.c 38, some b3⟩ [.ar 2 0]), (2, .arr 0 63 16 (es))]⟩) (by kernel_rfl) ?_
 refine zC hG [(7, 1, .call (.tup [(true, [.d (.i ((itOf (t)).id)), .d (.i ((itOf (t)).author)), .d (.i ((itOf (t)).rank)), .d (.i ((itOf (t)).time)), .d (.i ((itOf (t)).kind)), .d (.sl 7 (tvsD ((itOf (t)).input))), .d (.i (tvK ((itOf (t)).output))), .d (.s (S (tvS ((itOf (t)).output)))), .d (.i 0), .d (.i 0), .d (.i 0), .d (.sl 1 (([] : List (List V.D)))), .d (.sl 1 (([] : List (List V.D)))), .d (.s (S (itOf (t)).prop)), .d (.s (S (itOf (t)).param)), .d (.sl 1 (intsD ((itOf (t)).program)))]), (false, [.d (.b true)])]) [] [])] [1, 1, 0] (false) (⟨[(3, [], .c (.bx 1 0)), (6, [], .c (.bx 805 0))], [(0, .box ⟨.raw (.loop { (recOf (bodyOf Tryz.f16) [0, 1, 0, 1, 1, 1] fn tm D) with state := .busy }), some l⟩ []), (1, .box ⟨.c 38, some b3⟩ [.ar 2 0]), (2, .arr 0 63 16 (es)), (805, .box 63 [.d (.i ((itOf (t)).id)), .d (.i ((itOf (t)).author)), .d (.i ((itOf (t)).rank)), .d (.i ((itOf (t)).time)), .d (.i ((itOf (t)).kind)), .d (.sl 7 (tvsD ((itOf (t)).input))), .d (.i (tvK ((itOf (t)).output))), .d (.s (S (tvS ((itOf (t)).output)))), .d (.i 0), .d (.i 0), .d (.i 0), .d (.sl 1 (([] : List (List V.D)))), .d (.sl 1 (([] : List (List V.D)))), .d (.s (S (itOf (t)).prop)), .d (.s (S (itOf (t)).param)), .d (.sl 1 (intsD ((itOf (t)).program)))])]⟩) (by kernel_rfl) (conj1 ((readIt (t := t) (by exact ht) : SpG g _ _ _ _ _))) (fun hc1 => absurd hc1 (by decide)) (fun _ => ?_)
 refine stepY hG hmix [] [] 0 .normal [(0, .box ⟨.raw (endL { (recOf (bodyOf Tryz.f16) [0, 1, 0, 1, 1, 1] fn tm D) with state := .busy } .normal), some l⟩ []), (1, .box ⟨.c 38, some b3⟩ [.ar 2 0]), (2, .arr 0 63 16 (es))] (by kernel_rfl) conj0 ?_ ?_
 ·rfl
 ·rfl
theorem infY (b3 D l : Nat) (fn : FuncId) (tm : Array Value) (h3 : tm.getD 3 undef = .pointer (some ⟨b3, 0, none⟩)) (hn : tm.size = 30) (es : List (List V.D)) (t : List UInt8) (ht : IsIt t) (he : es.length ≤ 1000000) (w : Bool) :
  YSpec Tryz.prog (Gl g) l [.c (.d (.s (S t))), .c (.d (.b w))] [(0, .box ⟨.raw (.loop (recOf (bodyOf Tryz.f16) [0, 1, 0, 1, 1, 1] fn tm D)), some l⟩ []), (1, .box ⟨.c 38, some b3⟩ [.ar 2 0]), (2, .arr 0 63 16 (es))] (.c (.d (.b true))) [(0, .box ⟨.raw (.loop (recOf (bodyOf Tryz.f16) [0, 1, 0, 1, 1, 1] fn tm D)), some l⟩ []), (1, .box ⟨.c 38, some b3⟩ [.ar 2 0]), (2, .arr 0 63 16 (bif w then es else es ++ [ItD (itOf t)]))] := by
 cases w with
 | false => exact infYf b3 D l fn tm h3 hn es t ht he
 | true => exact infYt b3 D l fn tm h3 hn es t ht he
theorem infIt_ (b0 b4 b5 : Nat) (b3 D l : Nat) (fn : FuncId) (tm : Array Value) (h3 : tm.getD 3 undef = .pointer (some ⟨b3, 0, none⟩)) (hn : tm.size = 30) (a n : Int) (es : RS) (hes : RsOk n es) :
  SpG g 58 [.c (.d (.v (.func (.yield l) #[] #[]))), .c (.bx 0 0)] [(0, .box ⟨.c 35, some b0⟩ [.bx 4 0]), (1, .box ⟨.raw (.loop (recOf (bodyOf Tryz.f16) [0, 1, 0, 1, 1, 1] fn tm D)), some l⟩ []), (2, .box ⟨.c 38, some b3⟩ [.ar 3 0]), (3, .arr 0 63 16 (([] : List (List V.D)))), (4, .box ⟨.c 73, some b4⟩ [.d (.i a), .d (.i n), .mp 5]), (5, .box ⟨.mpb (es), some b5⟩ [])] (.tup []) [(0, .box ⟨.c 35, some b0⟩ [.bx 4 0]), (1, .box ⟨.raw (.loop (recOf (bodyOf Tryz.f16) [0, 1, 0, 1, 1, 1] fn tm D)), some l⟩ []), (2, .box ⟨.c 38, some b3⟩ [.ar 3 0]), (3, .arr 0 63 16 (itsD (liveL es))), (4, .box 73 [.d (.i a), .d (.i n), .mp 5]), (5, .box ⟨.mpb (es), none⟩ [])] := by
 have hle := hes.len
 have hsl : (strs (es.map (·.1))).length = es.length := by rw [strs, List.length_map, List.length_map]
 refine enterB 27 Tryz.func58 (by kernel_rfl) fun fr hG => ?_
 refine stepU [4, 5] (⟨[(0, [], .c (.d (.v (.func (.yield l) #[] #[])))), (1, [], .c (.bx 0 0))], [(0, .box ⟨.c 35, some b0⟩ [.bx 4 0]), (1, .box ⟨.raw (.loop (recOf (bodyOf Tryz.f16) [0, 1, 0, 1, 1, 1] fn tm D)), some l⟩ []), (2, .box ⟨.c 38, some b3⟩ [.ar 3 0]), (3, .arr 0 63 16 (([] : List (List V.D)))), (4, .box 73 [.d (.i a), .d (.i n), .mp 5]), (5, .box ⟨.mpb (es), none⟩ [])]⟩) (by kernel_rfl) ?_
 refine zL hG [(0, 4, .callG (.c (.fn 113 [] [(100, 0)])) [5] [(0, .box ⟨.mpb (es), none⟩ []), (100, .box 47 [.mp 0])]), (0, 5, .callG (.c (.d (.sl 1 (strs (es.map (·.1)))))) [104, 5] [(0, .box 47 [.mp 1]), (1, .box ⟨.mpb (es), none⟩ [])])] [0, 1] (fun (zz : Nat × List (List V.D)) => match zz with | (k, eb) => (es.length - k, ⟨[(0, [], .c (.d (.v (.func (.yield l) #[] #[])))), (1, [], .c (.bx 0 0)), (10, [], .c (.d (.sl 1 (strs (es.map (·.1)))))), (11, [], .c (.d (.i ((strs (es.map (·.1))).length : Int)))), (12, [], .c (.d (.i (k : Int))))], [(0, .box ⟨.c 35, some b0⟩ [.bx 4 0]), (1, .box ⟨.raw (.loop (recOf (bodyOf Tryz.f16) [0, 1, 0, 1, 1, 1] fn tm D)), some l⟩ []), (2, .box ⟨.c 38, some b3⟩ [.ar 3 0]), (3, .arr 0 63 16 (eb)), (4, .box 73 [.d (.i a), .d (.i n), .mp 5]), (5, .box ⟨.mpb (es), none⟩ [])]⟩, k ≤ es.length ∧ eb = itsD (liveL (es.take k)))) (0, []) (by kernel_rfl) (conjC ((keys_ok es : SpG g _ _ _ _ _)) (conj1 ((sortedKeys_ok es (by exact hes.sort) (by have := hes.len; omega) (by intro x hx; have := hes.tlen hx; omega) : SpG g _ _ _ _ _)))) (by kernel_rfl) ?_ ?_
 ·exact ⟨Nat.zero_le _, rfl⟩
 rintro ⟨k, eb⟩ ⟨hk, heb⟩
 have hel : eb.length ≤ es.length := by rw [heb, itsD, List.length_map]; have := live_len (es.take k); rw [List.length_take] at this; omega
 refine zc hG [] [0, 1] (decide (((k : Int) : Int) < ((strs (es.map (·.1))).length : Int))) (by kernel_rfl) conj0 (fun hc2 => ?_) (fun hc2 => ?_)
 ·(try simp only [zq16] at hc2)
  refine zC hG [(2, 0, .elem (strD (((es.map (·.1))).getD k []))), (3, 8, .callG (.c (.d (.b true))) [1, 2, 3] [(0, .box ⟨.raw (.loop (recOf (bodyOf Tryz.f16) [0, 1, 0, 1, 1, 1] fn tm D)), some l⟩ []), (1, .box ⟨.c 38, some b3⟩ [.ar 2 0]), (2, .arr 0 63 16 (bif (lkM (((es.map (·.1))).getD k []) es).getD false then eb else eb ++ [ItD (itOf (((es.map (·.1))).getD k []))]))])] [1, 1, 0, 0, 1, 1] (false) (⟨[(0, [], .c (.d (.v (.func (.yield l) #[] #[])))), (1, [], .c (.bx 0 0)), (10, [], .c (.d (.sl 1 (strs (es.map (·.1)))))), (11, [], .c (.d (.i ((strs (es.map (·.1))).length : Int)))), (12, [], .c (.d (.i (k : Int))))], [(0, .box ⟨.c 35, some b0⟩ [.bx 4 0]), (1, .box ⟨.raw (.loop (recOf (bodyOf Tryz.f16) [0, 1, 0, 1, 1, 1] fn tm D)), some l⟩ []), (2, .box ⟨.c 38, some b3⟩ [.ar 3 0]), (3, .arr 0 63 16 (bif (lkM (((es.map (·.1))).getD k []) es).getD false then eb else eb ++ [ItD (itOf (((es.map (·.1))).getD k []))])), (4, .box 73 [.d (.i a), .d (.i n), .mp 5]), (5, .box ⟨.mpb (es), none⟩ [])]⟩) (by kernel_rfl) (conjC (show (0 : Int) ≤ (k : Int) ∧ (strs (es.map (·.1)))[k]? = some (strD (((es.map (·.1))).getD k [])) from (by intros; exact map_at (f := strD) [] (by omega) (by (try simp only [zq4] at *); omega))) (conj1 ((infY b3 D l fn tm h3 hn (eb) (((es.map (·.1))).getD k []) (by exact key_it hes (by omega)) (by omega) ((lkM (((es.map (·.1))).getD k []) es).getD false) : YSpec Tryz.prog (Gl g) _ _ _ _ _)))) (fun hc3 => absurd hc3 (by decide)) (fun _ => ?_)
  refine zD hG [] (k + 1, bif (lkM (((es.map (·.1))).getD k []) es).getD false then eb else eb ++ [ItD (itOf (((es.map (·.1))).getD k []))]) (by kernel_rfl) (conj1 (show inR ((k : Int) + 1) from (by intros; (try simp only [zq17] at *); omega))) ?_ ?_
  ·(try dsimp only); omega
  ·exact ⟨by omega, by rw [heb]; exact live_step hes (by omega)⟩
 ·(try simp only [zq16] at hc2)
  refine zE hG [] (.exit 0) (⟨[], [(0, .box ⟨.c 35, some b0⟩ [.bx 4 0]), (1, .box ⟨.raw (.loop (recOf (bodyOf Tryz.f16) [0, 1, 0, 1, 1, 1] fn tm D)), some l⟩ []), (2, .box ⟨.c 38, some b3⟩ [.ar 3 0]), (3, .arr 0 63 16 (eb)), (4, .box 73 [.d (.i a), .d (.i n), .mp 5]), (5, .box ⟨.mpb (es), none⟩ [])]⟩) (by kernel_rfl) conj0 rfl ?_
  refine zR hG [] [] (.tup []) [(0, .box ⟨.c 35, some b0⟩ [.bx 4 0]), (1, .box ⟨.raw (.loop (recOf (bodyOf Tryz.f16) [0, 1, 0, 1, 1, 1] fn tm D)), some l⟩ []), (2, .box ⟨.c 38, some b3⟩ [.ar 3 0]), (3, .arr 0 63 16 (eb)), (4, .box 73 [.d (.i a), .d (.i n), .mp 5]), (5, .box ⟨.mpb (es), none⟩ [])] (by kernel_rfl) conj0 ?_ ?_
  ·rfl
  ·have hk2 : k = es.length := by omega
   rw [hk2, List.take_length] at heb
   rw [heb]
theorem infIt (b0 b4 b5 : Nat) (b3 D l : Nat) (fn : FuncId) (tm : Array Value) (h3 : tm.getD 3 undef = .pointer (some ⟨b3, 0, none⟩)) (hn : tm.size = 30) (a n : Int) (es : RS) (hes : RsOk n es) :
  SpG g 58 [.c (.d (.v (.func (.yield l) #[] #[]))), .c (.bx 0 0)] [(0, .box ⟨.c 35, some b0⟩ [.bx 4 0]), (1, .box ⟨.raw (.loop (recOf (bodyOf Tryz.f16) [0, 1, 0, 1, 1, 1] fn tm D)), some l⟩ []), (2, .box ⟨.c 38, some b3⟩ [.ar 3 0]), (3, .arr 0 63 16 (([] : List (List V.D)))), (4, .box ⟨.c 73, some b4⟩ [.d (.i a), .d (.i n), .mp 5]), (5, .box ⟨.mpb (es), some b5⟩ [])] (.tup []) [(0, .box ⟨.c 35, some b0⟩ [.bx 4 0]), (1, .box ⟨.raw (.loop (recOf (bodyOf Tryz.f16) [0, 1, 0, 1, 1, 1] fn tm D)), some l⟩ []), (2, .box ⟨.c 38, some b3⟩ [.ar 3 0]), (3, .arr 0 63 16 (itsD (liveL es))), (4, .box 73 [.d (.i a), .d (.i n), .mp 5]), (5, .box ⟨.mpb (es), none⟩ [])] := by
 refine spec_look (infIt_ b0 b4 b5 b3 D l fn tm h3 hn a n es hes) ?_
 first | rfl | (funext i; simp only [lookO_cons, upd]; ((repeat' split) <;> first | rfl | (exfalso; omega)))
theorem inforce_ok_ (a n : Int) (es : RS) (hes : RsOk n es) :
  SpG g 16 [.c (.bx 0 0)] [(0, .box 73 [.d (.i a), .d (.i n), .mp 1]), (1, .box ⟨.mpb (es), none⟩ [])] (.c (.d (.sl 16 (itsD (inF (liveL es)))))) [(0, .box 73 [.d (.i a), .d (.i n), .mp 1]), (1, .box ⟨.mpb (es), none⟩ [])] := by
 refine enterM 30 Tryz.func16 (by kernel_rfl) fun fr hG => ?_
 refine zC hG [(1, 1, .callG (.c (.d (.b false))) [0, 1] [(0, .box 73 [.d (.i a), .d (.i n), .mp 1]), (1, .box ⟨.mpb (es), none⟩ [])])] [1, 0, 1] (false) (⟨[(0, [], .c (.bx 0 0)), (2, [], .c (.d (.nil)))], [(0, .box 73 [.d (.i a), .d (.i n), .mp 1]), (1, .box ⟨.mpb (es), none⟩ [])]⟩) (by kernel_rfl) (conj1 ((zero_made a n es : SpG g _ _ _ _ _))) (fun hc1 => absurd hc1 (by decide)) (fun _ => ?_)
 refine stepL hG hmix [(4, 1, .callG (.c (.fn 58 [] [(100, 0)])) [0, 1] [(0, .box 73 [.d (.i a), .d (.i n), .mp 1]), (1, .box ⟨.mpb (es), none⟩ []), (100, .box 35 [.bx 0 0])])] [0, 1, 0, 1, 1, 1] (⟨[(2, [], .c (.d (.nil))), (3, [], .c (.bx 400 0)), (11, [], .c (.fn 58 [] [(501, 0)]))], [(0, .box 73 [.d (.i a), .d (.i n), .mp 1]), (1, .box ⟨.mpb (es), none⟩ []), (400, .box 38 [.d (.nil)]), (501, .box 35 [.bx 0 0])]⟩) _ (by kernel_rfl) (conj1 ((ordered_ok a n es : SpG g _ _ _ _ _))) ?_
 refine stepA hG [] [(400, 0, 9003, 63, 16)] (⟨[(2, [], .c (.d (.nil))), (3, [], .c (.bx 400 0)), (11, [], .c (.fn 58 [] [(501, 0)]))], [(0, .box 73 [.d (.i a), .d (.i n), .mp 1]), (1, .box ⟨.mpb (es), none⟩ []), (400, .box 38 [.ar 9003 0]), (501, .box 35 [.bx 0 0]), (9003, .arr 0 63 16 (([] : List (List V.D))))]⟩) (by kernel_rfl) ?_
 refine rangeR (g := 11) (ps := rgP (bodyOf Tryz.f16) [0, 1, 0, 1, 1, 1]) (assign := rgA (bodyOf Tryz.f16) [0, 1, 0, 1, 1, 1]) (body := rgB (bodyOf Tryz.f16) [0, 1, 0, 1, 1, 1]) hG (by kernel_rfl) 9900 9901 9910 (by kernel_rfl) rfl (by kernel_rfl) fun b D l fn tm hT hn => ?_
 refine ⟨.tup [], [501, 9901, 400, 9003, 0, 1], [(0, .box ⟨.c 35, some (b 501)⟩ [.bx 4 0]), (1, .box ⟨.raw (.loop (recOf (bodyOf Tryz.f16) [0, 1, 0, 1, 1, 1] fn tm D)), some l⟩ []), (2, .box ⟨.c 38, some (b 400)⟩ [.ar 3 0]), (3, .arr 0 63 16 (itsD (liveL es))), (4, .box 73 [.d (.i a), .d (.i n), .mp 5]), (5, .box ⟨.mpb (es), none⟩ [])], none, ⟨[(2, [], .c (.d (.nil))), (3, [], .c (.bx 400 0))], [(0, .box 73 [.d (.i a), .d (.i n), .mp 1]), (1, .box ⟨.mpb (es), none⟩ []), (400, .box ⟨.c 38, some (b 400)⟩ [.ar 9003 0]), (9003, .arr 0 63 16 (itsD (liveL es))), (9900, .box ⟨.raw (.deferred (some [])), some D⟩ [])]⟩, _, .normal, by kernel_rfl, conj1 (infIt (b 501) (b 0) (b 1) (b 400) D l fn tm (hT.bx 3 400 0 rfl) hn a n es hes : SpG g _ _ _ _ _), rfl, ?_⟩
 have hG0 := hG
 replace hG := marked_is (D := D) hG
 refine stepU [0, 1, 400] (⟨[(2, [], .c (.d (.nil))), (3, [], .c (.bx 400 0))], [(0, .box 73 [.d (.i a), .d (.i n), .mp 1]), (1, .box ⟨.mpb (es), none⟩ []), (400, .box 38 [.ar 9003 0]), (9003, .arr 0 63 16 (itsD (liveL es))), (9900, .box ⟨.raw (.deferred (some [])), some D⟩ [])]⟩) (by kernel_rfl) ?_
 refine stepK hG (⟨[(2, [], .c (.d (.nil))), (3, [], .c (.bx 400 0))], [(0, .box 73 [.d (.i a), .d (.i n), .mp 1]), (1, .box ⟨.mpb (es), none⟩ []), (400, .box 38 [.d (.sl 16 (itsD (liveL es)))]), (9900, .box ⟨.raw (.deferred (some [])), some D⟩ [])]⟩) (by kernel_rfl) ?_
 refine stepRM hG0 hmix [(10, 1, .call (.c (.d (.sl 16 (itsD (inF (liveL es)))))) [] [])] [] 9900 (.c (.d (.sl 16 (itsD (inF (liveL es)))))) [(0, .box 73 [.d (.i a), .d (.i n), .mp 1]), (1, .box ⟨.mpb (es), none⟩ [])] (by kernel_rfl) (conj1 ((inForce_es (l := liveL es) (by have := live_len es; have := hes.len; omega) (live_ok hes) (es := itsD (liveL es)) rfl : SpG g _ _ _ _ _))) ?_ ?_
 ·rfl
 ·rfl
theorem inforce_ok (a n : Int) (es : RS) (hes : RsOk n es) :
  SpG g 16 [.c (.bx 0 0)] [(0, .box 73 [.d (.i a), .d (.i n), .mp 1]), (1, .box ⟨.mpb (es), none⟩ [])] (.c (.d (.sl 16 (itsD (inF (liveL es)))))) [(0, .box 73 [.d (.i a), .d (.i n), .mp 1]), (1, .box ⟨.mpb (es), none⟩ [])] := by
 refine spec_look (inforce_ok_ a n es hes) ?_
 first | rfl | (funext i; simp only [lookO_cons, upd]; ((repeat' split) <;> first | rfl | (exfalso; omega)))
end Go.Proofs.YtclaplngjmgnoaaGreatDoor
namespace Go.Proofs.YtclaplngjmgnoaaGreatDoor
open Go.RowKit Go.V
open Go.Eng (inR byteAt u8 bytesV)
variable {g : Gv}
def tkL (a : Int) (k : Nat) : List Int := (((List.range k).map fun j : Nat => (j : Int) + 1)).filter fun x => !decide (x = a)
def msD (a : Int) (t : List UInt8) (x : Int) : List D := [.i a, .i x, .s (S t)]
def mssD (a : Int) (t : List UInt8) (l : List Int) : List (List D) := l.map (msD a t)
theorem tk_step (a : Int) (k : Nat) : tkL a (k + 1) = if ((k : Int) + 1) = a then tkL a k else tkL a k ++ [(k : Int) + 1] := by
 unfold tkL
 rw [List.range_succ, List.map_append, List.filter_append]
 by_cases h : ((k : Int) + 1) = a <;> simp [List.filter, h]
theorem tk_len (a : Int) (k : Nat) : (tkL a k).length ≤ k := by
 unfold tkL
 have := List.length_filter_le (fun x : Int => !decide (x = a)) ((List.range k).map fun j : Nat => (j : Int) + 1)
 rw [List.length_map, List.length_range] at this
 exact this
theorem wd_step {id : Int} {es em : RS} {e : Int} {k : Nat} (hk : k < es.length) (h1 : em = (wdS id es k).1) (h2 : e = (bif (wdS id es k).2 then 0 else 34)) :
  k + 1 ≤ es.length ∧ (bif (decide ((itOf ((es.map (·.1)).getD k [])).id = id) && !((lkM ((es.map (·.1)).getD k []) em).getD false)) then updM ltS ((es.map (·.1)).getD k []) true em else em) = (wdS id es (k + 1)).1 ∧
   (bif (decide ((itOf ((es.map (·.1)).getD k [])).id = id) && !((lkM ((es.map (·.1)).getD k []) em).getD false)) then 0 else e) = (bif (wdS id es (k + 1)).2 then 0 else 34) := by
 subst h1
 refine ⟨by omega, ?_, ?_⟩
 ·simp only [wdS]
  cases (decide ((itOf ((es.map (·.1)).getD k [])).id = id) && !((lkM ((es.map (·.1)).getD k []) (wdS id es k).1).getD false)) <;> rfl
 ·simp only [wdS]
  cases (decide ((itOf ((es.map (·.1)).getD k [])).id = id) && !((lkM ((es.map (·.1)).getD k []) (wdS id es k).1).getD false))
  ·exact h2
  ·rfl
theorem give_who {a : Int} {es : RS} {i : It} (h : ¬ i.author = a) : giveE a es i = 35 ∧ giveS a es i = es := by
 have e : giveE a es i = 35 := by rw [giveE, if_neg h]
 exact ⟨e, by rw [giveS, e, if_neg (by decide)]⟩
theorem give_twice {a : Int} {es : RS} {i : It} (h : i.author = a) (h2 : (lkM (itT i) es).isSome = true) : giveE a es i = 33 ∧ giveS a es i = es := by
 have e : giveE a es i = 33 := by rw [giveE, if_pos h, if_pos h2]
 exact ⟨e, by rw [giveS, e, if_neg (by decide)]⟩
theorem give_many {a : Int} {es : RS} {i : It} (h : i.author = a) (h2 : (lkM (itT i) es).isSome = false) (h3 : (ownC a es : Int) ≥ 30) : giveE a es i = 2 ∧ giveS a es i = es := by
 have e : giveE a es i = 2 := by rw [giveE, if_pos h, if_neg (by rw [h2]; decide), if_pos (by omega)]
 exact ⟨e, by rw [giveS, e, if_neg (by decide)]⟩
theorem give_yes {a : Int} {es : RS} {i : It} (h : i.author = a) (h2 : (lkM (itT i) es).isSome = false) (h3 : ¬ (ownC a es : Int) ≥ 30) : giveE a es i = 0 ∧ giveS a es i = updM ltS (itT i) false es := by
 have e : giveE a es i = 0 := by rw [giveE, if_pos h, if_neg (by rw [h2]; decide), if_neg (by omega)]
 exact ⟨e, by rw [giveS, e, if_pos rfl]⟩
theorem wdYt (b2 b3 b5 D l : Nat) (fn : FuncId) (tm : Array Value) (h2 : tm.getD 2 undef = .pointer (some ⟨b2, 0, none⟩)) (h3 : tm.getD 3 undef = .pointer (some ⟨b3, 0, none⟩)) (h5 : tm.getD 5 undef = .pointer (some ⟨b5, 0, none⟩)) (hn : tm.size = 38) (a n id e : Int) (em : RS) (t : List UInt8) (w : Bool) (ht : IsIt t) (hc : (decide ((itOf t).id = id) && !w) = true) :
  YSpec Tryz.prog (Gl g) l [.c (.d (.s (S t))), .c (.d (.b w))] [(0, .box ⟨.raw (.loop (recOf (bodyOf Tryz.f23) [0, 1, 0, 1, 1, 1] fn tm D)), some l⟩ []), (1, .box ⟨.c 35, some b2⟩ [.bx 4 0]), (2, .box ⟨.c 3, some b3⟩ [.d (.i id)]), (3, .box ⟨.c 65, some b5⟩ [.d (.i e)]), (4, .box 73 [.d (.i a), .d (.i n), .mp 5]), (5, .box ⟨.mpb (em), none⟩ [])] (.c (.d (.b true))) [(0, .box ⟨.raw (.loop (recOf (bodyOf Tryz.f23) [0, 1, 0, 1, 1, 1] fn tm D)), some l⟩ []), (1, .box ⟨.c 35, some b2⟩ [.bx 4 0]), (2, .box ⟨.c 3, some b3⟩ [.d (.i id)]), (3, .box ⟨.c 65, some b5⟩ [.d (.i 0)]), (4, .box 73 [.d (.i a), .d (.i n), .mp 5]), (5, .box ⟨.mpb (updM ltS t true em), none⟩ [])] := by
 refine enterY2 (iL := 0) (p := 14) (p2 := 15) (env0 := [(2, [], .c (.bx 1 0)), (3, [], .c (.bx 2 0)), (5, [], .c (.bx 3 0))]) (n := 38) (r := (recOf (bodyOf Tryz.f23) [0, 1, 0, 1, 1, 1] fn tm D)) rfl (by kernel_rfl) hn (by decide) (by decide) (by decide) ⟨rfl, ⟨_, _, _, rfl, rfl, h2⟩, ⟨rfl, ⟨_, _, _, rfl, rfl, h3⟩, ⟨rfl, ⟨_, _, _, rfl, rfl, h5⟩, trivial⟩⟩⟩ fun fr hG => ?_
 refine stepB hG hmix [] (⟨[(2, [], .c (.bx 1 0)), (3, [], .c (.bx 2 0)), (5, [], .c (.bx 3 0)), (6, [], .c (.d (.s (S t)))), (7, [], .c (.d (.b w)))], [(0, .box ⟨.raw (.loop (recOf (bodyOf Tryz.f23) [0, 1, 0, 1, 1, 1] fn tm D)), some l⟩ []), (1, .box ⟨.c 35, some b2⟩ [.bx 4 0]), (2, .box ⟨.c 3, some b3⟩ [.d (.i id)]), (3, .box ⟨.c 65, some b5⟩ [.d (.i e)]), (4, .box 73 [.d (.i a), .d (.i n), .mp 5]), (5, .box ⟨.mpb (em), none⟩ [])]⟩) 0 (r := (recOf (bodyOf Tryz.f23) [0, 1, 0, 1, 1, 1] fn tm D)) (by kernel_rfl) conj0 rfl rfl ?_
 refine stepK hG (⟨[(2, [], .c (.bx 1 0)), (3, [], .c (.bx 2 0)), (5, [], .c (.bx 3 0)), (6, [], .c (.d (.s (S t)))), (7, [], .c (.d (.b w)))], [(0, .box ⟨.raw (.loop { (recOf (bodyOf Tryz.f23) [0, 1, 0, 1, 1, 1] fn tm D) with state := .busy }), some l⟩ []), (1, .box ⟨.c 35, some b2⟩ [.bx 4 0]), (2, .box ⟨.c 3, some b3⟩ [.d (.i id)]), (3, .box ⟨.c 65, some b5⟩ [.d (.i e)]), (4, .box 73 [.d (.i a), .d (.i n), .mp 5]), (5, .box ⟨.mpb (em), none⟩ [])]⟩) (by kernel_rfl) ?_
 refine zC hG [(7, 1, .call (.tup [(true, [.d (.i ((itOf (t)).id)), .d (.i ((itOf (t)).author)), .d (.i ((itOf (t)).rank)), .d (.i ((itOf (t)).time)), .d (.i ((itOf (t)).kind)), .d (.sl 7 (tvsD ((itOf (t)).input))), .d (.i (tvK ((itOf (t)).output))), .d (.s (S (tvS ((itOf (t)).output)))), .d (.i 0), .d (.i 0), .d (.i 0), .d (.sl 1 (([] : List (List V.D)))), .d (.sl 1 (([] : List (List V.D)))), .d (.s (S (itOf (t)).prop)), .d (.s (S (itOf (t)).param)), .d (.sl 1 (intsD ((itOf (t)).program)))]), (false, [.d (.b true)])]) [] [])] [1, 1, 0] ((decide (((itOf (t)).id : Int) = id)) && !w) (⟨[(2, [], .c (.bx 1 0)), (5, [], .c (.bx 3 0)), (6, [], .c (.d (.s (S t))))], [(0, .box ⟨.raw (.loop { (recOf (bodyOf Tryz.f23) [0, 1, 0, 1, 1, 1] fn tm D) with state := .busy }), some l⟩ []), (1, .box ⟨.c 35, some b2⟩ [.bx 4 0]), (2, .box ⟨.c 3, some b3⟩ [.d (.i id)]), (3, .box ⟨.c 65, some b5⟩ [.d (.i e)]), (4, .box 73 [.d (.i a), .d (.i n), .mp 5]), (5, .box ⟨.mpb (em), none⟩ [])]⟩) (by kernel_rfl) (conj1 ((readIt (t := t) (by exact ht) : SpG g _ _ _ _ _))) (fun hc1 => ?_) (fun hc1 => ?_)
 ·(try simp only [blS] at hc1)
  refine stepY hG hmix [] [] 0 .normal [(0, .box ⟨.raw (endL { (recOf (bodyOf Tryz.f23) [0, 1, 0, 1, 1, 1] fn tm D) with state := .busy } .normal), some l⟩ []), (3, .box ⟨.c 65, some b5⟩ [.d (.i 0)]), (5, .box ⟨.mpb (updM ltS t true em), none⟩ []), (1, .box ⟨.c 35, some b2⟩ [.bx 4 0]), (2, .box ⟨.c 3, some b3⟩ [.d (.i id)]), (4, .box 73 [.d (.i a), .d (.i n), .mp 5])] (by kernel_rfl) conj0 ?_ ?_
  ·rfl
  ·funext i; simp only [lookO_cons, upd]; (repeat' split) <;> first | rfl | (exfalso; omega)
 ·(try simp only [blS] at hc1)
  simp_all
theorem wdYf (b2 b3 b5 D l : Nat) (fn : FuncId) (tm : Array Value) (h2 : tm.getD 2 undef = .pointer (some ⟨b2, 0, none⟩)) (h3 : tm.getD 3 undef = .pointer (some ⟨b3, 0, none⟩)) (h5 : tm.getD 5 undef = .pointer (some ⟨b5, 0, none⟩)) (hn : tm.size = 38) (a n id e : Int) (em : RS) (t : List UInt8) (w : Bool) (ht : IsIt t) (hc : (decide ((itOf t).id = id) && !w) = false) :
  YSpec Tryz.prog (Gl g) l [.c (.d (.s (S t))), .c (.d (.b w))] [(0, .box ⟨.raw (.loop (recOf (bodyOf Tryz.f23) [0, 1, 0, 1, 1, 1] fn tm D)), some l⟩ []), (1, .box ⟨.c 35, some b2⟩ [.bx 4 0]), (2, .box ⟨.c 3, some b3⟩ [.d (.i id)]), (3, .box ⟨.c 65, some b5⟩ [.d (.i e)]), (4, .box 73 [.d (.i a), .d (.i n), .mp 5]), (5, .box ⟨.mpb (em), none⟩ [])] (.c (.d (.b true))) [(0, .box ⟨.raw (.loop (recOf (bodyOf Tryz.f23) [0, 1, 0, 1, 1, 1] fn tm D)), some l⟩ []), (1, .box ⟨.c 35, some b2⟩ [.bx 4 0]), (2, .box ⟨.c 3, some b3⟩ [.d (.i id)]), (3, .box ⟨.c 65, some b5⟩ [.d (.i e)]), (4, .box 73 [.d (.i a), .d (.i n), .mp 5]), (5, .box ⟨.mpb (em), none⟩ [])] := by
 refine enterY2 (iL := 0) (p := 14) (p2 := 15) (env0 := [(2, [], .c (.bx 1 0)), (3, [], .c (.bx 2 0)), (5, [], .c (.bx 3 0))]) (n := 38) (r := (recOf (bodyOf Tryz.f23) [0, 1, 0, 1, 1, 1] fn tm D)) rfl (by kernel_rfl) hn (by decide) (by decide) (by decide) ⟨rfl, ⟨_, _, _, rfl, rfl, h2⟩, ⟨rfl, ⟨_, _, _, rfl, rfl, h3⟩, ⟨rfl, ⟨_, _, _, rfl, rfl, h5⟩, trivial⟩⟩⟩ fun fr hG => ?_
 refine stepB hG hmix [] (⟨[(2, [], .c (.bx 1 0)), (3, [], .c (.bx 2 0)), (5, [], .c (.bx 3 0)), (6, [], .c (.d (.s (S t)))), (7, [], .c (.d (.b w)))], [(0, .box ⟨.raw (.loop (recOf (bodyOf Tryz.f23) [0, 1, 0, 1, 1, 1] fn tm D)), some l⟩ []), (1, .box ⟨.c 35, some b2⟩ [.bx 4 0]), (2, .box ⟨.c 3, some b3⟩ [.d (.i id)]), (3, .box ⟨.c 65, some b5⟩ [.d (.i e)]), (4, .box 73 [.d (.i a), .d (.i n), .mp 5]), (5, .box ⟨.mpb (em), none⟩ [])]⟩) 0 (r := (recOf (bodyOf Tryz.f23) [0, 1, 0, 1, 1, 1] fn tm D)) (by kernel_rfl) conj0 rfl rfl ?_
 refine stepK hG (⟨[(2, [], .c (.bx 1 0)), (3, [], .c (.bx 2 0)), (5, [], .c (.bx 3 0)), (6, [], .c (.d (.s (S t)))), (7, [], .c (.d (.b w)))], [(0, .box ⟨.raw (.loop { (recOf (bodyOf Tryz.f23) [0, 1, 0, 1, 1, 1] fn tm D) with state := .busy }), some l⟩ []), (1, .box ⟨.c 35, some b2⟩ [.bx 4 0]), (2, .box ⟨.c 3, some b3⟩ [.d (.i id)]), (3, .box ⟨.c 65, some b5⟩ [.d (.i e)]), (4, .box 73 [.d (.i a), .d (.i n), .mp 5]), (5, .box ⟨.mpb (em), none⟩ [])]⟩) (by kernel_rfl) ?_
 refine zC hG [(7, 1, .call (.tup [(true, [.d (.i ((itOf (t)).id)), .d (.i ((itOf (t)).author)), .d (.i ((itOf (t)).rank)), .d (.i ((itOf (t)).time)), .d (.i ((itOf (t)).kind)), .d (.sl 7 (tvsD ((itOf (t)).input))), .d (.i (tvK ((itOf (t)).output))), .d (.s (S (tvS ((itOf (t)).output)))), .d (.i 0), .d (.i 0), .d (.i 0), .d (.sl 1 (([] : List (List V.D)))), .d (.sl 1 (([] : List (List V.D)))), .d (.s (S (itOf (t)).prop)), .d (.s (S (itOf (t)).param)), .d (.sl 1 (intsD ((itOf (t)).program)))]), (false, [.d (.b true)])]) [] [])] [1, 1, 0] ((decide (((itOf (t)).id : Int) = id)) && !w) (⟨[(2, [], .c (.bx 1 0)), (5, [], .c (.bx 3 0)), (6, [], .c (.d (.s (S t))))], [(0, .box ⟨.raw (.loop { (recOf (bodyOf Tryz.f23) [0, 1, 0, 1, 1, 1] fn tm D) with state := .busy }), some l⟩ []), (1, .box ⟨.c 35, some b2⟩ [.bx 4 0]), (2, .box ⟨.c 3, some b3⟩ [.d (.i id)]), (3, .box ⟨.c 65, some b5⟩ [.d (.i e)]), (4, .box 73 [.d (.i a), .d (.i n), .mp 5]), (5, .box ⟨.mpb (em), none⟩ [])]⟩) (by kernel_rfl) (conj1 ((readIt (t := t) (by exact ht) : SpG g _ _ _ _ _))) (fun hc1 => ?_) (fun hc1 => ?_)
 ·(try simp only [blS] at hc1)
  simp_all
 ·(try simp only [blS] at hc1)
  refine stepY hG hmix [] [] 0 .normal [(0, .box ⟨.raw (endL { (recOf (bodyOf Tryz.f23) [0, 1, 0, 1, 1, 1] fn tm D) with state := .busy } .normal), some l⟩ []), (1, .box ⟨.c 35, some b2⟩ [.bx 4 0]), (2, .box ⟨.c 3, some b3⟩ [.d (.i id)]), (3, .box ⟨.c 65, some b5⟩ [.d (.i e)]), (4, .box 73 [.d (.i a), .d (.i n), .mp 5]), (5, .box ⟨.mpb (em), none⟩ [])] (by kernel_rfl) conj0 ?_ ?_
  ·rfl
  ·rfl
theorem wdY (b2 b3 b5 D l : Nat) (fn : FuncId) (tm : Array Value) (h2 : tm.getD 2 undef = .pointer (some ⟨b2, 0, none⟩)) (h3 : tm.getD 3 undef = .pointer (some ⟨b3, 0, none⟩)) (h5 : tm.getD 5 undef = .pointer (some ⟨b5, 0, none⟩)) (hn : tm.size = 38) (a n id e : Int) (em : RS) (t : List UInt8) (w : Bool) (ht : IsIt t) :
  YSpec Tryz.prog (Gl g) l [.c (.d (.s (S t))), .c (.d (.b w))] [(0, .box ⟨.raw (.loop (recOf (bodyOf Tryz.f23) [0, 1, 0, 1, 1, 1] fn tm D)), some l⟩ []), (1, .box ⟨.c 35, some b2⟩ [.bx 4 0]), (2, .box ⟨.c 3, some b3⟩ [.d (.i id)]), (3, .box ⟨.c 65, some b5⟩ [.d (.i e)]), (4, .box 73 [.d (.i a), .d (.i n), .mp 5]), (5, .box ⟨.mpb (em), none⟩ [])] (.c (.d (.b true))) [(0, .box ⟨.raw (.loop (recOf (bodyOf Tryz.f23) [0, 1, 0, 1, 1, 1] fn tm D)), some l⟩ []), (1, .box ⟨.c 35, some b2⟩ [.bx 4 0]), (2, .box ⟨.c 3, some b3⟩ [.d (.i id)]), (3, .box ⟨.c 65, some b5⟩ [.d (.i (bif (decide ((itOf t).id = id) && !w) then 0 else e))]), (4, .box 73 [.d (.i a), .d (.i n), .mp 5]), (5, .box ⟨.mpb (bif (decide ((itOf t).id = id) && !w) then updM ltS t true em else em), none⟩ [])] := by
 cases hc : (decide ((itOf t).id = id) && !w) with
 | true => exact wdYt b2 b3 b5 D l fn tm h2 h3 h5 hn a n id e em t w ht hc
 | false => exact wdYf b2 b3 b5 D l fn tm h2 h3 h5 hn a n id e em t w ht hc
theorem wdIt_ (b0 b6 b7 : Nat) (b2 b3 b5 D l : Nat) (fn : FuncId) (tm : Array Value) (h2 : tm.getD 2 undef = .pointer (some ⟨b2, 0, none⟩)) (h3 : tm.getD 3 undef = .pointer (some ⟨b3, 0, none⟩)) (h5 : tm.getD 5 undef = .pointer (some ⟨b5, 0, none⟩)) (hn : tm.size = 38) (a n id : Int) (es : RS) (hes : RsOk n es) :
  SpG g 58 [.c (.d (.v (.func (.yield l) #[] #[]))), .c (.bx 0 0)] [(0, .box ⟨.c 35, some b0⟩ [.bx 5 0]), (1, .box ⟨.raw (.loop (recOf (bodyOf Tryz.f23) [0, 1, 0, 1, 1, 1] fn tm D)), some l⟩ []), (2, .box ⟨.c 35, some b2⟩ [.bx 5 0]), (3, .box ⟨.c 3, some b3⟩ [.d (.i id)]), (4, .box ⟨.c 65, some b5⟩ [.d (.i 34)]), (5, .box ⟨.c 73, some b6⟩ [.d (.i a), .d (.i n), .mp 6]), (6, .box ⟨.mpb (es), some b7⟩ [])] (.tup []) [(0, .box ⟨.c 35, some b0⟩ [.bx 5 0]), (1, .box ⟨.raw (.loop (recOf (bodyOf Tryz.f23) [0, 1, 0, 1, 1, 1] fn tm D)), some l⟩ []), (2, .box ⟨.c 35, some b2⟩ [.bx 5 0]), (3, .box ⟨.c 3, some b3⟩ [.d (.i id)]), (4, .box ⟨.c 65, some b5⟩ [.d (.i (wdE id es))]), (5, .box 73 [.d (.i a), .d (.i n), .mp 6]), (6, .box ⟨.mpb (wdR id es), none⟩ [])] := by
 have hle := hes.len
 have hsl : (strs (es.map (·.1))).length = es.length := by rw [strs, List.length_map, List.length_map]
 refine enterB 27 Tryz.func58 (by kernel_rfl) fun fr hG => ?_
 refine stepU [5, 6] (⟨[(0, [], .c (.d (.v (.func (.yield l) #[] #[])))), (1, [], .c (.bx 0 0))], [(0, .box ⟨.c 35, some b0⟩ [.bx 5 0]), (1, .box ⟨.raw (.loop (recOf (bodyOf Tryz.f23) [0, 1, 0, 1, 1, 1] fn tm D)), some l⟩ []), (2, .box ⟨.c 35, some b2⟩ [.bx 5 0]), (3, .box ⟨.c 3, some b3⟩ [.d (.i id)]), (4, .box ⟨.c 65, some b5⟩ [.d (.i 34)]), (5, .box 73 [.d (.i a), .d (.i n), .mp 6]), (6, .box ⟨.mpb (es), none⟩ [])]⟩) (by kernel_rfl) ?_
 refine zL hG [(0, 4, .callG (.c (.fn 113 [] [(100, 0)])) [6] [(0, .box ⟨.mpb (es), none⟩ []), (100, .box 47 [.mp 0])]), (0, 5, .callG (.c (.d (.sl 1 (strs (es.map (·.1)))))) [104, 6] [(0, .box 47 [.mp 1]), (1, .box ⟨.mpb (es), none⟩ [])])] [0, 1] (fun (zz : Nat × RS × Int) => match zz with | (k, em, e) => (es.length - k, ⟨[(0, [], .c (.d (.v (.func (.yield l) #[] #[])))), (1, [], .c (.bx 0 0)), (10, [], .c (.d (.sl 1 (strs (es.map (·.1)))))), (11, [], .c (.d (.i ((strs (es.map (·.1))).length : Int)))), (12, [], .c (.d (.i (k : Int))))], [(0, .box ⟨.c 35, some b0⟩ [.bx 5 0]), (1, .box ⟨.raw (.loop (recOf (bodyOf Tryz.f23) [0, 1, 0, 1, 1, 1] fn tm D)), some l⟩ []), (2, .box ⟨.c 35, some b2⟩ [.bx 5 0]), (3, .box ⟨.c 3, some b3⟩ [.d (.i id)]), (4, .box ⟨.c 65, some b5⟩ [.d (.i e)]), (5, .box 73 [.d (.i a), .d (.i n), .mp 6]), (6, .box ⟨.mpb (em), none⟩ [])]⟩, k ≤ es.length ∧ em = (wdS id es k).1 ∧ e = (bif (wdS id es k).2 then 0 else 34))) (0, es, 34) (by kernel_rfl) (conjC ((keys_ok es : SpG g _ _ _ _ _)) (conj1 ((sortedKeys_ok es (by exact hes.sort) (by have := hes.len; omega) (by intro x hx; have := hes.tlen hx; omega) : SpG g _ _ _ _ _)))) (by kernel_rfl) ?_ ?_
 ·exact ⟨Nat.zero_le _, rfl, rfl⟩
 rintro ⟨k, em, e⟩ ⟨hk, hem, he⟩
 refine zc hG [] [0, 1] (decide (((k : Int) : Int) < ((strs (es.map (·.1))).length : Int))) (by kernel_rfl) conj0 (fun hc2 => ?_) (fun hc2 => ?_)
 ·(try simp only [zq16] at hc2)
  refine zC hG [(2, 0, .elem (strD (((es.map (·.1))).getD k []))), (3, 8, .callG (.c (.d (.b true))) [1, 2, 3, 4, 5, 6] [(0, .box ⟨.raw (.loop (recOf (bodyOf Tryz.f23) [0, 1, 0, 1, 1, 1] fn tm D)), some l⟩ []), (1, .box ⟨.c 35, some b2⟩ [.bx 4 0]), (2, .box ⟨.c 3, some b3⟩ [.d (.i id)]), (3, .box ⟨.c 65, some b5⟩ [.d (.i (bif (decide ((itOf (((es.map (·.1))).getD k [])).id = id) && !((lkM (((es.map (·.1))).getD k []) em).getD false)) then 0 else e))]), (4, .box 73 [.d (.i a), .d (.i n), .mp 5]), (5, .box ⟨.mpb (bif (decide ((itOf (((es.map (·.1))).getD k [])).id = id) && !((lkM (((es.map (·.1))).getD k []) em).getD false)) then updM ltS (((es.map (·.1))).getD k []) true (em) else em), none⟩ [])])] [1, 1, 0, 0, 1, 1] (false) (⟨[(0, [], .c (.d (.v (.func (.yield l) #[] #[])))), (1, [], .c (.bx 0 0)), (10, [], .c (.d (.sl 1 (strs (es.map (·.1)))))), (11, [], .c (.d (.i ((strs (es.map (·.1))).length : Int)))), (12, [], .c (.d (.i (k : Int))))], [(0, .box ⟨.c 35, some b0⟩ [.bx 5 0]), (1, .box ⟨.raw (.loop (recOf (bodyOf Tryz.f23) [0, 1, 0, 1, 1, 1] fn tm D)), some l⟩ []), (2, .box ⟨.c 35, some b2⟩ [.bx 5 0]), (3, .box ⟨.c 3, some b3⟩ [.d (.i id)]), (4, .box ⟨.c 65, some b5⟩ [.d (.i (bif (decide ((itOf (((es.map (·.1))).getD k [])).id = id) && !((lkM (((es.map (·.1))).getD k []) em).getD false)) then 0 else e))]), (5, .box 73 [.d (.i a), .d (.i n), .mp 6]), (6, .box ⟨.mpb (bif (decide ((itOf (((es.map (·.1))).getD k [])).id = id) && !((lkM (((es.map (·.1))).getD k []) em).getD false)) then updM ltS (((es.map (·.1))).getD k []) true (em) else em), none⟩ [])]⟩) (by kernel_rfl) (conjC (show (0 : Int) ≤ (k : Int) ∧ (strs (es.map (·.1)))[k]? = some (strD (((es.map (·.1))).getD k [])) from (by intros; exact map_at (f := strD) [] (by omega) (by (try simp only [zq4] at *); omega))) (conj1 ((wdY b2 b3 b5 D l fn tm h2 h3 h5 hn a n id (e) (em) (((es.map (·.1))).getD k []) ((lkM (((es.map (·.1))).getD k []) em).getD false) (by exact key_it hes (by omega)) : YSpec Tryz.prog (Gl g) _ _ _ _ _)))) (fun hc3 => absurd hc3 (by decide)) (fun _ => ?_)
  refine zD hG [] (k + 1, bif (decide ((itOf (((es.map (·.1))).getD k [])).id = id) && !((lkM (((es.map (·.1))).getD k []) em).getD false)) then updM ltS (((es.map (·.1))).getD k []) true (em) else em, bif (decide ((itOf (((es.map (·.1))).getD k [])).id = id) && !((lkM (((es.map (·.1))).getD k []) em).getD false)) then 0 else e) (by kernel_rfl) (conj1 (show inR ((k : Int) + 1) from (by intros; (try simp only [zq17] at *); omega))) ?_ ?_
  ·(try dsimp only); omega
  ·exact wd_step (by omega) hem he
 ·(try simp only [zq16] at hc2)
  refine zE hG [] (.exit 0) (⟨[], [(0, .box ⟨.c 35, some b0⟩ [.bx 5 0]), (1, .box ⟨.raw (.loop (recOf (bodyOf Tryz.f23) [0, 1, 0, 1, 1, 1] fn tm D)), some l⟩ []), (2, .box ⟨.c 35, some b2⟩ [.bx 5 0]), (3, .box ⟨.c 3, some b3⟩ [.d (.i id)]), (4, .box ⟨.c 65, some b5⟩ [.d (.i e)]), (5, .box 73 [.d (.i a), .d (.i n), .mp 6]), (6, .box ⟨.mpb (em), none⟩ [])]⟩) (by kernel_rfl) conj0 rfl ?_
  refine zR hG [] [] (.tup []) [(0, .box ⟨.c 35, some b0⟩ [.bx 5 0]), (1, .box ⟨.raw (.loop (recOf (bodyOf Tryz.f23) [0, 1, 0, 1, 1, 1] fn tm D)), some l⟩ []), (2, .box ⟨.c 35, some b2⟩ [.bx 5 0]), (3, .box ⟨.c 3, some b3⟩ [.d (.i id)]), (4, .box ⟨.c 65, some b5⟩ [.d (.i e)]), (5, .box 73 [.d (.i a), .d (.i n), .mp 6]), (6, .box ⟨.mpb (em), none⟩ [])] (by kernel_rfl) conj0 ?_ ?_
  ·rfl
  ·have hk2 : k = es.length := by omega
   subst hk2
   rw [hem, he]; rfl
theorem wdIt (b0 b6 b7 : Nat) (b2 b3 b5 D l : Nat) (fn : FuncId) (tm : Array Value) (h2 : tm.getD 2 undef = .pointer (some ⟨b2, 0, none⟩)) (h3 : tm.getD 3 undef = .pointer (some ⟨b3, 0, none⟩)) (h5 : tm.getD 5 undef = .pointer (some ⟨b5, 0, none⟩)) (hn : tm.size = 38) (a n id : Int) (es : RS) (hes : RsOk n es) :
  SpG g 58 [.c (.d (.v (.func (.yield l) #[] #[]))), .c (.bx 0 0)] [(0, .box ⟨.c 35, some b0⟩ [.bx 5 0]), (1, .box ⟨.raw (.loop (recOf (bodyOf Tryz.f23) [0, 1, 0, 1, 1, 1] fn tm D)), some l⟩ []), (2, .box ⟨.c 35, some b2⟩ [.bx 5 0]), (3, .box ⟨.c 3, some b3⟩ [.d (.i id)]), (4, .box ⟨.c 65, some b5⟩ [.d (.i 34)]), (5, .box ⟨.c 73, some b6⟩ [.d (.i a), .d (.i n), .mp 6]), (6, .box ⟨.mpb (es), some b7⟩ [])] (.tup []) [(0, .box ⟨.c 35, some b0⟩ [.bx 5 0]), (1, .box ⟨.raw (.loop (recOf (bodyOf Tryz.f23) [0, 1, 0, 1, 1, 1] fn tm D)), some l⟩ []), (2, .box ⟨.c 35, some b2⟩ [.bx 5 0]), (3, .box ⟨.c 3, some b3⟩ [.d (.i id)]), (4, .box ⟨.c 65, some b5⟩ [.d (.i (wdE id es))]), (5, .box 73 [.d (.i a), .d (.i n), .mp 6]), (6, .box ⟨.mpb (wdR id es), none⟩ [])] := by
 refine spec_look (wdIt_ b0 b6 b7 b2 b3 b5 D l fn tm h2 h3 h5 hn a n id es hes) ?_
 first | rfl | (funext i; simp only [lookO_cons, upd]; ((repeat' split) <;> first | rfl | (exfalso; omega)))
theorem withdraw_ok_ (a n id : Int) (es : RS) (hes : RsOk n es) :
  SpG g 23 [.c (.bx 0 0), .c (.d (.i id))] [(0, .box 73 [.d (.i a), .d (.i n), .mp 1]), (1, .box ⟨.mpb (es), none⟩ [])] (.c (.d (.i (wdE id es)))) [(0, .box 73 [.d (.i a), .d (.i n), .mp 1]), (1, .box ⟨.mpb (wdR id es), none⟩ [])] := by
 refine enterM 38 Tryz.func23 (by kernel_rfl) fun fr hG => ?_
 refine zC hG [(1, 1, .callG (.c (.d (.b false))) [0, 1] [(0, .box 73 [.d (.i a), .d (.i n), .mp 1]), (1, .box ⟨.mpb (es), none⟩ [])])] [1, 0, 1] (false) (⟨[(2, [], .c (.bx 100 0)), (3, [], .c (.bx 101 0)), (4, [], .c (.d (.i 0)))], [(0, .box 73 [.d (.i a), .d (.i n), .mp 1]), (1, .box ⟨.mpb (es), none⟩ []), (100, .box 35 [.bx 0 0]), (101, .box 3 [.d (.i id)])]⟩) (by kernel_rfl) (conj1 ((zero_made a n es : SpG g _ _ _ _ _))) (fun hc1 => absurd hc1 (by decide)) (fun _ => ?_)
 refine stepL hG hmix [(4, 1, .callG (.c (.fn 58 [] [(100, 0)])) [0, 1] [(0, .box 73 [.d (.i a), .d (.i n), .mp 1]), (1, .box ⟨.mpb (es), none⟩ []), (100, .box 35 [.bx 0 0])])] [0, 1, 0, 1, 1, 1] (⟨[(2, [], .c (.bx 100 0)), (3, [], .c (.bx 101 0)), (4, [], .c (.d (.i 0))), (5, [], .c (.bx 400 0)), (13, [], .c (.fn 58 [] [(501, 0)]))], [(0, .box 73 [.d (.i a), .d (.i n), .mp 1]), (1, .box ⟨.mpb (es), none⟩ []), (100, .box 35 [.bx 0 0]), (101, .box 3 [.d (.i id)]), (400, .box 65 [.d (.i 34)]), (501, .box 35 [.bx 0 0])]⟩) _ (by kernel_rfl) (conj1 ((ordered_ok a n es : SpG g _ _ _ _ _))) ?_
 refine rangeR (g := 13) (ps := rgP (bodyOf Tryz.f23) [0, 1, 0, 1, 1, 1]) (assign := rgA (bodyOf Tryz.f23) [0, 1, 0, 1, 1, 1]) (body := rgB (bodyOf Tryz.f23) [0, 1, 0, 1, 1, 1]) hG (by kernel_rfl) 9900 9901 9910 (by kernel_rfl) rfl (by kernel_rfl) fun b D l fn tm hT hn => ?_
 refine ⟨.tup [], [501, 9901, 100, 101, 400, 0, 1], [(0, .box ⟨.c 35, some (b 501)⟩ [.bx 5 0]), (1, .box ⟨.raw (.loop (recOf (bodyOf Tryz.f23) [0, 1, 0, 1, 1, 1] fn tm D)), some l⟩ []), (2, .box ⟨.c 35, some (b 100)⟩ [.bx 5 0]), (3, .box ⟨.c 3, some (b 101)⟩ [.d (.i id)]), (4, .box ⟨.c 65, some (b 400)⟩ [.d (.i (wdE id es))]), (5, .box 73 [.d (.i a), .d (.i n), .mp 6]), (6, .box ⟨.mpb (wdR id es), none⟩ [])], none, ⟨[(4, [], .c (.d (.i 0))), (5, [], .c (.bx 400 0))], [(0, .box 73 [.d (.i a), .d (.i n), .mp 1]), (1, .box ⟨.mpb (wdR id es), none⟩ []), (400, .box ⟨.c 65, some (b 400)⟩ [.d (.i (wdE id es))]), (9900, .box ⟨.raw (.deferred (some [])), some D⟩ [])]⟩, _, .normal, by kernel_rfl, conj1 (wdIt (b 501) (b 0) (b 1) (b 100) (b 101) (b 400) D l fn tm (hT.bx 2 100 0 rfl) (hT.bx 3 101 0 rfl) (hT.bx 5 400 0 rfl) hn a n id es hes : SpG g _ _ _ _ _), rfl, ?_⟩
 have hG0 := hG
 replace hG := marked_is (D := D) hG
 refine stepU [0, 1, 400] (⟨[(4, [], .c (.d (.i 0))), (5, [], .c (.bx 400 0))], [(0, .box 73 [.d (.i a), .d (.i n), .mp 1]), (1, .box ⟨.mpb (wdR id es), none⟩ []), (400, .box 65 [.d (.i (wdE id es))]), (9900, .box ⟨.raw (.deferred (some [])), some D⟩ [])]⟩) (by kernel_rfl) ?_
 refine stepRM hG0 hmix [] [] 9900 (.c (.d (.i (wdE id es)))) [(0, .box 73 [.d (.i a), .d (.i n), .mp 1]), (1, .box ⟨.mpb (wdR id es), none⟩ [])] (by kernel_rfl) conj0 ?_ ?_
 ·rfl
 ·rfl
theorem withdraw_ok (a n id : Int) (es : RS) (hes : RsOk n es) :
  SpG g 23 [.c (.bx 0 0), .c (.d (.i id))] [(0, .box 73 [.d (.i a), .d (.i n), .mp 1]), (1, .box ⟨.mpb (es), none⟩ [])] (.c (.d (.i (wdE id es)))) [(0, .box 73 [.d (.i a), .d (.i n), .mp 1]), (1, .box ⟨.mpb (wdR id es), none⟩ [])] := by
 refine spec_look (withdraw_ok_ a n id es hes) ?_
 first | rfl | (funext i; simp only [lookO_cons, upd]; ((repeat' split) <;> first | rfl | (exfalso; omega)))
theorem tick_ok_ (a n : Int) (es : RS) (hes : RsOk n es) (hn0 : 0 ≤ n) (hn8 : n ≤ 8) :
  SpG g 25 [.c (.bx 0 0)] [(0, .box 73 [.d (.i a), .d (.i n), .mp 1]), (1, .box ⟨.mpb (es), none⟩ [])] (.c (.d (.sl 3 (mssD a (encT es) (tkL a n.toNat))))) [(0, .box 73 [.d (.i a), .d (.i n), .mp 1]), (1, .box ⟨.mpb (es), none⟩ [])] := by
 refine enterB 35 Tryz.func25 (by kernel_rfl) fun fr hG => ?_
 refine zC hG [(1, 1, .callG (.c (.d (.b false))) [0, 1] [(0, .box 73 [.d (.i a), .d (.i n), .mp 1]), (1, .box ⟨.mpb (es), none⟩ [])])] [1, 0, 1] (false) (⟨[(0, [], .c (.bx 0 0)), (2, [], .c (.d (.nil)))], [(0, .box 73 [.d (.i a), .d (.i n), .mp 1]), (1, .box ⟨.mpb (es), none⟩ [])]⟩) (by kernel_rfl) (conj1 ((zero_made a n es : SpG g _ _ _ _ _))) (fun hc1 => absurd hc1 (by decide)) (fun _ => ?_)
 refine zA hG [(4, 1, .callG (.c (.d (.s (S (encT es))))) [0, 1] [(0, .box 73 [.d (.i a), .d (.i n), .mp 1]), (1, .box ⟨.mpb (es), none⟩ [])])] [0, 1, 0, 1, 1, 1, 1] (⟨[(0, [], .c (.bx 0 0)), (2, [], .c (.d (.nil))), (3, [], .c (.d (.nil))), (4, [], .c (.d (.s (S (encT es))))), (5, [], .c (.d (.i 1)))], [(0, .box 73 [.d (.i a), .d (.i n), .mp 1]), (1, .box ⟨.mpb (es), none⟩ [])]⟩) [(3, 9003, 43, 3)] [] (fun (zz : Nat × List (List V.D)) => match zz with | (k, eb) => (n.toNat - k, ⟨[(0, [], .c (.bx 0 0)), (2, [], .c (.d (.nil))), (3, [], .c (.ar 9003 0)), (4, [], .c (.d (.s (S (encT es))))), (5, [], .c (.d (.i ((k : Int) + 1))))], [(0, .box 73 [.d (.i a), .d (.i n), .mp 1]), (1, .box ⟨.mpb (es), none⟩ []), (9003, .arr 0 43 3 (eb))]⟩, (k : Int) ≤ n ∧ eb = mssD a (encT es) (tkL a k))) (0, []) (by kernel_rfl) (conj1 ((encode_ok a n es (by exact hes) : SpG g _ _ _ _ _))) (by kernel_rfl) (by kernel_rfl) ?_ ?_
 ·exact ⟨by omega, rfl⟩
 rintro ⟨k, eb⟩ ⟨hk, heb⟩
 have hel : eb.length ≤ k := by rw [heb, mssD, List.length_map]; exact tk_len a k
 refine zc hG [] [1, 0] (decide ((((k : Int) + 1) : Int) ≤ n)) (by kernel_rfl) conj0 (fun hc3 => ?_) (fun hc3 => ?_)
 ·(try simp only [blS] at hc3)
  refine zc hG [] [1, 0, 0, 1] (!decide ((((k : Int) + 1) : Int) = a)) (by kernel_rfl) conj0 (fun hc4 => ?_) (fun hc4 => ?_)
  ·(try simp only [blS] at hc4)
   refine zD hG [] (k + 1, eb ++ ([[.i a, .i ((k : Int) + 1), .s (S (encT es))]] : List (List V.D))) (by kernel_rfl) (conjC (show ((eb).length + (([[.i a, .i ((k : Int) + 1), .s (S (encT es))]] : List (List V.D))).length) * (32 + 1) ≤ 140737488355328 from (by intros; (try simp only [inR, List.length_cons, List.length_nil]); omega)) (conj1 (show inR (((k : Int) + 1) + 1) from (by intros; (try simp only [inR, List.length_cons, List.length_nil]); omega)))) ?_ ?_
   ·(try dsimp only); omega
   ·refine ⟨by push_cast; omega, ?_⟩
    rw [tk_step, if_neg (by omega), heb]; simp [mssD, msD]
  ·(try simp only [blS] at hc4)
   refine zD hG [] (k + 1, eb) (by kernel_rfl) (conj1 (show inR (((k : Int) + 1) + 1) from (by intros; (try simp only [inR, List.length_cons, List.length_nil]); omega))) ?_ ?_
   ·(try dsimp only); omega
   ·refine ⟨by push_cast; omega, ?_⟩
    rw [tk_step, if_pos (by omega), heb]
 ·(try simp only [blS] at hc3)
  refine zE hG [] (.exit 0) (⟨[(2, [], .c (.d (.nil))), (3, [], .c (.ar 9003 0))], [(0, .box 73 [.d (.i a), .d (.i n), .mp 1]), (1, .box ⟨.mpb (es), none⟩ []), (9003, .arr 0 43 3 (eb))]⟩) (by kernel_rfl) conj0 rfl ?_
  refine zR hG [] [] (.c (.d (.sl 3 (eb)))) [(0, .box 73 [.d (.i a), .d (.i n), .mp 1]), (1, .box ⟨.mpb (es), none⟩ [])] (by kernel_rfl) conj0 ?_ ?_
  ·have hk2 : k = n.toNat := by omega
   rw [heb, hk2]
  ·rfl
theorem tick_ok (a n : Int) (es : RS) (hes : RsOk n es) (hn0 : 0 ≤ n) (hn8 : n ≤ 8) :
  SpG g 25 [.c (.bx 0 0)] [(0, .box 73 [.d (.i a), .d (.i n), .mp 1]), (1, .box ⟨.mpb (es), none⟩ [])] (.c (.d (.sl 3 (mssD a (encT es) (tkL a n.toNat))))) [(0, .box 73 [.d (.i a), .d (.i n), .mp 1]), (1, .box ⟨.mpb (es), none⟩ [])] := by
 refine spec_look (tick_ok_ a n es hes hn0 hn8) ?_
 first | rfl | (funext i; simp only [lookO_cons, upd]; ((repeat' split) <;> first | rfl | (exfalso; omega)))
theorem give_ok (a n : Int) (es : RS) (i : It) (hes : RsOk n es) (hi : ItOk i) :
  SpG g 22 [.c (.bx 0 0), .agg [.d (.i ((i).id)), .d (.i ((i).author)), .d (.i ((i).rank)), .d (.i ((i).time)), .d (.i ((i).kind)), .d (.sl 7 (tvsD ((i).input))), .d (.i (tvK ((i).output))), .d (.s (S (tvS ((i).output)))), .d (.i 0), .d (.i 0), .d (.i 0), .d (.sl 1 (([] : List (List V.D)))), .d (.sl 1 (([] : List (List V.D)))), .d (.s (S (i).prop)), .d (.s (S (i).param)), .d (.sl 1 (intsD ((i).program)))]] [(0, .box 73 [.d (.i a), .d (.i n), .mp 1]), (1, .box ⟨.mpb (es), none⟩ [])] (.c (.d (.i (giveE a es i)))) [(0, .box 73 [.d (.i a), .d (.i n), .mp 1]), (1, .box ⟨.mpb (giveS a es i), none⟩ [])] := by
 refine enterB 68 Tryz.func22 (by kernel_rfl) fun fr hG => ?_
 refine zC hG [(1, 1, .callG (.c (.d (.b false))) [0, 1] [(0, .box 73 [.d (.i a), .d (.i n), .mp 1]), (1, .box ⟨.mpb (es), none⟩ [])])] [1, 0, 1] (false) (⟨[(0, [], .c (.bx 0 0)), (3, [], .c (.bx 100 0)), (4, [], .c (.d (.i 0)))], [(0, .box 73 [.d (.i a), .d (.i n), .mp 1]), (1, .box ⟨.mpb (es), none⟩ []), (100, .box 63 [.d (.i ((i).id)), .d (.i ((i).author)), .d (.i ((i).rank)), .d (.i ((i).time)), .d (.i ((i).kind)), .d (.sl 7 (tvsD ((i).input))), .d (.i (tvK ((i).output))), .d (.s (S (tvS ((i).output)))), .d (.i 0), .d (.i 0), .d (.i 0), .d (.sl 1 (([] : List (List V.D)))), .d (.sl 1 (([] : List (List V.D)))), .d (.s (S (i).prop)), .d (.s (S (i).param)), .d (.sl 1 (intsD ((i).program)))])]⟩) (by kernel_rfl) (conj1 ((zero_made a n es : SpG g _ _ _ _ _))) (fun hc1 => absurd hc1 (by decide)) (fun _ => ?_)
 refine zC hG [(3, 1, .call (.c (.d (.s (S (itT i))))) [] [])] [1, 0, 1, 1, 1] ((S (itT i)).toList == (S []).toList) (⟨[(0, [], .c (.bx 0 0)), (3, [], .c (.bx 100 0)), (4, [], .c (.d (.i 0))), (5, [], .c (.d (.s (S (itT i)))))], [(0, .box 73 [.d (.i a), .d (.i n), .mp 1]), (1, .box ⟨.mpb (es), none⟩ []), (100, .box 63 [.d (.i ((i).id)), .d (.i ((i).author)), .d (.i ((i).rank)), .d (.i ((i).time)), .d (.i ((i).kind)), .d (.sl 7 (tvsD ((i).input))), .d (.i (tvK ((i).output))), .d (.s (S (tvS ((i).output)))), .d (.i 0), .d (.i 0), .d (.i 0), .d (.sl 1 (([] : List (List V.D)))), .d (.sl 1 (([] : List (List V.D)))), .d (.s (S (i).prop)), .d (.s (S (i).param)), .d (.sl 1 (intsD ((i).program)))])]⟩) (by kernel_rfl) (conj1 ((itText_ok i (by exact hi) : SpG g _ _ _ _ _))) (fun hc2 => ?_) (fun hc2 => ?_)
 ·(try simp only [zq8] at hc2)
  exact absurd hc2 (itT_ne i)
 ·(try simp only [zq8] at hc2)
  refine zC hG [] [1, 0, 1, 1, 1, 1] (!decide (((i).author : Int) = a)) (⟨[(0, [], .c (.bx 0 0)), (4, [], .c (.d (.i 0))), (5, [], .c (.d (.s (S (itT i)))))], [(0, .box 73 [.d (.i a), .d (.i n), .mp 1]), (1, .box ⟨.mpb (es), none⟩ [])]⟩) (by kernel_rfl) conj0 (fun hc3 => ?_) (fun hc3 => ?_)
  ·(try simp only [zq8] at hc3)
   refine stepRL hG hmix [] [] (.c (.d (.i 35))) [(0, .box 73 [.d (.i a), .d (.i n), .mp 1]), (1, .box ⟨.mpb (es), none⟩ [])] (by kernel_rfl) conj0 ?_ ?_
   ·rw [(give_who (by simpa using hc3)).1]
   ·rw [(give_who (by simpa using hc3)).2]
    all_goals (first | rfl | (funext i; simp only [lookO_cons, upd]; ((repeat' split) <;> first | rfl | (exfalso; omega))))
  ·(try simp only [zq8] at hc3)
   refine zc hG [] [1, 1, 0, 1, 1, 1, 1, 1] ((lkM (itT i) es).isSome) (by kernel_rfl) conj0 (fun hc4 => ?_) (fun hc4 => ?_)
   ·(try simp only [zq8] at hc4)
    refine stepRL hG hmix [] [] (.c (.d (.i 33))) [(0, .box 73 [.d (.i a), .d (.i n), .mp 1]), (1, .box ⟨.mpb (es), none⟩ [])] (by kernel_rfl) conj0 ?_ ?_
    ·rw [(give_twice (by simpa using hc3) hc4).1]
    ·rw [(give_twice (by simpa using hc3) hc4).2]
     all_goals (first | rfl | (funext i; simp only [lookO_cons, upd]; ((repeat' split) <;> first | rfl | (exfalso; omega))))
   ·(try simp only [zq8] at hc4)
    refine openB (i := 1) rfl fun ents clock hM => ?_
    refine zL hG [] [0, 1, 0, 1, 1, 1, 1, 1, 1, 1] (fun (zz : RS × Array Nat × Int) => match zz with | (vis, seen, c) => (es.length - vis.length, ⟨[(0, [], .c (.bx 0 0)), (4, [], .c (.d (.i 0))), (5, [], .c (.d (.s (S (itT i))))), (8, [], .c (.d (.i c))), (39, [], .c (.bx 1304 0))], [(0, .box 73 [.d (.i a), .d (.i n), .mp 1]), (1, .box ⟨.raw (.map ents clock), none⟩ []), (1304, .box ⟨.itr clock seen clock, none⟩ [.mp 1])]⟩, RngB ents vis seen ∧ c = (ownC a vis : Int) ∧ vis.length ≤ es.length)) ([], #[], 0) (by kernel_rfl) conj0 (by kernel_rfl) ?_ ?_
    ·exact ⟨RngB.nil ents, rfl, Nat.zero_le _⟩
    rintro ⟨vis, seen, c⟩ ⟨hrg, hc, hvl⟩
    have hco := own_le a vis
    have hle := hes.len
    refine stepN hmix 1 (pos' := [0]) (by kernel_rfl) ?_
    refine nextR (it := 39) (nx := 40) (more := 41) (i := 1) (j := 1304) (ents := ents) (clock := clock) (by kernel_rfl) (by kernel_rfl) (by kernel_rfl) (by kernel_rfl) rfl rfl (fun x hx => hM.lt x hx) (Nat.le_refl _) (fun hall => ?_) (fun ev hev hnew => ?_)
    ·have hful := RngB.full hM hrg hall
     refine shutB (i := 1) (q := none) (cells := []) (ents := ents) (clock := clock) (es := es) rfl hM ?_
     refine zC hG [] [0, 1] (false) (⟨[(0, [], .c (.bx 0 0)), (4, [], .c (.d (.i 0))), (5, [], .c (.d (.s (S (itT i))))), (8, [], .c (.d (.i c))), (39, [], .c (.bx 1304 0))], [(0, .box 73 [.d (.i a), .d (.i n), .mp 1]), (1, .box ⟨.mpb (es), none⟩ []), (1304, .box ⟨.itr clock seen clock, none⟩ [.mp 1])]⟩) (by kernel_rfl) conj0 (fun hc6 => absurd hc6 (by decide)) (fun _ => ?_)
     refine zE hG [] (.exit 0) (⟨[(0, [], .c (.bx 0 0)), (4, [], .c (.d (.i 0))), (5, [], .c (.d (.s (S (itT i))))), (8, [], .c (.d (.i c)))], [(0, .box 73 [.d (.i a), .d (.i n), .mp 1]), (1, .box ⟨.mpb (es), none⟩ [])]⟩) (by kernel_rfl) conj0 rfl ?_
     refine zC hG [] [1, 0, 1, 1, 1, 1, 1, 1, 1, 1] (decide ((c : Int) ≥ 30)) (⟨[(0, [], .c (.bx 0 0)), (4, [], .c (.d (.i 0))), (5, [], .c (.d (.s (S (itT i)))))], [(0, .box 73 [.d (.i a), .d (.i n), .mp 1]), (1, .box ⟨.mpb (es), none⟩ [])]⟩) (by kernel_rfl) conj0 (fun hc7 => ?_) (fun hc7 => ?_)
     ·(try simp only [zq8] at hc7)
      refine stepRL hG hmix [] [] (.c (.d (.i 2))) [(0, .box 73 [.d (.i a), .d (.i n), .mp 1]), (1, .box ⟨.mpb (es), none⟩ [])] (by kernel_rfl) conj0 ?_ ?_
      ·rw [(give_many (by simpa using hc3) (by simpa using hc4) (by rw [← own_perm hful, ← hc]; omega)).1]
      ·rw [(give_many (by simpa using hc3) (by simpa using hc4) (by rw [← own_perm hful, ← hc]; omega)).2]
       all_goals (first | rfl | (funext i; simp only [lookO_cons, upd]; ((repeat' split) <;> first | rfl | (exfalso; omega))))
     ·(try simp only [zq8] at hc7)
      refine stepRL hG hmix [] [] (.c (.d (.i 0))) [(1, .box ⟨.mpb (updM ltS (itT i) false es), none⟩ []), (0, .box 73 [.d (.i a), .d (.i n), .mp 1])] (by kernel_rfl) conj0 ?_ ?_
      ·rw [(give_yes (by simpa using hc3) (by simpa using hc4) (by rw [← own_perm hful, ← hc]; omega)).1]
      ·rw [(give_yes (by simpa using hc3) (by simpa using hc4) (by rw [← own_perm hful, ← hc]; omega)).2]
       all_goals (first | rfl | (funext i; simp only [lookO_cons, upd]; ((repeat' split) <;> first | rfl | (exfalso; omega))))
    ·obtain ⟨ek, eb, hek, hev2, hin, hrg2, hln2, hent⟩ := RngB.step hM hrg hev hnew
     refine zC hG [] [0, 1] (true) (⟨[(0, [], .c (.bx 0 0)), (4, [], .c (.d (.i 0))), (5, [], .c (.d (.s (S (itT i))))), (8, [], .c (.d (.i c))), (39, [], .c (.bx 1304 0))], [(0, .box 73 [.d (.i a), .d (.i n), .mp 1]), (1, .box ⟨.raw (.map ents clock), none⟩ []), (1304, .box ⟨.itr clock (seen.push ev.born) clock, none⟩ [.mp 1])]⟩) (by kernel_rfl) conj0 (fun _ => ?_) (fun hc8 => absurd hc8 (by decide))
     refine zc hG [(14, 0, .elem [.v (.string (S ek)), .v (.bool eb)]), (15, 1, .call (.tup [(true, [.d (.i ((itOf (ek)).id)), .d (.i ((itOf (ek)).author)), .d (.i ((itOf (ek)).rank)), .d (.i ((itOf (ek)).time)), .d (.i ((itOf (ek)).kind)), .d (.sl 7 (tvsD ((itOf (ek)).input))), .d (.i (tvK ((itOf (ek)).output))), .d (.s (S (tvS ((itOf (ek)).output)))), .d (.i 0), .d (.i 0), .d (.i 0), .d (.sl 1 (([] : List (List V.D)))), .d (.sl 1 (([] : List (List V.D)))), .d (.s (S (itOf (ek)).prop)), .d (.s (S (itOf (ek)).param)), .d (.sl 1 (intsD ((itOf (ek)).program)))]), (false, [.d (.b true)])]) [] [])] [1, 1, 1, 0, 1, 1] (decide (((itOf (ek)).author : Int) = a)) (by kernel_rfl) (conjC (hent) (conj1 ((readIt (t := ek) (by exact hes.it _ hin) : SpG g _ _ _ _ _)))) (fun hc9 => ?_) (fun hc9 => ?_)
     ·(try simp only [zq8] at hc9)
      refine zD hG [] (vis ++ [(ek, eb)], seen.push ev.born, c + 1) (by kernel_rfl) (conj1 (show inR (c + 1) from (by intros; (try simp only [inR]); omega))) ?_ ?_
      ·(try dsimp only); rw [List.length_append, List.length_cons, List.length_nil] at *; omega
      ·exact ⟨hrg2, by rw [own_snoc, if_pos (by simpa using hc9), hc], hln2⟩
     ·(try simp only [zq8] at hc9)
      refine zD hG [] (vis ++ [(ek, eb)], seen.push ev.born, c) (by kernel_rfl) conj0 ?_ ?_
      ·(try dsimp only); rw [List.length_append, List.length_cons, List.length_nil] at *; omega
      ·exact ⟨hrg2, by rw [own_snoc, if_neg (by simpa using hc9), hc], hln2⟩
end Go.Proofs.YtclaplngjmgnoaaGreatDoor
namespace Go.Proofs.YtclaplngjmgnoaaGreatDoor
open Go.RowKit Go.V
open Go.Eng (inR byteAt u8 bytesV)
variable {g : Gv}
def sgn (b : Bool) : UInt8 := if b then 45 else 43
def hdT (t : List UInt8) (b : Bool) : List UInt8 := sgn b :: Lib.itoa (t.length : Int)
theorem line_app (t : List UInt8) (b : Bool) (r : List UInt8) : lineT t b ++ r = hdT t b ++ 58 :: (t ++ 10 :: r) := by simp [lineT, hdT, sgn]
theorem cut_line (t : List UInt8) (b : Bool) (r : List UInt8) (h : (lineT t b ++ r).length < 4294967281) : SpG g 67 [.c (.d (.s (S (lineT t b ++ r)))), .c (.d (.s (S [58])))] [] (.tup [(false, [.d (.s (S (hdT t b)))]), (false, [.d (.s (S (t ++ 10 :: r)))]), (false, [.d (.b true)])]) [] := by
 have hc := cut_ok' (g := g) (lineT t b ++ r) [58] h
 have e : Lib.cut (lineT t b ++ r) [58] = (hdT t b, t ++ 10 :: r, true) := by
  rw [line_app]
  refine cut_at fun x hx => ?_
  rcases List.mem_cons.1 hx with rfl | hx
  ·unfold sgn; split <;> decide
  ·exact itoa_not (.inr (.inl rfl)) x hx
 rw [e] at hc
 exact hc
theorem atoi_hd {t : List UInt8} (b : Bool) (h : t.length ≤ 200000) : SpG g 68 [.c (.d (.s ((S (hdT t b)).extract 1 (S (hdT t b)).size)))] [] (.tup [(false, [.d (.i (t.length : Int))]), (false, [.d (.v .nilIface)])]) [] := by
 rw [S_drop]
 exact atoi_num (t.length : Int) (nOk_len (by omega))
theorem tl_take (t r : List UInt8) : (S (t ++ 10 :: r)).extract 0 ((t.length : Int)).toNat = S t := by rw [S_cut, Int.toNat_natCast]; simp
theorem tl_drop (t r : List UInt8) : (S (t ++ 10 :: r)).extract ((t.length : Int) + 1).toNat (S (t ++ 10 :: r)).size = S r := by
 have e : ((t.length : Int) + 1).toNat = t.length + 1 := by omega
 rw [e, S_drop, ← List.drop_drop, List.drop_left]; rfl
theorem hd_sgn (t : List UInt8) (b : Bool) : decide (byteAt (S (hdT t b)) 0 = 45) = b := by cases b <;> rfl
theorem ln_take (t : List UInt8) (b : Bool) (r : List UInt8) : (S (lineT t b ++ r)).extract 0 (((((S (hdT t b)).size : Int) + 1) + (t.length : Int)) + 1).toNat = S (lineT t b) := by
 have e : (((((S (hdT t b)).size : Int) + 1) + (t.length : Int)) + 1).toNat = (lineT t b).length := by
  rw [S_size]; simp only [zq1, hdT, lineT]; omega
 rw [e, S_cut]; simp
theorem line_tl {t r : List UInt8} {b : Bool} (h : t.length ≤ 200000) : SpG g 35 [.c (.d (.s ((S (t ++ 10 :: r)).extract 0 ((t.length : Int)).toNat))), .c (.d (.b (decide (byteAt (S (hdT t b)) 0 = 45))))] [] (.c (.d (.s (S (lineT t b))))) [] := by
 rw [tl_take, hd_sgn]; exact line_ok t b h
theorem line_ne (t : List UInt8) (b : Bool) (r : List UInt8) : lineT t b ++ r ≠ [] := by simp [lineT]
theorem enc_ne {es : RS} : encT es = [] ↔ es = [] := by
 cases es with
 | nil => simp [encT]
 | cons x r => simp [encT, lineT]
theorem enc_drop {es : RS} {k : Nat} (h : k < es.length) : encT (es.drop k) = lineT (es.getD k ([], false)).1 (es.getD k ([], false)).2 ++ encT (es.drop (k + 1)) := by
 have e : es.drop k = es.getD k ([], false) :: es.drop (k + 1) := by
  rw [List.getD_eq_getElem?_getD, List.getElem?_eq_getElem h]; exact List.drop_eq_getElem_cons h
 rw [e]; simp [encT]
theorem enc_dlen {n : Int} {es : RS} (h : RsOk n es) (k : Nat) : (encT (es.drop k)).length ≤ 800400000 := by
 have := flat_le (f := fun x : List UInt8 × Bool => lineT x.1 x.2) (l := es.drop k) (c := 200100) fun x hx => line_len (h.tlen (List.mem_of_mem_drop hx)) x.2
 have h2 := h.len
 have h3 : (es.drop k).length ≤ es.length := by rw [List.length_drop]; omega
 unfold encT
 omega
def TlOk (ms : RS) (k : Nat) (tl : RS) : Prop := ∀ s, (lkM s tl).getD false = decide (s ∈ (ms.take k).map fun x => lineT x.1 x.2)
theorem tl_step {ms tl : RS} {k : Nat} (h : TlOk ms k tl) (hk : k < ms.length) : TlOk ms (k + 1) (updM ltS (lineT (ms.getD k ([], false)).1 (ms.getD k ([], false)).2) true tl) := by
 intro s
 rw [lkM_upd, take_snoc ([], false) hk, List.map_append]
 by_cases hs : s = lineT (ms.getD k ([], false)).1 (ms.getD k ([], false)).2
 ·rw [if_pos hs, hs]; simp
 ·rw [if_neg hs, h s]
  have : (s ∈ List.map (fun x : List UInt8 × Bool => lineT x.1 x.2) (ms.take k)) ↔ s ∈ List.map (fun x : List UInt8 × Bool => lineT x.1 x.2) (ms.take k) ++ List.map (fun x => lineT x.1 x.2) [ms.getD k ([], false)] := by
   rw [List.mem_append, List.map_singleton, List.mem_singleton]
   constructor
   ·exact .inl
   ·rintro (h | h)
    ·exact h
    ·exact absurd h hs
  exact decide_eq_decide.2 this
theorem ins_end {k : List UInt8} {v : Bool} : ∀ {es : RS}, (∀ x, x ∈ es.map (·.1) → x < k) → insK ltS k v es = es ++ [(k, v)]
 | [], _ => rfl
 | y :: r, h => by
  have hy : ¬ ltS k y.1 = true := by
   have := h y.1 (by simp)
   simp only [ltS, decide_eq_true_eq]
   intro h2
   exact List.lt_irrefl _ (List.lt_trans this h2)
  simp only [insK, if_neg hy, List.cons_append]
  rw [ins_end fun x hx => h x (by simp only [List.map_cons, List.mem_cons]; exact .inr hx)]
theorem found_step {ms : RS} (hs : kSort ms) {k : Nat} (hk : k < ms.length) : lkM (ms.getD k ([], false)).1 (ms.take k) = none ∧ updM ltS (ms.getD k ([], false)).1 (ms.getD k ([], false)).2 (ms.take k) = ms.take (k + 1) := by
 have hlt : ∀ x, x ∈ (ms.take k).map (·.1) → x < (ms.getD k ([], false)).1 := by
  intro x hx
  have h2 : (ms.map (·.1)).Pairwise (· < ·) := hs
  have e : ms.map (·.1) = (ms.take k).map (·.1) ++ (ms.drop k).map (·.1) := by rw [← List.map_append, List.take_append_drop]
  rw [e, List.pairwise_append] at h2
  refine h2.2.2 x hx _ ?_
  have hd : ms.drop k = ms.getD k ([], false) :: ms.drop (k + 1) := by
   rw [List.getD_eq_getElem?_getD, List.getElem?_eq_getElem hk]; exact List.drop_eq_getElem_cons hk
  rw [hd]; simp
 have hn : lkM (ms.getD k ([], false)).1 (ms.take k) = none := by
  cases hl : lkM (ms.getD k ([], false)).1 (ms.take k) with
  | none => rfl
  | some b =>
   have := lk_some_mem.1 (show (lkM (ms.getD k ([], false)).1 (ms.take k)).isSome = true by rw [hl]; rfl)
   exact absurd (hlt _ this) (List.lt_irrefl _)
 refine ⟨hn, ?_⟩
 rw [updM, if_neg (by rw [hn]; decide), ins_end hlt, take_snoc ([], false) hk]
def jnV (es vis : RS) : RS := vis.foldl (fun e x => updM ltS x.1 ((lkM x.1 e).getD false || x.2) e) es
theorem jn_snoc (es vis : RS) (x : List UInt8 × Bool) : jnV es (vis ++ [x]) = updM ltS x.1 ((lkM x.1 (jnV es vis)).getD false || x.2) (jnV es vis) := by simp [jnV, List.foldl_append]
def orO : Option Bool → Option Bool → Option Bool
 | none, y => y
 | x, none => x
 | some a, some b => some (a || b)
theorem rev_all {α : Type} {p : List α → Prop} (h0 : p []) (h1 : ∀ l x, p l → p (l ++ [x])) (l : List α) : p l := by
 rw [← List.reverse_reverse l]
 induction l.reverse with
 | nil => exact h0
 | cons x r ih => rw [List.reverse_cons]; exact h1 _ x ih
theorem jn_ok {es : RS} (hs : kSort es) : ∀ (vis : RS), (vis.map (·.1)).Nodup → kSort (jnV es vis) ∧ (∀ n, lkM n (jnV es vis) = orO (lkM n es) (lkM n vis)) ∧ (jnV es vis).length ≤ es.length + vis.length := by
 intro vis
 induction vis using rev_all with
 | h0 => intro _; exact ⟨hs, fun n => by simp only [jnV, List.foldl_nil, lkM]; cases lkM n es <;> rfl, by simp [jnV]⟩
 | h1 vis x ih =>
  intro hn
  rw [List.map_append, List.nodup_append] at hn
  obtain ⟨h1, _, h3⟩ := hn
  obtain ⟨g1, g2, g3⟩ := ih h1
  have hx : lkM x.1 vis = none := by
   cases hl : lkM x.1 vis with
   | none => rfl
   | some b =>
    have := lk_some_mem.1 (show (lkM x.1 vis).isSome = true by rw [hl]; rfl)
    exact absurd rfl (h3 _ this x.1 (by simp))
  have hap : ∀ n, lkM n (vis ++ [x]) = if n = x.1 then some x.2 else lkM n vis := by
   intro n
   have go : ∀ (l : RS), lkM n (l ++ [x]) = match lkM n l with
    | some b => some b
    | none => if n = x.1 then some x.2 else none := by
    intro l
    induction l with
    | nil =>
     simp only [List.nil_append, lkM]
     by_cases h : n = x.1
     ·rw [if_pos h.symm, if_pos h]
     ·rw [if_neg (fun e => h e.symm), if_neg h]
    | cons y r ihr =>
     simp only [List.cons_append, lkM]
     by_cases h : y.1 = n
     ·rw [if_pos h, if_pos h]
     ·rw [if_neg h, if_neg h, ihr]
   rw [go vis]
   by_cases h : n = x.1
   ·rw [if_pos h, h, hx, if_pos rfl]
   ·cases lkM n vis with
    | none => simp [h]
    | some b => simp [h]
  obtain ⟨u1, _, u3, _⟩ := upd_keys (k := x.1) (v := (lkM x.1 (jnV es vis)).getD false || x.2) g1
  rw [jn_snoc]
  refine ⟨u1, fun n => ?_, by rw [List.length_append, List.length_cons, List.length_nil]; omega⟩
  rw [lkM_upd, hap n]
  by_cases h : n = x.1
  ·rw [if_pos h, if_pos h, h, g2, hx]
   cases lkM x.1 es <;> simp [orO]
  ·rw [if_neg h, if_neg h, g2]
theorem jn_perm {es ms vis : RS} (hs : kSort es) (hm : kSort ms) (hp : vis.Perm ms) : jnV es vis = jnV es ms := by
 have hv : (vis.map (·.1)).Nodup := ((hp.map (·.1)).nodup_iff).2 hm.nodup
 obtain ⟨a1, a2, _⟩ := jn_ok hs vis hv
 obtain ⟨b1, b2, _⟩ := jn_ok hs ms hm.nodup
 refine k_ext a1 b1 fun n => ?_
 rw [a2, b2, lkM_perm hp hm.nodup n]
def moreB (es ms : RS) : Bool := (jnV es ms).any fun x => !decide (lineT x.1 x.2 ∈ ms.map fun x => lineT x.1 x.2)
theorem jn_rs {n : Int} {es ms : RS} (hes : RsOk n es) (hms : RsOk n ms) (hl : es.length + ms.length ≤ 4000) : RsOk n (jnV es ms) := by
 obtain ⟨a1, a2, a3⟩ := jn_ok hes.sort ms hms.sort.nodup
 have hk : ∀ x, x ∈ jnV es ms → (∃ y, y ∈ es ∧ y.1 = x.1) ∨ ∃ y, y ∈ ms ∧ y.1 = x.1 := by
  intro x hx
  have h1 := (lk_some_mem (k := x.1)).2 (List.mem_map_of_mem hx)
  rw [a2] at h1
  cases h2 : lkM x.1 es with
  | some b => exact .inl ⟨_, lkM_mem h2, rfl⟩
  | none =>
   rw [h2] at h1
   cases h3 : lkM x.1 ms with
   | some b => exact .inr ⟨_, lkM_mem h3, rfl⟩
   | none => rw [h3] at h1; simp [orO] at h1
 refine ⟨a1, by omega, fun x hx => ?_, fun x hx => ?_⟩
 ·rcases hk x hx with ⟨y, hy, e⟩ | ⟨y, hy, e⟩
  ·rw [← e]; exact hes.it y hy
  ·rw [← e]; exact hms.it y hy
 ·rcases hk x hx with ⟨y, hy, e⟩ | ⟨y, hy, e⟩
  ·rw [← e]; exact hes.au y hy
  ·rw [← e]; exact hms.au y hy
theorem ln_no {t r : List UInt8} {b : Bool} (h : (!((S (lineT t b ++ r)).extract 0 (((((S (hdT t b)).size : Int) + 1) + (t.length : Int)) + 1).toNat).toList == (S (lineT t b)).toList) = true) : False := by
 rw [ln_take] at h; simp at h
theorem readIt_tl {t r : List UInt8} (h : IsIt t) : SpG g 38 [.c (.d (.s ((S (t ++ 10 :: r)).extract 0 t.length)))] [] (.tup [(true, [.d (.i ((itOf t).id)), .d (.i ((itOf t).author)), .d (.i ((itOf t).rank)), .d (.i ((itOf t).time)), .d (.i ((itOf t).kind)), .d (.sl 7 (tvsD ((itOf t).input))), .d (.i (tvK ((itOf t).output))), .d (.s (S (tvS ((itOf t).output)))), .d (.i 0), .d (.i 0), .d (.i 0), .d (.sl 1 (([] : List (List D)))), .d (.sl 1 (([] : List (List D)))), .d (.s (S (itOf t).prop)), .d (.s (S (itOf t).param)), .d (.sl 1 (intsD ((itOf t).program)))]), (false, [.d (.b true)])]) [] := by
 rw [show (S (t ++ 10 :: r)).extract 0 t.length = S t from tl_take t r]; exact readIt h
theorem next_ok (t : List UInt8) (b : Bool) (r : List UInt8) (n : Int) (ht : IsIt t) (h1 : 1 ≤ (itOf t).author) (h2 : (itOf t).author ≤ n) (hr : (lineT t b ++ r).length < 4294967281) :
  SpG g 39 [.c (.bx 0 0)] [(0, .box 102 [.d (.s (S (lineT t b ++ r))), .d (.i n)])] (.tup [(false, [.d (.s (S t))]), (false, [.d (.b b)]), (false, [.d (.b true)])]) [(0, .box 102 [.d (.s (S r)), .d (.i n)])] := by
 have htl := it_len ht
 have htr : (t ++ 10 :: r).length = t.length + 1 + r.length := by simp only [zq0]; omega
 have hhl : (hdT t b).length + t.length + 2 + r.length = (lineT t b ++ r).length := by simp only [zq1, hdT, lineT]; omega
 have hhd : 1 ≤ (hdT t b).length := by simp [hdT]
 refine enterB 95 Tryz.func39 (by kernel_rfl) fun fr hG => ?_
 refine zC hG [(1, 4, .call (.tup [(false, [.d (.s (S (hdT t b)))]), (false, [.d (.s (S (t ++ 10 :: r)))]), (false, [.d (.b true)])]) [] [])] [1, 0, 1, 1] ((S (hdT t b)).toList == (S []).toList) (⟨[(0, [], .c (.bx 0 0)), (2, [], .c (.d (.s (S [])))), (3, [], .c (.d (.b false))), (4, [], .c (.d (.b false))), (5, [], .c (.d (.s (S (hdT t b))))), (6, [], .c (.d (.s (S (t ++ 10 :: r)))))], [(0, .box 102 [.d (.s (S (lineT t b ++ r))), .d (.i n)])]⟩) (by kernel_rfl) (conj1 ((cut_line t b r hr : SpG g _ _ _ _ _))) (fun hc1 => ?_) (fun hc1 => ?_)
 ·(try simp only [zq6] at hc1)
  simp [hdT] at hc1
 ·(try simp only [zq6] at hc1)
  refine zC hG [(4, 2, .call (.tup [(false, [.d (.i (t.length : Int))]), (false, [.d (.v (.nilIface))])]) [] [])] [1, 0, 1, 1, 1, 1] ((decide (((t.length : Int) : Int) < 0)) || (decide (((t.length : Int) : Int) ≥ ((S (t ++ 10 :: r)).size : Int)))) (⟨[(0, [], .c (.bx 0 0)), (2, [], .c (.d (.s (S [])))), (3, [], .c (.d (.b false))), (4, [], .c (.d (.b false))), (5, [], .c (.d (.s (S (hdT t b))))), (6, [], .c (.d (.s (S (t ++ 10 :: r))))), (8, [], .c (.d (.i (t.length : Int))))], [(0, .box 102 [.d (.s (S (lineT t b ++ r))), .d (.i n)])]⟩) (by kernel_rfl) (conjC (show (0 : Int) ≤ 1 ∧ (1 : Int) ≤ ((S (hdT t b)).size : Int) ∧ ((S (hdT t b)).size : Int) ≤ ((S (hdT t b)).size : Int) from (by intros; (try simp only [zq12] at *); omega)) (conj1 ((atoi_hd b htl : SpG g _ _ _ _ _)))) (fun hc2 => ?_) (fun hc2 => ?_)
  ·(try simp only [zq6] at hc2)
   exfalso; omega
  ·(try simp only [zq6] at hc2)
   refine zC hG [(8, 13, .call (.c (.d (.s (S (lineT t b))))) [] [])] [1, 0, 1, 1, 1, 1, 1, 1] (!(((S (lineT t b ++ r)).extract 0 (((((S (hdT t b)).size : Int) + 1) + (t.length : Int)) + 1 : Int).toNat).toList == (S (lineT t b)).toList)) (⟨[(0, [], .c (.bx 0 0)), (2, [], .c (.d (.s ((S (t ++ 10 :: r)).extract 0 t.length)))), (3, [], .c (.d (.b (decide ((byteAt (S (hdT t b)) 0 : Int) = 45))))), (4, [], .c (.d (.b false))), (6, [], .c (.d (.s (S (t ++ 10 :: r))))), (8, [], .c (.d (.i (t.length : Int))))], [(0, .box 102 [.d (.s (S (lineT t b ++ r))), .d (.i n)])]⟩) (by kernel_rfl) (conjC (show (0 : Int) ≤ 0 ∧ (0 : Int) ≤ (t.length : Int) ∧ (t.length : Int) ≤ ((S (t ++ 10 :: r)).size : Int) from (by intros; (try simp only [zq12] at *); omega)) (conjC (show (0 : Int) ≤ 0 ∧ 0 < ((S (hdT t b)).size : Int) from (by intros; (try simp only [zq12] at *); omega)) (conjC (show inR (((S (hdT t b)).size : Int) + 1) from (by intros; (try simp only [zq12] at *); omega)) (conjC (show inR ((((S (hdT t b)).size : Int) + 1) + (t.length : Int)) from (by intros; (try simp only [zq12] at *); omega)) (conjC (show inR (((((S (hdT t b)).size : Int) + 1) + (t.length : Int)) + 1) from (by intros; (try simp only [zq12] at *); omega)) (conjC (show (0 : Int) ≤ 0 ∧ (0 : Int) ≤ (((((S (hdT t b)).size : Int) + 1) + (t.length : Int)) + 1) ∧ (((((S (hdT t b)).size : Int) + 1) + (t.length : Int)) + 1) ≤ ((S (lineT t b ++ r)).size : Int) from (by intros; (try simp only [zq12] at *); omega)) (conj1 ((line_tl (t := t) (r := r) (b := b) htl : SpG g _ _ _ _ _))))))))) (fun hc3 => ?_) (fun hc3 => ?_)
   ·(try simp only [zq6] at hc3)
    exact (ln_no (t := t) (r := r) (b := b) (by simpa [S_size] using hc3)).elim
   ·(try simp only [zq6] at hc3)
    refine zC hG [(10, 1, .call (.tup [(true, [.d (.i ((itOf t).id)), .d (.i ((itOf t).author)), .d (.i ((itOf t).rank)), .d (.i ((itOf t).time)), .d (.i ((itOf t).kind)), .d (.sl 7 (tvsD ((itOf t).input))), .d (.i (tvK ((itOf t).output))), .d (.s (S (tvS ((itOf t).output)))), .d (.i 0), .d (.i 0), .d (.i 0), .d (.sl 1 (([] : List (List V.D)))), .d (.sl 1 (([] : List (List V.D)))), .d (.s (S (itOf t).prop)), .d (.s (S (itOf t).param)), .d (.sl 1 (intsD ((itOf t).program)))]), (false, [.d (.b true)])]) [] [])] [1, 0, 1, 1, 1, 1, 1, 1, 1, 1] ((decide (((itOf t).author : Int) < 1)) || (decide (((itOf t).author : Int) > n))) (⟨[(0, [], .c (.bx 0 0)), (2, [], .c (.d (.s ((S (t ++ 10 :: r)).extract 0 t.length)))), (3, [], .c (.d (.b (decide ((byteAt (S (hdT t b)) 0 : Int) = 45))))), (4, [], .c (.d (.b true))), (6, [], .c (.d (.s (S (t ++ 10 :: r))))), (8, [], .c (.d (.i (t.length : Int))))], [(0, .box 102 [.d (.s (S (lineT t b ++ r))), .d (.i n)])]⟩) (by kernel_rfl) (conj1 ((readIt_tl (r := r) ht : SpG g _ _ _ _ _))) (fun hc4 => ?_) (fun hc4 => ?_)
    ·(try simp only [zq6] at hc4)
     exfalso; omega
    ·(try simp only [zq6] at hc4)
     refine zR hG [] [] (.tup [(false, [.d (.s ((S (t ++ 10 :: r)).extract 0 t.length))]), (false, [.d (.b (decide ((byteAt (S (hdT t b)) 0 : Int) = 45)))]), (false, [.d (.b true)])]) [(0, .box 102 [.d (.s ((S (t ++ 10 :: r)).extract ((t.length : Int) + 1 : Int).toNat (S (t ++ 10 :: r)).size)), .d (.i n)])] (by kernel_rfl) (conjC (show inR ((t.length : Int) + 1) from (by intros; (try simp only [zq12] at *); omega)) (conj1 (show (0 : Int) ≤ ((t.length : Int) + 1) ∧ ((t.length : Int) + 1 : Int) ≤ ((S (t ++ 10 :: r)).size : Int) ∧ ((S (t ++ 10 :: r)).size : Int) ≤ ((S (t ++ 10 :: r)).size : Int) from (by intros; (try simp only [zq12] at *); omega)))) ?_ ?_
     ·rw [show (S (t ++ 10 :: r)).extract 0 t.length = S t from tl_take t r, hd_sgn]
     ·rw [show (S (t ++ 10 :: r)).extract ((t.length : Int) + 1).toNat (S (t ++ 10 :: r)).size = S r from tl_drop t r]
end Go.Proofs.YtclaplngjmgnoaaGreatDoor
namespace Go.Proofs.YtclaplngjmgnoaaGreatDoor
open Go.RowKit Go.V
open Go.Eng (inR byteAt u8 bytesV)
variable {g : Gv}
theorem next_at {n : Int} {ms : RS} (hms : RsOk n ms) {k : Nat} (hk : k < ms.length) :
  SpG g 39 [.c (.bx 0 0)] [(0, .box 102 [.d (.s (S (encT (ms.drop k)))), .d (.i n)])] (.tup [(false, [.d (.s (S (ms.getD k ([], false)).1))]), (false, [.d (.b (ms.getD k ([], false)).2)]), (false, [.d (.b true)])]) [(0, .box 102 [.d (.s (S (encT (ms.drop (k + 1))))), .d (.i n)])] := by
 have hm := getD_mem (z := (([], false) : List UInt8 × Bool)) hk
 have hl := enc_dlen hms k
 rw [enc_drop hk] at hl ⊢
 exact next_ok _ _ _ n (hms.it _ hm) (hms.au _ hm).1 (hms.au _ hm).2 (by omega)
theorem take_st {n : Int} {ms tl fd : RS} (hms : RsOk n ms) {k : Nat} (hk : k < ms.length) (h1 : TlOk ms k tl) (h2 : fd = ms.take k) :
  k + 1 ≤ ms.length ∧ TlOk ms (k + 1) (updM ltS (lineT (ms.getD k ([], false)).1 (ms.getD k ([], false)).2) true tl) ∧ updM ltS (ms.getD k ([], false)).1 ((lkM (ms.getD k ([], false)).1 fd).getD false || (ms.getD k ([], false)).2) fd = ms.take (k + 1) := by
 subst h2
 obtain ⟨g1, g2⟩ := found_step hms.sort hk
 refine ⟨by omega, tl_step h1 hk, ?_⟩
 rw [g1]; exact g2
theorem told_all {es ms tl em : RS} {n : Int} (hem : em = jnV es ms) (h1 : TlOk ms ms.length tl) (hk : kSort em) (h : moreB es ms = false) : ∀ k, k < em.length → (lkM (lineT ((em.map (·.1)).getD k []) ((lkM ((em.map (·.1)).getD k []) em).getD false)) tl).getD false = true := by
 intro k hkl
 rw [key_at hkl, lk_at hk hkl, h1, List.take_length]
 have hm := getD_mem (z := (([], false) : List UInt8 × Bool)) hkl
 unfold moreB at h
 rw [List.any_eq_false, ← hem] at h
 have h5 := h _ hm
 simp only [Bool.not_eq_true, Bool.not_eq_false'] at h5
 exact h5
theorem told_not {es ms tl em : RS} {n : Int} (hem : em = jnV es ms) (h1 : TlOk ms ms.length tl) (hk : kSort em) (h : moreB es ms = true) : ∃ q, q < em.length ∧ (∀ k, k < q → (lkM (lineT ((em.map (·.1)).getD k []) ((lkM ((em.map (·.1)).getD k []) em).getD false)) tl).getD false = true) ∧ (lkM (lineT ((em.map (·.1)).getD q []) ((lkM ((em.map (·.1)).getD q []) em).getD false)) tl).getD false = false := by
 have hex : ∃ q, q < em.length ∧ (lkM (lineT ((em.map (·.1)).getD q []) ((lkM ((em.map (·.1)).getD q []) em).getD false)) tl).getD false = false := by
  unfold moreB at h
  rw [List.any_eq_true] at h
  obtain ⟨x, hx, hx2⟩ := h
  rw [← hem] at hx
  obtain ⟨q, hq, rfl⟩ := List.mem_iff_getElem.1 hx
  refine ⟨q, hq, ?_⟩
  rw [key_at hq, lk_at hk hq, h1, List.take_length]
  have e : em.getD q ([], false) = em[q] := by rw [List.getD_eq_getElem?_getD, List.getElem?_eq_getElem hq]; rfl
  rw [e]
  simpa using hx2
 obtain ⟨q, hq1, hq2⟩ := hex
 induction q using Nat.strongRecOn with
 | ind q ih =>
  by_cases hb : ∀ k, k < q → (lkM (lineT ((em.map (·.1)).getD k []) ((lkM ((em.map (·.1)).getD k []) em).getD false)) tl).getD false = true
  ·exact ⟨q, hq1, hb, hq2⟩
  ·obtain ⟨k, hk2⟩ := Classical.not_forall.1 hb
   obtain ⟨hkq, hkf⟩ := Classical.not_imp.1 hk2
   exact ih k hkq (by omega) (by simpa using hkf)
theorem tkGo (b2 b3 b4 b5 D l : Nat) (fn : FuncId) (tm : Array Value) (h2 : tm.getD 2 undef = .pointer (some ⟨b2, 0, none⟩)) (h3 : tm.getD 3 undef = .pointer (some ⟨b3, 0, none⟩)) (h4 : tm.getD 4 undef = .pointer (some ⟨b4, 0, none⟩)) (h5 : tm.getD 5 undef = .pointer (some ⟨b5, 0, none⟩)) (hn : tm.size = 124) (a n f : Int) (em ms tl : RS) (hem : RsOk n em) (t : List UInt8) (w : Bool) (ht : t.length ≤ 200000) (hc : (lkM (lineT t w) tl).getD false = true) :
  YSpec Tryz.prog (Gl g) l [.c (.d (.s (S t))), .c (.d (.b w))] [(0, .box ⟨.raw (.loop (recOf (bodyOf Tryz.f19) [0, 1, 0, 1, 1, 1, 1, 1, 1, 1, 1] fn tm D)), some l⟩ []), (1, .box ⟨.c 35, some b2⟩ [.bx 5 0]), (2, .box ⟨.c 43, some b3⟩ [.d (.i f), .d (.i a), .d (.s (S (encT ms)))]), (3, .box ⟨.c 32, some b4⟩ [.d (.nil)]), (4, .box ⟨.c 47, some b5⟩ [.mp 7]), (5, .box 73 [.d (.i a), .d (.i n), .mp 6]), (6, .box ⟨.mpb (em), none⟩ []), (7, .box ⟨.mpb (tl), none⟩ [])] (.c (.d (.b true))) [(0, .box ⟨.raw (.loop (recOf (bodyOf Tryz.f19) [0, 1, 0, 1, 1, 1, 1, 1, 1, 1, 1] fn tm D)), some l⟩ []), (1, .box ⟨.c 35, some b2⟩ [.bx 5 0]), (2, .box ⟨.c 43, some b3⟩ [.d (.i f), .d (.i a), .d (.s (S (encT ms)))]), (3, .box ⟨.c 32, some b4⟩ [.d (.nil)]), (4, .box ⟨.c 47, some b5⟩ [.mp 7]), (5, .box 73 [.d (.i a), .d (.i n), .mp 6]), (6, .box ⟨.mpb (em), none⟩ []), (7, .box ⟨.mpb (tl), none⟩ [])] := by
 refine enterY2 (iL := 0) (p := 106) (p2 := 107) (env0 := [(2, [], .c (.bx 1 0)), (3, [], .c (.bx 2 0)), (4, [], .c (.bx 3 0)), (5, [], .c (.bx 4 0))]) (n := 124) (r := (recOf (bodyOf Tryz.f19) [0, 1, 0, 1, 1, 1, 1, 1, 1, 1, 1] fn tm D)) rfl (by kernel_rfl) hn (by decide) (by decide) (by decide) ⟨rfl, ⟨_, _, _, rfl, rfl, h2⟩, ⟨rfl, ⟨_, _, _, rfl, rfl, h3⟩, ⟨rfl, ⟨_, _, _, rfl, rfl, h4⟩, ⟨rfl, ⟨_, _, _, rfl, rfl, h5⟩, trivial⟩⟩⟩⟩ fun fr hG => ?_
 refine stepB hG hmix [] (⟨[(2, [], .c (.bx 1 0)), (3, [], .c (.bx 2 0)), (4, [], .c (.bx 3 0)), (5, [], .c (.bx 4 0)), (14, [], .c (.d (.s (S t)))), (15, [], .c (.d (.b w)))], [(0, .box ⟨.raw (.loop (recOf (bodyOf Tryz.f19) [0, 1, 0, 1, 1, 1, 1, 1, 1, 1, 1] fn tm D)), some l⟩ []), (1, .box ⟨.c 35, some b2⟩ [.bx 5 0]), (2, .box ⟨.c 43, some b3⟩ [.d (.i f), .d (.i a), .d (.s (S (encT ms)))]), (3, .box ⟨.c 32, some b4⟩ [.d (.nil)]), (4, .box ⟨.c 47, some b5⟩ [.mp 7]), (5, .box 73 [.d (.i a), .d (.i n), .mp 6]), (6, .box ⟨.mpb (em), none⟩ []), (7, .box ⟨.mpb (tl), none⟩ [])]⟩) 0 (r := (recOf (bodyOf Tryz.f19) [0, 1, 0, 1, 1, 1, 1, 1, 1, 1, 1] fn tm D)) (by kernel_rfl) conj0 rfl rfl ?_
 refine stepK hG (⟨[(2, [], .c (.bx 1 0)), (3, [], .c (.bx 2 0)), (4, [], .c (.bx 3 0)), (5, [], .c (.bx 4 0)), (14, [], .c (.d (.s (S t)))), (15, [], .c (.d (.b w)))], [(0, .box ⟨.raw (.loop { (recOf (bodyOf Tryz.f19) [0, 1, 0, 1, 1, 1, 1, 1, 1, 1, 1] fn tm D) with state := .busy }), some l⟩ []), (1, .box ⟨.c 35, some b2⟩ [.bx 5 0]), (2, .box ⟨.c 43, some b3⟩ [.d (.i f), .d (.i a), .d (.s (S (encT ms)))]), (3, .box ⟨.c 32, some b4⟩ [.d (.nil)]), (4, .box ⟨.c 47, some b5⟩ [.mp 7]), (5, .box 73 [.d (.i a), .d (.i n), .mp 6]), (6, .box ⟨.mpb (em), none⟩ []), (7, .box ⟨.mpb (tl), none⟩ [])]⟩) (by kernel_rfl) ?_
 refine zC hG [(20, 3, .call (.c (.d (.s (S (lineT (t) w))))) [] [])] [1, 0] (!((lkM (lineT (t) w) tl).getD false)) (⟨[(2, [], .c (.bx 1 0)), (3, [], .c (.bx 2 0)), (4, [], .c (.bx 3 0))], [(0, .box ⟨.raw (.loop { (recOf (bodyOf Tryz.f19) [0, 1, 0, 1, 1, 1, 1, 1, 1, 1, 1] fn tm D) with state := .busy }), some l⟩ []), (1, .box ⟨.c 35, some b2⟩ [.bx 5 0]), (2, .box ⟨.c 43, some b3⟩ [.d (.i f), .d (.i a), .d (.s (S (encT ms)))]), (3, .box ⟨.c 32, some b4⟩ [.d (.nil)]), (4, .box ⟨.c 47, some b5⟩ [.mp 7]), (5, .box 73 [.d (.i a), .d (.i n), .mp 6]), (6, .box ⟨.mpb (em), none⟩ []), (7, .box ⟨.mpb (tl), none⟩ [])]⟩) (by kernel_rfl) (conj1 ((line_ok (t) w (by exact ht) : SpG g _ _ _ _ _))) (fun hc1 => ?_) (fun hc1 => ?_)
 ·(try simp only [blS] at hc1)
  rw [hc] at hc1; cases hc1
 ·(try simp only [blS] at hc1)
  refine stepY hG hmix [] [] 0 .normal [(0, .box ⟨.raw (endL { (recOf (bodyOf Tryz.f19) [0, 1, 0, 1, 1, 1, 1, 1, 1, 1, 1] fn tm D) with state := .busy } .normal), some l⟩ []), (1, .box ⟨.c 35, some b2⟩ [.bx 5 0]), (2, .box ⟨.c 43, some b3⟩ [.d (.i f), .d (.i a), .d (.s (S (encT ms)))]), (3, .box ⟨.c 32, some b4⟩ [.d (.nil)]), (4, .box ⟨.c 47, some b5⟩ [.mp 7]), (5, .box 73 [.d (.i a), .d (.i n), .mp 6]), (6, .box ⟨.mpb (em), none⟩ []), (7, .box ⟨.mpb (tl), none⟩ [])] (by kernel_rfl) conj0 ?_ ?_
  ·rfl
  ·rfl
theorem tkStop (b2 b3 b4 b5 D l : Nat) (fn : FuncId) (tm : Array Value) (h2 : tm.getD 2 undef = .pointer (some ⟨b2, 0, none⟩)) (h3 : tm.getD 3 undef = .pointer (some ⟨b3, 0, none⟩)) (h4 : tm.getD 4 undef = .pointer (some ⟨b4, 0, none⟩)) (h5 : tm.getD 5 undef = .pointer (some ⟨b5, 0, none⟩)) (hn : tm.size = 124) (a n f : Int) (em ms tl : RS) (hem : RsOk n em) (t : List UInt8) (w : Bool) (ht : t.length ≤ 200000) (hc : (lkM (lineT t w) tl).getD false = false) :
  YSpec Tryz.prog (Gl g) l [.c (.d (.s (S t))), .c (.d (.b w))] [(0, .box ⟨.raw (.loop (recOf (bodyOf Tryz.f19) [0, 1, 0, 1, 1, 1, 1, 1, 1, 1, 1] fn tm D)), some l⟩ []), (1, .box ⟨.c 35, some b2⟩ [.bx 5 0]), (2, .box ⟨.c 43, some b3⟩ [.d (.i f), .d (.i a), .d (.s (S (encT ms)))]), (3, .box ⟨.c 32, some b4⟩ [.d (.nil)]), (4, .box ⟨.c 47, some b5⟩ [.mp 7]), (5, .box 73 [.d (.i a), .d (.i n), .mp 6]), (6, .box ⟨.mpb (em), none⟩ []), (7, .box ⟨.mpb (tl), none⟩ [])] (.c (.d (.b false))) [(0, .box ⟨.raw (.loop { (recOf (bodyOf Tryz.f19) [0, 1, 0, 1, 1, 1, 1, 1, 1, 1, 1] fn tm D) with state := .done, pending := some .ret }), some l⟩ []), (1, .box ⟨.c 35, some b2⟩ [.bx 5 0]), (2, .box ⟨.c 43, some b3⟩ [.d (.i f), .d (.i a), .d (.s (S (encT ms)))]), (3, .box ⟨.c 32, some b4⟩ [.ar 100 0]), (4, .box ⟨.c 47, some b5⟩ [.mp 7]), (5, .box 73 [.d (.i a), .d (.i n), .mp 6]), (6, .box ⟨.mpb (em), none⟩ []), (7, .box ⟨.mpb (tl), none⟩ []), (100, .arr 0 43 3 (([msD a (encT em) f] : List (List V.D))))] := by
 refine enterY2 (iL := 0) (p := 106) (p2 := 107) (env0 := [(2, [], .c (.bx 1 0)), (3, [], .c (.bx 2 0)), (4, [], .c (.bx 3 0)), (5, [], .c (.bx 4 0))]) (n := 124) (r := (recOf (bodyOf Tryz.f19) [0, 1, 0, 1, 1, 1, 1, 1, 1, 1, 1] fn tm D)) rfl (by kernel_rfl) hn (by decide) (by decide) (by decide) ⟨rfl, ⟨_, _, _, rfl, rfl, h2⟩, ⟨rfl, ⟨_, _, _, rfl, rfl, h3⟩, ⟨rfl, ⟨_, _, _, rfl, rfl, h4⟩, ⟨rfl, ⟨_, _, _, rfl, rfl, h5⟩, trivial⟩⟩⟩⟩ fun fr hG => ?_
 refine stepB hG hmix [] (⟨[(2, [], .c (.bx 1 0)), (3, [], .c (.bx 2 0)), (4, [], .c (.bx 3 0)), (5, [], .c (.bx 4 0)), (14, [], .c (.d (.s (S t)))), (15, [], .c (.d (.b w)))], [(0, .box ⟨.raw (.loop (recOf (bodyOf Tryz.f19) [0, 1, 0, 1, 1, 1, 1, 1, 1, 1, 1] fn tm D)), some l⟩ []), (1, .box ⟨.c 35, some b2⟩ [.bx 5 0]), (2, .box ⟨.c 43, some b3⟩ [.d (.i f), .d (.i a), .d (.s (S (encT ms)))]), (3, .box ⟨.c 32, some b4⟩ [.d (.nil)]), (4, .box ⟨.c 47, some b5⟩ [.mp 7]), (5, .box 73 [.d (.i a), .d (.i n), .mp 6]), (6, .box ⟨.mpb (em), none⟩ []), (7, .box ⟨.mpb (tl), none⟩ [])]⟩) 0 (r := (recOf (bodyOf Tryz.f19) [0, 1, 0, 1, 1, 1, 1, 1, 1, 1, 1] fn tm D)) (by kernel_rfl) conj0 rfl rfl ?_
 refine stepK hG (⟨[(2, [], .c (.bx 1 0)), (3, [], .c (.bx 2 0)), (4, [], .c (.bx 3 0)), (5, [], .c (.bx 4 0)), (14, [], .c (.d (.s (S t)))), (15, [], .c (.d (.b w)))], [(0, .box ⟨.raw (.loop { (recOf (bodyOf Tryz.f19) [0, 1, 0, 1, 1, 1, 1, 1, 1, 1, 1] fn tm D) with state := .busy }), some l⟩ []), (1, .box ⟨.c 35, some b2⟩ [.bx 5 0]), (2, .box ⟨.c 43, some b3⟩ [.d (.i f), .d (.i a), .d (.s (S (encT ms)))]), (3, .box ⟨.c 32, some b4⟩ [.d (.nil)]), (4, .box ⟨.c 47, some b5⟩ [.mp 7]), (5, .box 73 [.d (.i a), .d (.i n), .mp 6]), (6, .box ⟨.mpb (em), none⟩ []), (7, .box ⟨.mpb (tl), none⟩ [])]⟩) (by kernel_rfl) ?_
 refine zC hG [(20, 3, .call (.c (.d (.s (S (lineT (t) w))))) [] [])] [1, 0] (!((lkM (lineT (t) w) tl).getD false)) (⟨[(2, [], .c (.bx 1 0)), (3, [], .c (.bx 2 0)), (4, [], .c (.bx 3 0))], [(0, .box ⟨.raw (.loop { (recOf (bodyOf Tryz.f19) [0, 1, 0, 1, 1, 1, 1, 1, 1, 1, 1] fn tm D) with state := .busy }), some l⟩ []), (1, .box ⟨.c 35, some b2⟩ [.bx 5 0]), (2, .box ⟨.c 43, some b3⟩ [.d (.i f), .d (.i a), .d (.s (S (encT ms)))]), (3, .box ⟨.c 32, some b4⟩ [.d (.nil)]), (4, .box ⟨.c 47, some b5⟩ [.mp 7]), (5, .box 73 [.d (.i a), .d (.i n), .mp 6]), (6, .box ⟨.mpb (em), none⟩ []), (7, .box ⟨.mpb (tl), none⟩ [])]⟩) (by kernel_rfl) (conj1 ((line_ok (t) w (by exact ht) : SpG g _ _ _ _ _))) (fun hc1 => ?_) (fun hc1 => ?_)
 ·(try simp only [blS] at hc1)
  refine stepY hG hmix [(21, 7, .callG (.c (.d (.s (S (encT em))))) [5, 6] ((99999, .box 0 []) :: [(0, .box 73 [.d (.i a), .d (.i n), .mp 1]), (1, .box ⟨.mpb (em), none⟩ [])]))] [2209] 0 .ret [(0, .box ⟨.raw (endL { (recOf (bodyOf Tryz.f19) [0, 1, 0, 1, 1, 1, 1, 1, 1, 1, 1] fn tm D) with state := .busy } .ret), some l⟩ []), (3, .box ⟨.c 32, some b4⟩ [.ar 100 0]), (100, .arr 0 43 3 (([[.i a, .i f, .s (S (encT em))]] : List (List V.D)))), (1, .box ⟨.c 35, some b2⟩ [.bx 5 0]), (2, .box ⟨.c 43, some b3⟩ [.d (.i f), .d (.i a), .d (.s (S (encT ms)))]), (4, .box ⟨.c 47, some b5⟩ [.mp 7]), (5, .box 73 [.d (.i a), .d (.i n), .mp 6]), (6, .box ⟨.mpb (em), none⟩ []), (7, .box ⟨.mpb (tl), none⟩ [])] (by kernel_rfl) (conjC (And.intro (And.intro (rfl : (some (.box 73 [.d (.i a), .d (.i n), .mp 6]) : Option Ob) = some (.box 73 [.d (.i a), .d (.i n), .mp 6])) (And.intro (rfl : (some (.box ⟨.mpb (em), none⟩ []) : Option Ob) = some (.box ⟨.mpb (em), none⟩ [])) (trivial))) (rfl : true = true)) (conj1 ((encode_ok a n em (by exact hem) : SpG g _ _ _ _ _)))) ?_ ?_
  ·rfl
  ·funext i; simp only [lookO_cons, upd]; (repeat' split) <;> first | rfl | (exfalso; omega)
 ·(try simp only [blS] at hc1)
  rw [hc] at hc1; cases hc1
theorem tkItA (b0 b6 b7 b8 : Nat) (b2 b3 b4 b5 D l : Nat) (fn : FuncId) (tm : Array Value) (h2 : tm.getD 2 undef = .pointer (some ⟨b2, 0, none⟩)) (h3 : tm.getD 3 undef = .pointer (some ⟨b3, 0, none⟩)) (h4 : tm.getD 4 undef = .pointer (some ⟨b4, 0, none⟩)) (h5 : tm.getD 5 undef = .pointer (some ⟨b5, 0, none⟩)) (hn : tm.size = 124) (a n f : Int) (em ms tl : RS) (hem : RsOk n em) (hq2 : ∀ k, k < em.length → (lkM (lineT ((em.map (·.1)).getD k []) ((lkM ((em.map (·.1)).getD k []) em).getD false)) tl).getD false = true) :
  SpG g 58 [.c (.d (.v (.func (.yield l) #[] #[]))), .c (.bx 0 0)] [(0, .box ⟨.c 35, some b0⟩ [.bx 6 0]), (1, .box ⟨.raw (.loop (recOf (bodyOf Tryz.f19) [0, 1, 0, 1, 1, 1, 1, 1, 1, 1, 1] fn tm D)), some l⟩ []), (2, .box ⟨.c 35, some b2⟩ [.bx 6 0]), (3, .box ⟨.c 43, some b3⟩ [.d (.i f), .d (.i a), .d (.s (S (encT ms)))]), (4, .box ⟨.c 32, some b4⟩ [.d (.nil)]), (5, .box ⟨.c 47, some b5⟩ [.mp 8]), (6, .box ⟨.c 73, some b6⟩ [.d (.i a), .d (.i n), .mp 7]), (7, .box ⟨.mpb (em), some b7⟩ []), (8, .box ⟨.mpb (tl), some b8⟩ [])] (.tup []) [(0, .box ⟨.c 35, some b0⟩ [.bx 6 0]), (1, .box ⟨.raw (.loop (recOf (bodyOf Tryz.f19) [0, 1, 0, 1, 1, 1, 1, 1, 1, 1, 1] fn tm D)), some l⟩ []), (2, .box ⟨.c 35, some b2⟩ [.bx 6 0]), (3, .box ⟨.c 43, some b3⟩ [.d (.i f), .d (.i a), .d (.s (S (encT ms)))]), (4, .box ⟨.c 32, some b4⟩ [.d (.nil)]), (5, .box ⟨.c 47, some b5⟩ [.mp 8]), (6, .box 73 [.d (.i a), .d (.i n), .mp 7]), (7, .box ⟨.mpb (em), none⟩ []), (8, .box ⟨.mpb (tl), none⟩ [])] := by
 have hle := hem.len
 have hsl : (strs (em.map (·.1))).length = em.length := by rw [strs, List.length_map, List.length_map]
 refine enterB 27 Tryz.func58 (by kernel_rfl) fun fr hG => ?_
 refine stepU [6, 7, 8] (⟨[(0, [], .c (.d (.v (.func (.yield l) #[] #[])))), (1, [], .c (.bx 0 0))], [(0, .box ⟨.c 35, some b0⟩ [.bx 6 0]), (1, .box ⟨.raw (.loop (recOf (bodyOf Tryz.f19) [0, 1, 0, 1, 1, 1, 1, 1, 1, 1, 1] fn tm D)), some l⟩ []), (2, .box ⟨.c 35, some b2⟩ [.bx 6 0]), (3, .box ⟨.c 43, some b3⟩ [.d (.i f), .d (.i a), .d (.s (S (encT ms)))]), (4, .box ⟨.c 32, some b4⟩ [.d (.nil)]), (5, .box ⟨.c 47, some b5⟩ [.mp 8]), (6, .box 73 [.d (.i a), .d (.i n), .mp 7]), (7, .box ⟨.mpb (em), none⟩ []), (8, .box ⟨.mpb (tl), none⟩ [])]⟩) (by kernel_rfl) ?_
 refine zL hG [(0, 4, .callG (.c (.fn 113 [] [(100, 0)])) [7] [(0, .box ⟨.mpb (em), none⟩ []), (100, .box 47 [.mp 0])]), (0, 5, .callG (.c (.d (.sl 1 (strs (em.map (·.1)))))) [104, 7] [(0, .box 47 [.mp 1]), (1, .box ⟨.mpb (em), none⟩ [])])] [0, 1] (fun (zz : Nat) => match zz with | k => (em.length - k, ⟨[(0, [], .c (.d (.v (.func (.yield l) #[] #[])))), (1, [], .c (.bx 0 0)), (10, [], .c (.d (.sl 1 (strs (em.map (·.1)))))), (11, [], .c (.d (.i ((strs (em.map (·.1))).length : Int)))), (12, [], .c (.d (.i (k : Int))))], [(0, .box ⟨.c 35, some b0⟩ [.bx 6 0]), (1, .box ⟨.raw (.loop (recOf (bodyOf Tryz.f19) [0, 1, 0, 1, 1, 1, 1, 1, 1, 1, 1] fn tm D)), some l⟩ []), (2, .box ⟨.c 35, some b2⟩ [.bx 6 0]), (3, .box ⟨.c 43, some b3⟩ [.d (.i f), .d (.i a), .d (.s (S (encT ms)))]), (4, .box ⟨.c 32, some b4⟩ [.d (.nil)]), (5, .box ⟨.c 47, some b5⟩ [.mp 8]), (6, .box 73 [.d (.i a), .d (.i n), .mp 7]), (7, .box ⟨.mpb (em), none⟩ []), (8, .box ⟨.mpb (tl), none⟩ [])]⟩, k ≤ em.length)) 0 (by kernel_rfl) (conjC ((keys_ok em : SpG g _ _ _ _ _)) (conj1 ((sortedKeys_ok em (by exact hem.sort) (by have := hem.len; omega) (by intro x hx; have := hem.tlen hx; omega) : SpG g _ _ _ _ _)))) (by kernel_rfl) ?_ ?_
 ·exact Nat.zero_le _
 rintro k hk
 refine zc hG [] [0, 1] (decide (((k : Int) : Int) < ((strs (em.map (·.1))).length : Int))) (by kernel_rfl) conj0 (fun hc2 => ?_) (fun hc2 => ?_)
 ·(try simp only [zq16] at hc2)
  refine zc hG [(2, 0, .elem (strD (((em.map (·.1))).getD k []))), (3, 8, .callG (.c (.d (.b true))) [1, 2, 3, 4, 5, 6, 7, 8] [(0, .box ⟨.raw (.loop (recOf (bodyOf Tryz.f19) [0, 1, 0, 1, 1, 1, 1, 1, 1, 1, 1] fn tm D)), some l⟩ []), (1, .box ⟨.c 35, some b2⟩ [.bx 5 0]), (2, .box ⟨.c 43, some b3⟩ [.d (.i f), .d (.i a), .d (.s (S (encT ms)))]), (3, .box ⟨.c 32, some b4⟩ [.d (.nil)]), (4, .box ⟨.c 47, some b5⟩ [.mp 7]), (5, .box 73 [.d (.i a), .d (.i n), .mp 6]), (6, .box ⟨.mpb (em), none⟩ []), (7, .box ⟨.mpb (tl), none⟩ [])])] [1, 1, 0, 0, 1, 1] (false) (by kernel_rfl) (conjC (show (0 : Int) ≤ (k : Int) ∧ (strs (em.map (·.1)))[k]? = some (strD (((em.map (·.1))).getD k [])) from (by intros; exact map_at (f := strD) [] (by omega) (by (try simp only [zq4] at *); omega))) (conj1 ((tkGo b2 b3 b4 b5 D l fn tm h2 h3 h4 h5 hn a n f em ms tl hem (((em.map (·.1))).getD k []) ((lkM (((em.map (·.1))).getD k []) em).getD false) (key_len hem (by omega)) (hq2 k (by omega)) : YSpec Tryz.prog (Gl g) _ _ _ _ _)))) (fun hc3 => absurd hc3 (by decide)) (fun _ => ?_)
  refine zD hG [] (k + 1) (by kernel_rfl) (conj1 (show inR ((k : Int) + 1) from (by intros; (try simp only [zq17] at *); omega))) ?_ ?_
  ·(try dsimp only); omega
  ·show k + 1 ≤ em.length; omega
 ·(try simp only [zq16] at hc2)
  refine zE hG [] (.exit 0) (⟨[], [(0, .box ⟨.c 35, some b0⟩ [.bx 6 0]), (1, .box ⟨.raw (.loop (recOf (bodyOf Tryz.f19) [0, 1, 0, 1, 1, 1, 1, 1, 1, 1, 1] fn tm D)), some l⟩ []), (2, .box ⟨.c 35, some b2⟩ [.bx 6 0]), (3, .box ⟨.c 43, some b3⟩ [.d (.i f), .d (.i a), .d (.s (S (encT ms)))]), (4, .box ⟨.c 32, some b4⟩ [.d (.nil)]), (5, .box ⟨.c 47, some b5⟩ [.mp 8]), (6, .box 73 [.d (.i a), .d (.i n), .mp 7]), (7, .box ⟨.mpb (em), none⟩ []), (8, .box ⟨.mpb (tl), none⟩ [])]⟩) (by kernel_rfl) conj0 rfl ?_
  refine stepRL hG hmix [] [] (.tup []) [(0, .box ⟨.c 35, some b0⟩ [.bx 6 0]), (1, .box ⟨.raw (.loop (recOf (bodyOf Tryz.f19) [0, 1, 0, 1, 1, 1, 1, 1, 1, 1, 1] fn tm D)), some l⟩ []), (2, .box ⟨.c 35, some b2⟩ [.bx 6 0]), (3, .box ⟨.c 43, some b3⟩ [.d (.i f), .d (.i a), .d (.s (S (encT ms)))]), (4, .box ⟨.c 32, some b4⟩ [.d (.nil)]), (5, .box ⟨.c 47, some b5⟩ [.mp 8]), (6, .box 73 [.d (.i a), .d (.i n), .mp 7]), (7, .box ⟨.mpb (em), none⟩ []), (8, .box ⟨.mpb (tl), none⟩ [])] (by kernel_rfl) conj0 ?_ ?_
  ·rfl
  ·first | rfl | (funext i; simp only [lookO_cons, upd]; ((repeat' split) <;> first | rfl | (exfalso; omega)))
theorem tkItB (b0 b6 b7 b8 : Nat) (b2 b3 b4 b5 D l : Nat) (fn : FuncId) (tm : Array Value) (h2 : tm.getD 2 undef = .pointer (some ⟨b2, 0, none⟩)) (h3 : tm.getD 3 undef = .pointer (some ⟨b3, 0, none⟩)) (h4 : tm.getD 4 undef = .pointer (some ⟨b4, 0, none⟩)) (h5 : tm.getD 5 undef = .pointer (some ⟨b5, 0, none⟩)) (hn : tm.size = 124) (a n f : Int) (em ms tl : RS) (hem : RsOk n em) (q : Nat) (hq1 : q < em.length) (hq2 : ∀ k, k < q → (lkM (lineT ((em.map (·.1)).getD k []) ((lkM ((em.map (·.1)).getD k []) em).getD false)) tl).getD false = true) (hq3 : (lkM (lineT ((em.map (·.1)).getD q []) ((lkM ((em.map (·.1)).getD q []) em).getD false)) tl).getD false = false) :
  SpG g 58 [.c (.d (.v (.func (.yield l) #[] #[]))), .c (.bx 0 0)] [(0, .box ⟨.c 35, some b0⟩ [.bx 6 0]), (1, .box ⟨.raw (.loop (recOf (bodyOf Tryz.f19) [0, 1, 0, 1, 1, 1, 1, 1, 1, 1, 1] fn tm D)), some l⟩ []), (2, .box ⟨.c 35, some b2⟩ [.bx 6 0]), (3, .box ⟨.c 43, some b3⟩ [.d (.i f), .d (.i a), .d (.s (S (encT ms)))]), (4, .box ⟨.c 32, some b4⟩ [.d (.nil)]), (5, .box ⟨.c 47, some b5⟩ [.mp 8]), (6, .box ⟨.c 73, some b6⟩ [.d (.i a), .d (.i n), .mp 7]), (7, .box ⟨.mpb (em), some b7⟩ []), (8, .box ⟨.mpb (tl), some b8⟩ [])] (.tup []) [(0, .box ⟨.c 35, some b0⟩ [.bx 6 0]), (1, .box ⟨.raw (.loop { (recOf (bodyOf Tryz.f19) [0, 1, 0, 1, 1, 1, 1, 1, 1, 1, 1] fn tm D) with state := .done, pending := some .ret }), some l⟩ []), (2, .box ⟨.c 35, some b2⟩ [.bx 6 0]), (3, .box ⟨.c 43, some b3⟩ [.d (.i f), .d (.i a), .d (.s (S (encT ms)))]), (4, .box ⟨.c 32, some b4⟩ [.ar 100 0]), (5, .box ⟨.c 47, some b5⟩ [.mp 8]), (6, .box 73 [.d (.i a), .d (.i n), .mp 7]), (7, .box ⟨.mpb (em), none⟩ []), (8, .box ⟨.mpb (tl), none⟩ []), (100, .arr 0 43 3 (([msD a (encT em) f] : List (List V.D))))] := by
 have hle := hem.len
 have hsl : (strs (em.map (·.1))).length = em.length := by rw [strs, List.length_map, List.length_map]
 refine enterB 27 Tryz.func58 (by kernel_rfl) fun fr hG => ?_
 refine stepU [6, 7, 8] (⟨[(0, [], .c (.d (.v (.func (.yield l) #[] #[])))), (1, [], .c (.bx 0 0))], [(0, .box ⟨.c 35, some b0⟩ [.bx 6 0]), (1, .box ⟨.raw (.loop (recOf (bodyOf Tryz.f19) [0, 1, 0, 1, 1, 1, 1, 1, 1, 1, 1] fn tm D)), some l⟩ []), (2, .box ⟨.c 35, some b2⟩ [.bx 6 0]), (3, .box ⟨.c 43, some b3⟩ [.d (.i f), .d (.i a), .d (.s (S (encT ms)))]), (4, .box ⟨.c 32, some b4⟩ [.d (.nil)]), (5, .box ⟨.c 47, some b5⟩ [.mp 8]), (6, .box 73 [.d (.i a), .d (.i n), .mp 7]), (7, .box ⟨.mpb (em), none⟩ []), (8, .box ⟨.mpb (tl), none⟩ [])]⟩) (by kernel_rfl) ?_
 refine zL hG [(0, 4, .callG (.c (.fn 113 [] [(100, 0)])) [7] [(0, .box ⟨.mpb (em), none⟩ []), (100, .box 47 [.mp 0])]), (0, 5, .callG (.c (.d (.sl 1 (strs (em.map (·.1)))))) [104, 7] [(0, .box 47 [.mp 1]), (1, .box ⟨.mpb (em), none⟩ [])])] [0, 1] (fun (zz : Nat) => match zz with | k => (q - k, ⟨[(0, [], .c (.d (.v (.func (.yield l) #[] #[])))), (1, [], .c (.bx 0 0)), (10, [], .c (.d (.sl 1 (strs (em.map (·.1)))))), (11, [], .c (.d (.i ((strs (em.map (·.1))).length : Int)))), (12, [], .c (.d (.i (k : Int))))], [(0, .box ⟨.c 35, some b0⟩ [.bx 6 0]), (1, .box ⟨.raw (.loop (recOf (bodyOf Tryz.f19) [0, 1, 0, 1, 1, 1, 1, 1, 1, 1, 1] fn tm D)), some l⟩ []), (2, .box ⟨.c 35, some b2⟩ [.bx 6 0]), (3, .box ⟨.c 43, some b3⟩ [.d (.i f), .d (.i a), .d (.s (S (encT ms)))]), (4, .box ⟨.c 32, some b4⟩ [.d (.nil)]), (5, .box ⟨.c 47, some b5⟩ [.mp 8]), (6, .box 73 [.d (.i a), .d (.i n), .mp 7]), (7, .box ⟨.mpb (em), none⟩ []), (8, .box ⟨.mpb (tl), none⟩ [])]⟩, k ≤ q)) 0 (by kernel_rfl) (conjC ((keys_ok em : SpG g _ _ _ _ _)) (conj1 ((sortedKeys_ok em (by exact hem.sort) (by have := hem.len; omega) (by intro x hx; have := hem.tlen hx; omega) : SpG g _ _ _ _ _)))) (by kernel_rfl) ?_ ?_
 ·exact Nat.zero_le _
 rintro k hk
 refine zc hG [] [0, 1] (decide (((k : Int) : Int) < ((strs (em.map (·.1))).length : Int))) (by kernel_rfl) conj0 (fun hc2 => ?_) (fun hc2 => ?_)
 ·(try simp only [zq16] at hc2)
  rcases (by omega : k < q ∨ k = q) with hkq | hkq
  ·skip
   refine zc hG [(2, 0, .elem (strD (((em.map (·.1))).getD k []))), (3, 8, .callG (.c (.d (.b true))) [1, 2, 3, 4, 5, 6, 7, 8] [(0, .box ⟨.raw (.loop (recOf (bodyOf Tryz.f19) [0, 1, 0, 1, 1, 1, 1, 1, 1, 1, 1] fn tm D)), some l⟩ []), (1, .box ⟨.c 35, some b2⟩ [.bx 5 0]), (2, .box ⟨.c 43, some b3⟩ [.d (.i f), .d (.i a), .d (.s (S (encT ms)))]), (3, .box ⟨.c 32, some b4⟩ [.d (.nil)]), (4, .box ⟨.c 47, some b5⟩ [.mp 7]), (5, .box 73 [.d (.i a), .d (.i n), .mp 6]), (6, .box ⟨.mpb (em), none⟩ []), (7, .box ⟨.mpb (tl), none⟩ [])])] [1, 1, 0, 0, 1, 1] (false) (by kernel_rfl) (conjC (show (0 : Int) ≤ (k : Int) ∧ (strs (em.map (·.1)))[k]? = some (strD (((em.map (·.1))).getD k [])) from (by intros; exact map_at (f := strD) [] (by omega) (by (try simp only [zq4] at *); omega))) (conj1 ((tkGo b2 b3 b4 b5 D l fn tm h2 h3 h4 h5 hn a n f em ms tl hem (((em.map (·.1))).getD k []) ((lkM (((em.map (·.1))).getD k []) em).getD false) (key_len hem (by omega)) (hq2 k (by omega)) : YSpec Tryz.prog (Gl g) _ _ _ _ _)))) (fun hc3 => absurd hc3 (by decide)) (fun _ => ?_)
   refine zD hG [] (k + 1) (by kernel_rfl) (conj1 (show inR ((k : Int) + 1) from (by intros; (try simp only [zq17] at *); omega))) ?_ ?_
   ·(try dsimp only); omega
   ·show k + 1 ≤ q; omega
  ·skip
   refine zC hG [(2, 0, .elem (strD (((em.map (·.1))).getD k []))), (3, 8, .callG (.c (.d (.b false))) [1, 2, 3, 4, 5, 6, 7, 8] [(0, .box ⟨.raw (.loop { (recOf (bodyOf Tryz.f19) [0, 1, 0, 1, 1, 1, 1, 1, 1, 1, 1] fn tm D) with state := .done, pending := some .ret }), some l⟩ []), (1, .box ⟨.c 35, some b2⟩ [.bx 5 0]), (2, .box ⟨.c 43, some b3⟩ [.d (.i f), .d (.i a), .d (.s (S (encT ms)))]), (3, .box ⟨.c 32, some b4⟩ [.ar 100 0]), (4, .box ⟨.c 47, some b5⟩ [.mp 7]), (5, .box 73 [.d (.i a), .d (.i n), .mp 6]), (6, .box ⟨.mpb (em), none⟩ []), (7, .box ⟨.mpb (tl), none⟩ []), (100, .arr 0 43 3 (([msD a (encT em) f] : List (List V.D))))])] [1, 1, 0, 0, 1, 1] (true) (⟨[(0, [], .c (.d (.v (.func (.yield l) #[] #[])))), (1, [], .c (.bx 0 0)), (10, [], .c (.d (.sl 1 (strs (em.map (·.1)))))), (11, [], .c (.d (.i ((strs (em.map (·.1))).length : Int)))), (12, [], .c (.d (.i (k : Int))))], [(0, .box ⟨.c 35, some b0⟩ [.bx 6 0]), (1, .box ⟨.raw (.loop { (recOf (bodyOf Tryz.f19) [0, 1, 0, 1, 1, 1, 1, 1, 1, 1, 1] fn tm D) with state := .done, pending := some .ret }), some l⟩ []), (2, .box ⟨.c 35, some b2⟩ [.bx 6 0]), (3, .box ⟨.c 43, some b3⟩ [.d (.i f), .d (.i a), .d (.s (S (encT ms)))]), (4, .box ⟨.c 32, some b4⟩ [.ar 408 0]), (5, .box ⟨.c 47, some b5⟩ [.mp 8]), (6, .box 73 [.d (.i a), .d (.i n), .mp 7]), (7, .box ⟨.mpb (em), none⟩ []), (8, .box ⟨.mpb (tl), none⟩ []), (408, .arr 0 43 3 (([msD a (encT em) f] : List (List V.D))))]⟩) (by kernel_rfl) (conjC (show (0 : Int) ≤ (k : Int) ∧ (strs (em.map (·.1)))[k]? = some (strD (((em.map (·.1))).getD k [])) from (by intros; exact map_at (f := strD) [] (by omega) (by (try simp only [zq4] at *); omega))) (conj1 ((tkStop b2 b3 b4 b5 D l fn tm h2 h3 h4 h5 hn a n f em ms tl hem (((em.map (·.1))).getD k []) ((lkM (((em.map (·.1))).getD k []) em).getD false) (key_len hem (by omega)) (hkq ▸ hq3) : YSpec Tryz.prog (Gl g) _ _ _ _ _)))) (fun _ => ?_) (fun hc4 => absurd hc4 (by decide))
   refine zE hG [] .ret (⟨[], [(0, .box ⟨.c 35, some b0⟩ [.bx 6 0]), (1, .box ⟨.raw (.loop { (recOf (bodyOf Tryz.f19) [0, 1, 0, 1, 1, 1, 1, 1, 1, 1, 1] fn tm D) with state := .done, pending := some .ret }), some l⟩ []), (2, .box ⟨.c 35, some b2⟩ [.bx 6 0]), (3, .box ⟨.c 43, some b3⟩ [.d (.i f), .d (.i a), .d (.s (S (encT ms)))]), (4, .box ⟨.c 32, some b4⟩ [.ar 408 0]), (5, .box ⟨.c 47, some b5⟩ [.mp 8]), (6, .box 73 [.d (.i a), .d (.i n), .mp 7]), (7, .box ⟨.mpb (em), none⟩ []), (8, .box ⟨.mpb (tl), none⟩ []), (408, .arr 0 43 3 (([msD a (encT em) f] : List (List V.D))))]⟩) (by kernel_rfl) conj0 rfl ?_
   refine stepRL hG hmix [] [408] (.tup []) [(0, .box ⟨.c 35, some b0⟩ [.bx 6 0]), (1, .box ⟨.raw (.loop { (recOf (bodyOf Tryz.f19) [0, 1, 0, 1, 1, 1, 1, 1, 1, 1, 1] fn tm D) with state := .done, pending := some .ret }), some l⟩ []), (2, .box ⟨.c 35, some b2⟩ [.bx 6 0]), (3, .box ⟨.c 43, some b3⟩ [.d (.i f), .d (.i a), .d (.s (S (encT ms)))]), (4, .box ⟨.c 32, some b4⟩ [.ar 100 0]), (5, .box ⟨.c 47, some b5⟩ [.mp 8]), (6, .box 73 [.d (.i a), .d (.i n), .mp 7]), (7, .box ⟨.mpb (em), none⟩ []), (8, .box ⟨.mpb (tl), none⟩ []), (100, .arr 0 43 3 (([msD a (encT em) f] : List (List V.D))))] (by kernel_rfl) conj0 ?_ ?_
   ·rfl
   ·first | rfl | (funext i; simp only [lookO_cons, upd]; ((repeat' split) <;> first | rfl | (exfalso; omega)))
 ·(try simp only [zq16] at hc2)
  exfalso; omega
theorem take_less (a n f : Int) (es ms : RS) (hes : RsOk n es) (hms : RsOk n ms) (hl : es.length + ms.length ≤ 4000) (hf1 : 1 ≤ f) (hf2 : f ≤ n) (hfa : ¬ f = a) (hmo : moreB es ms = false) :
  SpG g 19 [.c (.bx 0 0), .agg [.d (.i f), .d (.i a), .d (.s (S (encT ms)))]] [(0, .box 73 [.d (.i a), .d (.i n), .mp 1]), (1, .box ⟨.mpb (es), none⟩ [])] (.c (.d (.nil))) [(0, .box 73 [.d (.i a), .d (.i n), .mp 1]), (1, .box ⟨.mpb (jnV es ms), none⟩ [])] := by
 refine enterM 124 Tryz.func19 (by kernel_rfl) fun fr hG => ?_
 refine zC hG [(1, 1, .callG (.c (.d (.b false))) [0, 1] [(0, .box 73 [.d (.i a), .d (.i n), .mp 1]), (1, .box ⟨.mpb (es), none⟩ [])])] [1, 0, 1] ((((!decide ((a : Int) = a)) || (decide ((f : Int) = a))) || (decide ((f : Int) < 1))) || (decide ((f : Int) > n))) (⟨[(2, [], .c (.bx 100 0)), (3, [], .c (.bx 101 0)), (4, [], .c (.bx 102 0))], [(0, .box 73 [.d (.i a), .d (.i n), .mp 1]), (1, .box ⟨.mpb (es), none⟩ []), (100, .box 35 [.bx 0 0]), (101, .box 43 [.d (.i f), .d (.i a), .d (.s (S (encT ms)))]), (102, .box 32 [.d (.nil)])]⟩) (by kernel_rfl) (conj1 ((zero_made a n es : SpG g _ _ _ _ _))) (fun hc1 => ?_) (fun hc1 => ?_)
 ·(try simp only [zq8] at hc1)
  exfalso; simp at hc1; omega
 ·(try simp only [zq8] at hc1)
  refine zL hG [(3, 0, .mask []), (4, 0, .mask [])] [0, 0, 1, 1, 1, 1, 1, 1] (fun (zz : Nat × RS × RS) => match zz with | (k, tl, fd) => (ms.length - k, ⟨[(2, [], .c (.bx 100 0)), (3, [], .c (.bx 101 0)), (4, [], .c (.bx 102 0)), (5, [], .c (.bx 401 0)), (6, [], .c (.mp 500)), (7, [], .c (.bx 607 0)), (8, [], .c (.fn 39 [(607, 0)] []))], [(0, .box 73 [.d (.i a), .d (.i n), .mp 1]), (1, .box ⟨.mpb (es), none⟩ []), (100, .box 35 [.bx 0 0]), (101, .box 43 [.d (.i f), .d (.i a), .d (.s (S (encT ms)))]), (102, .box 32 [.d (.nil)]), (400, .box ⟨.mpb (tl), none⟩ []), (401, .box 47 [.mp 400]), (500, .box ⟨.mpb (fd), none⟩ []), (607, .box 102 [.d (.s (S (encT (ms.drop k)))), .d (.i n)])]⟩, k ≤ ms.length ∧ TlOk ms k tl ∧ fd = ms.take k)) (0, [], []) (by kernel_rfl) conj0 (by kernel_rfl) ?_ ?_
  ·exact ⟨Nat.zero_le _, fun s => by simp [lkM], rfl⟩
  rintro ⟨k, tl, fd⟩ ⟨hk, htl, hfd⟩
  refine zc hG [] [1, 0] (!((S (encT (ms.drop k))).toList == (S []).toList)) (by kernel_rfl) conj0 (fun hc3 => ?_) (fun hc3 => ?_)
  ·(try simp only [zq8] at hc3)
   have hkm : k < ms.length := by
    rcases Nat.lt_or_ge k ms.length with h | h
    ·exact h
    ·exact absurd (enc_ne.2 (List.drop_eq_nil_of_le h)) hc3
   refine zC hG [(8, 1, .call (.tup [(false, [.d (.s (S (ms.getD k ([], false)).1))]), (false, [.d (.b ((ms.getD k ([], false)).2))]), (false, [.d (.b true)])]) [] [[.s (S (encT (ms.drop (k + 1)))), .i n]])] [1, 0, 1, 0, 1] (false) (⟨[(2, [], .c (.bx 100 0)), (3, [], .c (.bx 101 0)), (4, [], .c (.bx 102 0)), (5, [], .c (.bx 401 0)), (6, [], .c (.mp 500)), (7, [], .c (.bx 607 0)), (8, [], .c (.fn 39 [(607, 0)] [])), (9, [], .c (.d (.s (S (ms.getD k ([], false)).1)))), (10, [], .c (.d (.b ((ms.getD k ([], false)).2))))], [(0, .box 73 [.d (.i a), .d (.i n), .mp 1]), (1, .box ⟨.mpb (es), none⟩ []), (100, .box 35 [.bx 0 0]), (101, .box 43 [.d (.i f), .d (.i a), .d (.s (S (encT ms)))]), (102, .box 32 [.d (.nil)]), (400, .box ⟨.mpb (tl), none⟩ []), (401, .box 47 [.mp 400]), (500, .box ⟨.mpb (fd), none⟩ []), (607, .box 102 [.d (.s (S (encT (ms.drop (k + 1))))), .d (.i n)])]⟩) (by kernel_rfl) (conj1 ((next_at hms hkm : SpG g _ _ _ _ _))) (fun hc4 => absurd hc4 (by decide)) (fun _ => ?_)
   refine zD hG [(11, 3, .call (.c (.d (.s (S (lineT ((ms.getD k ([], false)).1) ((ms.getD k ([], false)).2)))))) [] [])] (k + 1, updM ltS (lineT ((ms.getD k ([], false)).1) ((ms.getD k ([], false)).2)) true tl, updM ltS ((ms.getD k ([], false)).1) (((lkM ((ms.getD k ([], false)).1) fd).getD false) || ((ms.getD k ([], false)).2)) fd) (by kernel_rfl) (conj1 ((line_ok ((ms.getD k ([], false)).1) ((ms.getD k ([], false)).2) (by exact hms.tlen (getD_mem hkm)) : SpG g _ _ _ _ _))) ?_ ?_
   ·(try dsimp only); omega
   ·exact take_st hms hkm htl hfd
  ·(try simp only [zq8] at hc3)
   have hkm : k = ms.length := by
    have h0 := enc_ne.1 hc3
    have := congrArg List.length h0
    rw [List.length_drop, List.length_nil] at this; omega
   subst hkm
   rw [List.take_length] at hfd
   refine zE hG [] (.exit 0) (⟨[(2, [], .c (.bx 100 0)), (3, [], .c (.bx 101 0)), (4, [], .c (.bx 102 0)), (5, [], .c (.bx 401 0)), (6, [], .c (.mp 500))], [(0, .box 73 [.d (.i a), .d (.i n), .mp 1]), (1, .box ⟨.mpb (es), none⟩ []), (100, .box 35 [.bx 0 0]), (101, .box 43 [.d (.i f), .d (.i a), .d (.s (S (encT ms)))]), (102, .box 32 [.d (.nil)]), (400, .box ⟨.mpb (tl), none⟩ []), (401, .box 47 [.mp 400]), (500, .box ⟨.mpb (fd), none⟩ [])]⟩) (by kernel_rfl) conj0 rfl ?_
   refine openB (i := 500) rfl fun ents clock hM => ?_
   refine zL hG [] [0, 1, 0, 1, 1, 1, 1, 1, 1, 1] (fun (zz : RS × Array Nat × RS) => match zz with | (vis, seen, em) => (fd.length - vis.length, ⟨[(2, [], .c (.bx 100 0)), (3, [], .c (.bx 101 0)), (4, [], .c (.bx 102 0)), (5, [], .c (.bx 401 0)), (84, [], .c (.bx 1401 0))], [(0, .box 73 [.d (.i a), .d (.i n), .mp 1]), (1, .box ⟨.mpb (em), none⟩ []), (100, .box 35 [.bx 0 0]), (101, .box 43 [.d (.i f), .d (.i a), .d (.s (S (encT ms)))]), (102, .box 32 [.d (.nil)]), (400, .box ⟨.mpb (tl), none⟩ []), (401, .box 47 [.mp 400]), (500, .box ⟨.raw (.map ents clock), none⟩ []), (1401, .box ⟨.itr clock seen clock, none⟩ [.mp 500])]⟩, RngB ents vis seen ∧ em = jnV es vis ∧ vis.length ≤ fd.length)) ([], #[], es) (by kernel_rfl) conj0 (by kernel_rfl) ?_ ?_
   ·exact ⟨RngB.nil ents, rfl, Nat.zero_le _⟩
   rintro ⟨vis, seen, em⟩ ⟨hrg, hem, hvl⟩
   refine stepN hmix 1 (pos' := [0]) (by kernel_rfl) ?_
   refine nextR (it := 84) (nx := 85) (more := 86) (i := 500) (j := 1401) (ents := ents) (clock := clock) (by kernel_rfl) (by kernel_rfl) (by kernel_rfl) (by kernel_rfl) rfl rfl (fun x hx => hM.lt x hx) (Nat.le_refl _) (fun hall => ?_) (fun ev hev hnew => ?_)
   ·have hful := RngB.full hM hrg hall
    have hemj : em = jnV es ms := by rw [hem]; exact hfd ▸ jn_perm hes.sort (hfd ▸ hms.sort) hful
    have hemr : RsOk n em := by rw [hemj]; exact jn_rs hes hms hl
    refine shutB (i := 500) (q := none) (cells := []) (ents := ents) (clock := clock) (es := fd) rfl hM ?_
    refine zC hG [] [0, 1] (false) (⟨[(2, [], .c (.bx 100 0)), (3, [], .c (.bx 101 0)), (4, [], .c (.bx 102 0)), (5, [], .c (.bx 401 0)), (84, [], .c (.bx 1401 0))], [(0, .box 73 [.d (.i a), .d (.i n), .mp 1]), (1, .box ⟨.mpb (em), none⟩ []), (100, .box 35 [.bx 0 0]), (101, .box 43 [.d (.i f), .d (.i a), .d (.s (S (encT ms)))]), (102, .box 32 [.d (.nil)]), (400, .box ⟨.mpb (tl), none⟩ []), (401, .box 47 [.mp 400]), (500, .box ⟨.mpb (fd), none⟩ []), (1401, .box ⟨.itr clock seen clock, none⟩ [.mp 500])]⟩) (by kernel_rfl) conj0 (fun hc6 => absurd hc6 (by decide)) (fun _ => ?_)
    refine zE hG [] (.exit 2) (⟨[(2, [], .c (.bx 100 0)), (3, [], .c (.bx 101 0)), (4, [], .c (.bx 102 0)), (5, [], .c (.bx 401 0))], [(0, .box 73 [.d (.i a), .d (.i n), .mp 1]), (1, .box ⟨.mpb (em), none⟩ []), (100, .box 35 [.bx 0 0]), (101, .box 43 [.d (.i f), .d (.i a), .d (.s (S (encT ms)))]), (102, .box 32 [.d (.nil)]), (400, .box ⟨.mpb (tl), none⟩ []), (401, .box 47 [.mp 400])]⟩) (by kernel_rfl) conj0 rfl ?_
    refine stepL hG hmix [(17, 1, .callG (.c (.fn 58 [] [(100, 0)])) [0, 1] [(0, .box 73 [.d (.i a), .d (.i n), .mp 1]), (1, .box ⟨.mpb (em), none⟩ []), (100, .box 35 [.bx 0 0])])] [0, 1, 0, 1, 1, 1, 1, 1, 1, 1, 1] (⟨[(2, [], .c (.bx 100 0)), (3, [], .c (.bx 101 0)), (4, [], .c (.bx 102 0)), (5, [], .c (.bx 401 0)), (105, [], .c (.fn 58 [] [(1801, 0)]))], [(0, .box 73 [.d (.i a), .d (.i n), .mp 1]), (1, .box ⟨.mpb (em), none⟩ []), (100, .box 35 [.bx 0 0]), (101, .box 43 [.d (.i f), .d (.i a), .d (.s (S (encT ms)))]), (102, .box 32 [.d (.nil)]), (400, .box ⟨.mpb (tl), none⟩ []), (401, .box 47 [.mp 400]), (1801, .box 35 [.bx 0 0])]⟩) _ (by kernel_rfl) (conj1 ((ordered_ok a n em : SpG g _ _ _ _ _))) ?_
    refine rangeR (g := 105) (ps := rgP (bodyOf Tryz.f19) [0, 1, 0, 1, 1, 1, 1, 1, 1, 1, 1]) (assign := rgA (bodyOf Tryz.f19) [0, 1, 0, 1, 1, 1, 1, 1, 1, 1, 1]) (body := rgB (bodyOf Tryz.f19) [0, 1, 0, 1, 1, 1, 1, 1, 1, 1, 1]) hG (by kernel_rfl) 9900 9901 9910 (by kernel_rfl) rfl (by kernel_rfl) fun b D l fn tm hT hn => ?_
    refine ⟨.tup [], [1801, 9901, 100, 101, 102, 401, 0, 1, 400], [(0, .box ⟨.c 35, some (b 1801)⟩ [.bx 6 0]), (1, .box ⟨.raw (.loop (recOf (bodyOf Tryz.f19) [0, 1, 0, 1, 1, 1, 1, 1, 1, 1, 1] fn tm D)), some l⟩ []), (2, .box ⟨.c 35, some (b 100)⟩ [.bx 6 0]), (3, .box ⟨.c 43, some (b 101)⟩ [.d (.i f), .d (.i a), .d (.s (S (encT ms)))]), (4, .box ⟨.c 32, some (b 102)⟩ [.d (.nil)]), (5, .box ⟨.c 47, some (b 401)⟩ [.mp 8]), (6, .box 73 [.d (.i a), .d (.i n), .mp 7]), (7, .box ⟨.mpb (em), none⟩ []), (8, .box ⟨.mpb (tl), none⟩ [])], none, ⟨[(4, [], .c (.bx 102 0))], [(0, .box 73 [.d (.i a), .d (.i n), .mp 1]), (1, .box ⟨.mpb (em), none⟩ []), (102, .box ⟨.c 32, some (b 102)⟩ [.d (.nil)]), (9900, .box ⟨.raw (.deferred (some [])), some D⟩ [])]⟩, _, .normal, by kernel_rfl, conj1 (tkItA (b 1801) (b 0) (b 1) (b 400) (b 100) (b 101) (b 102) (b 401) D l fn tm (hT.bx 2 100 0 rfl) (hT.bx 3 101 0 rfl) (hT.bx 4 102 0 rfl) (hT.bx 5 401 0 rfl) hn a n f em ms tl hemr (told_all (n := n) hemj htl hemr.sort hmo) : SpG g _ _ _ _ _), rfl, ?_⟩
    have hG0 := hG
    replace hG := marked_is (D := D) hG
    refine stepU [0, 1, 102] (⟨[(4, [], .c (.bx 102 0))], [(0, .box 73 [.d (.i a), .d (.i n), .mp 1]), (1, .box ⟨.mpb (em), none⟩ []), (102, .box 32 [.d (.nil)]), (9900, .box ⟨.raw (.deferred (some [])), some D⟩ [])]⟩) (by kernel_rfl) ?_
    refine stepRM hG0 hmix [] [] 9900 (.c (.d (.nil))) [(0, .box 73 [.d (.i a), .d (.i n), .mp 1]), (1, .box ⟨.mpb (em), none⟩ [])] (by kernel_rfl) conj0 ?_ ?_
    ·rfl
    ·rw [← hemj]
     all_goals (first | rfl | (funext i; simp only [lookO_cons, upd]; ((repeat' split) <;> first | rfl | (exfalso; omega))))
   ·obtain ⟨ek, eb, hek, hev2, hin, hrg2, hln2, hent⟩ := RngB.step hM hrg hev hnew
    refine zC hG [] [0, 1] (true) (⟨[(2, [], .c (.bx 100 0)), (3, [], .c (.bx 101 0)), (4, [], .c (.bx 102 0)), (5, [], .c (.bx 401 0)), (84, [], .c (.bx 1401 0))], [(0, .box 73 [.d (.i a), .d (.i n), .mp 1]), (1, .box ⟨.mpb (em), none⟩ []), (100, .box 35 [.bx 0 0]), (101, .box 43 [.d (.i f), .d (.i a), .d (.s (S (encT ms)))]), (102, .box 32 [.d (.nil)]), (400, .box ⟨.mpb (tl), none⟩ []), (401, .box 47 [.mp 400]), (500, .box ⟨.raw (.map ents clock), none⟩ []), (1401, .box ⟨.itr clock (seen.push ev.born) clock, none⟩ [.mp 500])]⟩) (by kernel_rfl) conj0 (fun _ => ?_) (fun hc7 => absurd hc7 (by decide))
    refine zD hG [(15, 0, .elem [.v (.string (S ek)), .v (.bool eb)])] (vis ++ [(ek, eb)], seen.push ev.born, updM ltS ek (((lkM ek em).getD false) || eb) em) (by kernel_rfl) (conj1 (hent)) ?_ ?_
    ·(try dsimp only); rw [List.length_append, List.length_cons, List.length_nil] at *; omega
    ·exact ⟨hrg2, by rw [jn_snoc, hem], hln2⟩
theorem take_more (a n f : Int) (es ms : RS) (hes : RsOk n es) (hms : RsOk n ms) (hl : es.length + ms.length ≤ 4000) (hf1 : 1 ≤ f) (hf2 : f ≤ n) (hfa : ¬ f = a) (hmo : moreB es ms = true) :
  SpG g 19 [.c (.bx 0 0), .agg [.d (.i f), .d (.i a), .d (.s (S (encT ms)))]] [(0, .box 73 [.d (.i a), .d (.i n), .mp 1]), (1, .box ⟨.mpb (es), none⟩ [])] (.c (.d (.sl 3 (([msD a (encT (jnV es ms)) f] : List (List V.D)))))) [(0, .box 73 [.d (.i a), .d (.i n), .mp 1]), (1, .box ⟨.mpb (jnV es ms), none⟩ [])] := by
 refine enterM 124 Tryz.func19 (by kernel_rfl) fun fr hG => ?_
 refine zC hG [(1, 1, .callG (.c (.d (.b false))) [0, 1] [(0, .box 73 [.d (.i a), .d (.i n), .mp 1]), (1, .box ⟨.mpb (es), none⟩ [])])] [1, 0, 1] ((((!decide ((a : Int) = a)) || (decide ((f : Int) = a))) || (decide ((f : Int) < 1))) || (decide ((f : Int) > n))) (⟨[(2, [], .c (.bx 100 0)), (3, [], .c (.bx 101 0)), (4, [], .c (.bx 102 0))], [(0, .box 73 [.d (.i a), .d (.i n), .mp 1]), (1, .box ⟨.mpb (es), none⟩ []), (100, .box 35 [.bx 0 0]), (101, .box 43 [.d (.i f), .d (.i a), .d (.s (S (encT ms)))]), (102, .box 32 [.d (.nil)])]⟩) (by kernel_rfl) (conj1 ((zero_made a n es : SpG g _ _ _ _ _))) (fun hc1 => ?_) (fun hc1 => ?_)
 ·(try simp only [zq8] at hc1)
  exfalso; simp at hc1; omega
 ·(try simp only [zq8] at hc1)
  refine zL hG [(3, 0, .mask []), (4, 0, .mask [])] [0, 0, 1, 1, 1, 1, 1, 1] (fun (zz : Nat × RS × RS) => match zz with | (k, tl, fd) => (ms.length - k, ⟨[(2, [], .c (.bx 100 0)), (3, [], .c (.bx 101 0)), (4, [], .c (.bx 102 0)), (5, [], .c (.bx 401 0)), (6, [], .c (.mp 500)), (7, [], .c (.bx 607 0)), (8, [], .c (.fn 39 [(607, 0)] []))], [(0, .box 73 [.d (.i a), .d (.i n), .mp 1]), (1, .box ⟨.mpb (es), none⟩ []), (100, .box 35 [.bx 0 0]), (101, .box 43 [.d (.i f), .d (.i a), .d (.s (S (encT ms)))]), (102, .box 32 [.d (.nil)]), (400, .box ⟨.mpb (tl), none⟩ []), (401, .box 47 [.mp 400]), (500, .box ⟨.mpb (fd), none⟩ []), (607, .box 102 [.d (.s (S (encT (ms.drop k)))), .d (.i n)])]⟩, k ≤ ms.length ∧ TlOk ms k tl ∧ fd = ms.take k)) (0, [], []) (by kernel_rfl) conj0 (by kernel_rfl) ?_ ?_
  ·exact ⟨Nat.zero_le _, fun s => by simp [lkM], rfl⟩
  rintro ⟨k, tl, fd⟩ ⟨hk, htl, hfd⟩
  refine zc hG [] [1, 0] (!((S (encT (ms.drop k))).toList == (S []).toList)) (by kernel_rfl) conj0 (fun hc3 => ?_) (fun hc3 => ?_)
  ·(try simp only [zq8] at hc3)
   have hkm : k < ms.length := by
    rcases Nat.lt_or_ge k ms.length with h | h
    ·exact h
    ·exact absurd (enc_ne.2 (List.drop_eq_nil_of_le h)) hc3
   refine zC hG [(8, 1, .call (.tup [(false, [.d (.s (S (ms.getD k ([], false)).1))]), (false, [.d (.b ((ms.getD k ([], false)).2))]), (false, [.d (.b true)])]) [] [[.s (S (encT (ms.drop (k + 1)))), .i n]])] [1, 0, 1, 0, 1] (false) (⟨[(2, [], .c (.bx 100 0)), (3, [], .c (.bx 101 0)), (4, [], .c (.bx 102 0)), (5, [], .c (.bx 401 0)), (6, [], .c (.mp 500)), (7, [], .c (.bx 607 0)), (8, [], .c (.fn 39 [(607, 0)] [])), (9, [], .c (.d (.s (S (ms.getD k ([], false)).1)))), (10, [], .c (.d (.b ((ms.getD k ([], false)).2))))], [(0, .box 73 [.d (.i a), .d (.i n), .mp 1]), (1, .box ⟨.mpb (es), none⟩ []), (100, .box 35 [.bx 0 0]), (101, .box 43 [.d (.i f), .d (.i a), .d (.s (S (encT ms)))]), (102, .box 32 [.d (.nil)]), (400, .box ⟨.mpb (tl), none⟩ []), (401, .box 47 [.mp 400]), (500, .box ⟨.mpb (fd), none⟩ []), (607, .box 102 [.d (.s (S (encT (ms.drop (k + 1))))), .d (.i n)])]⟩) (by kernel_rfl) (conj1 ((next_at hms hkm : SpG g _ _ _ _ _))) (fun hc4 => absurd hc4 (by decide)) (fun _ => ?_)
   refine zD hG [(11, 3, .call (.c (.d (.s (S (lineT ((ms.getD k ([], false)).1) ((ms.getD k ([], false)).2)))))) [] [])] (k + 1, updM ltS (lineT ((ms.getD k ([], false)).1) ((ms.getD k ([], false)).2)) true tl, updM ltS ((ms.getD k ([], false)).1) (((lkM ((ms.getD k ([], false)).1) fd).getD false) || ((ms.getD k ([], false)).2)) fd) (by kernel_rfl) (conj1 ((line_ok ((ms.getD k ([], false)).1) ((ms.getD k ([], false)).2) (by exact hms.tlen (getD_mem hkm)) : SpG g _ _ _ _ _))) ?_ ?_
   ·(try dsimp only); omega
   ·exact take_st hms hkm htl hfd
  ·(try simp only [zq8] at hc3)
   have hkm : k = ms.length := by
    have h0 := enc_ne.1 hc3
    have := congrArg List.length h0
    rw [List.length_drop, List.length_nil] at this; omega
   subst hkm
   rw [List.take_length] at hfd
   refine zE hG [] (.exit 0) (⟨[(2, [], .c (.bx 100 0)), (3, [], .c (.bx 101 0)), (4, [], .c (.bx 102 0)), (5, [], .c (.bx 401 0)), (6, [], .c (.mp 500))], [(0, .box 73 [.d (.i a), .d (.i n), .mp 1]), (1, .box ⟨.mpb (es), none⟩ []), (100, .box 35 [.bx 0 0]), (101, .box 43 [.d (.i f), .d (.i a), .d (.s (S (encT ms)))]), (102, .box 32 [.d (.nil)]), (400, .box ⟨.mpb (tl), none⟩ []), (401, .box 47 [.mp 400]), (500, .box ⟨.mpb (fd), none⟩ [])]⟩) (by kernel_rfl) conj0 rfl ?_
   refine openB (i := 500) rfl fun ents clock hM => ?_
   refine zL hG [] [0, 1, 0, 1, 1, 1, 1, 1, 1, 1] (fun (zz : RS × Array Nat × RS) => match zz with | (vis, seen, em) => (fd.length - vis.length, ⟨[(2, [], .c (.bx 100 0)), (3, [], .c (.bx 101 0)), (4, [], .c (.bx 102 0)), (5, [], .c (.bx 401 0)), (84, [], .c (.bx 1401 0))], [(0, .box 73 [.d (.i a), .d (.i n), .mp 1]), (1, .box ⟨.mpb (em), none⟩ []), (100, .box 35 [.bx 0 0]), (101, .box 43 [.d (.i f), .d (.i a), .d (.s (S (encT ms)))]), (102, .box 32 [.d (.nil)]), (400, .box ⟨.mpb (tl), none⟩ []), (401, .box 47 [.mp 400]), (500, .box ⟨.raw (.map ents clock), none⟩ []), (1401, .box ⟨.itr clock seen clock, none⟩ [.mp 500])]⟩, RngB ents vis seen ∧ em = jnV es vis ∧ vis.length ≤ fd.length)) ([], #[], es) (by kernel_rfl) conj0 (by kernel_rfl) ?_ ?_
   ·exact ⟨RngB.nil ents, rfl, Nat.zero_le _⟩
   rintro ⟨vis, seen, em⟩ ⟨hrg, hem, hvl⟩
   refine stepN hmix 1 (pos' := [0]) (by kernel_rfl) ?_
   refine nextR (it := 84) (nx := 85) (more := 86) (i := 500) (j := 1401) (ents := ents) (clock := clock) (by kernel_rfl) (by kernel_rfl) (by kernel_rfl) (by kernel_rfl) rfl rfl (fun x hx => hM.lt x hx) (Nat.le_refl _) (fun hall => ?_) (fun ev hev hnew => ?_)
   ·have hful := RngB.full hM hrg hall
    have hemj : em = jnV es ms := by rw [hem]; exact hfd ▸ jn_perm hes.sort (hfd ▸ hms.sort) hful
    have hemr : RsOk n em := by rw [hemj]; exact jn_rs hes hms hl
    obtain ⟨q, hq1, hq2, hq3⟩ := told_not (n := n) hemj htl hemr.sort hmo
    refine shutB (i := 500) (q := none) (cells := []) (ents := ents) (clock := clock) (es := fd) rfl hM ?_
    refine zC hG [] [0, 1] (false) (⟨[(2, [], .c (.bx 100 0)), (3, [], .c (.bx 101 0)), (4, [], .c (.bx 102 0)), (5, [], .c (.bx 401 0)), (84, [], .c (.bx 1401 0))], [(0, .box 73 [.d (.i a), .d (.i n), .mp 1]), (1, .box ⟨.mpb (em), none⟩ []), (100, .box 35 [.bx 0 0]), (101, .box 43 [.d (.i f), .d (.i a), .d (.s (S (encT ms)))]), (102, .box 32 [.d (.nil)]), (400, .box ⟨.mpb (tl), none⟩ []), (401, .box 47 [.mp 400]), (500, .box ⟨.mpb (fd), none⟩ []), (1401, .box ⟨.itr clock seen clock, none⟩ [.mp 500])]⟩) (by kernel_rfl) conj0 (fun hc6 => absurd hc6 (by decide)) (fun _ => ?_)
    refine zE hG [] (.exit 2) (⟨[(2, [], .c (.bx 100 0)), (3, [], .c (.bx 101 0)), (4, [], .c (.bx 102 0)), (5, [], .c (.bx 401 0))], [(0, .box 73 [.d (.i a), .d (.i n), .mp 1]), (1, .box ⟨.mpb (em), none⟩ []), (100, .box 35 [.bx 0 0]), (101, .box 43 [.d (.i f), .d (.i a), .d (.s (S (encT ms)))]), (102, .box 32 [.d (.nil)]), (400, .box ⟨.mpb (tl), none⟩ []), (401, .box 47 [.mp 400])]⟩) (by kernel_rfl) conj0 rfl ?_
    refine stepL hG hmix [(17, 1, .callG (.c (.fn 58 [] [(100, 0)])) [0, 1] [(0, .box 73 [.d (.i a), .d (.i n), .mp 1]), (1, .box ⟨.mpb (em), none⟩ []), (100, .box 35 [.bx 0 0])])] [0, 1, 0, 1, 1, 1, 1, 1, 1, 1, 1] (⟨[(2, [], .c (.bx 100 0)), (3, [], .c (.bx 101 0)), (4, [], .c (.bx 102 0)), (5, [], .c (.bx 401 0)), (105, [], .c (.fn 58 [] [(1801, 0)]))], [(0, .box 73 [.d (.i a), .d (.i n), .mp 1]), (1, .box ⟨.mpb (em), none⟩ []), (100, .box 35 [.bx 0 0]), (101, .box 43 [.d (.i f), .d (.i a), .d (.s (S (encT ms)))]), (102, .box 32 [.d (.nil)]), (400, .box ⟨.mpb (tl), none⟩ []), (401, .box 47 [.mp 400]), (1801, .box 35 [.bx 0 0])]⟩) _ (by kernel_rfl) (conj1 ((ordered_ok a n em : SpG g _ _ _ _ _))) ?_
    refine rangeR (g := 105) (ps := rgP (bodyOf Tryz.f19) [0, 1, 0, 1, 1, 1, 1, 1, 1, 1, 1]) (assign := rgA (bodyOf Tryz.f19) [0, 1, 0, 1, 1, 1, 1, 1, 1, 1, 1]) (body := rgB (bodyOf Tryz.f19) [0, 1, 0, 1, 1, 1, 1, 1, 1, 1, 1]) hG (by kernel_rfl) 9900 9901 9910 (by kernel_rfl) rfl (by kernel_rfl) fun b D l fn tm hT hn => ?_
    refine ⟨.tup [], [1801, 9901, 100, 101, 102, 401, 0, 1, 400], [(0, .box ⟨.c 35, some (b 1801)⟩ [.bx 6 0]), (1, .box ⟨.raw (.loop { (recOf (bodyOf Tryz.f19) [0, 1, 0, 1, 1, 1, 1, 1, 1, 1, 1] fn tm D) with state := .done, pending := some .ret }), some l⟩ []), (2, .box ⟨.c 35, some (b 100)⟩ [.bx 6 0]), (3, .box ⟨.c 43, some (b 101)⟩ [.d (.i f), .d (.i a), .d (.s (S (encT ms)))]), (4, .box ⟨.c 32, some (b 102)⟩ [.ar 100 0]), (5, .box ⟨.c 47, some (b 401)⟩ [.mp 8]), (6, .box 73 [.d (.i a), .d (.i n), .mp 7]), (7, .box ⟨.mpb (em), none⟩ []), (8, .box ⟨.mpb (tl), none⟩ []), (100, .arr 0 43 3 (([msD a (encT em) f] : List (List V.D))))], (some .ret), ⟨[(4, [], .c (.bx 102 0))], [(0, .box 73 [.d (.i a), .d (.i n), .mp 1]), (1, .box ⟨.mpb (em), none⟩ []), (102, .box ⟨.c 32, some (b 102)⟩ [.ar 9910 0]), (9900, .box ⟨.raw (.deferred (some [])), some D⟩ []), (9910, .arr 0 43 3 (([msD a (encT em) f] : List (List V.D))))]⟩, _, .ret, by kernel_rfl, conj1 (tkItB (b 1801) (b 0) (b 1) (b 400) (b 100) (b 101) (b 102) (b 401) D l fn tm (hT.bx 2 100 0 rfl) (hT.bx 3 101 0 rfl) (hT.bx 4 102 0 rfl) (hT.bx 5 401 0 rfl) hn a n f em ms tl hemr q hq1 hq2 hq3 : SpG g _ _ _ _ _), rfl, ?_⟩
    have hG0 := hG
    replace hG := marked_is (D := D) hG
    refine stepU [0, 1, 102] (⟨[(4, [], .c (.bx 102 0))], [(0, .box 73 [.d (.i a), .d (.i n), .mp 1]), (1, .box ⟨.mpb (em), none⟩ []), (102, .box 32 [.ar 9910 0]), (9900, .box ⟨.raw (.deferred (some [])), some D⟩ []), (9910, .arr 0 43 3 (([msD a (encT em) f] : List (List V.D))))]⟩) (by kernel_rfl) ?_
    refine stepRM hG0 hmix [] [] 9900 (.c (.d (.sl 3 (([msD a (encT em) f] : List (List V.D)))))) [(0, .box 73 [.d (.i a), .d (.i n), .mp 1]), (1, .box ⟨.mpb (em), none⟩ [])] (by kernel_rfl) conj0 ?_ ?_
    ·rw [hemj]
    ·rw [← hemj]
     all_goals (first | rfl | (funext i; simp only [lookO_cons, upd]; ((repeat' split) <;> first | rfl | (exfalso; omega))))
   ·obtain ⟨ek, eb, hek, hev2, hin, hrg2, hln2, hent⟩ := RngB.step hM hrg hev hnew
    refine zC hG [] [0, 1] (true) (⟨[(2, [], .c (.bx 100 0)), (3, [], .c (.bx 101 0)), (4, [], .c (.bx 102 0)), (5, [], .c (.bx 401 0)), (84, [], .c (.bx 1401 0))], [(0, .box 73 [.d (.i a), .d (.i n), .mp 1]), (1, .box ⟨.mpb (em), none⟩ []), (100, .box 35 [.bx 0 0]), (101, .box 43 [.d (.i f), .d (.i a), .d (.s (S (encT ms)))]), (102, .box 32 [.d (.nil)]), (400, .box ⟨.mpb (tl), none⟩ []), (401, .box 47 [.mp 400]), (500, .box ⟨.raw (.map ents clock), none⟩ []), (1401, .box ⟨.itr clock (seen.push ev.born) clock, none⟩ [.mp 500])]⟩) (by kernel_rfl) conj0 (fun _ => ?_) (fun hc7 => absurd hc7 (by decide))
    refine zD hG [(15, 0, .elem [.v (.string (S ek)), .v (.bool eb)])] (vis ++ [(ek, eb)], seen.push ev.born, updM ltS ek (((lkM ek em).getD false) || eb) em) (by kernel_rfl) (conj1 (hent)) ?_ ?_
    ·(try dsimp only); rw [List.length_append, List.length_cons, List.length_nil] at *; omega
    ·exact ⟨hrg2, by rw [jn_snoc, hem], hln2⟩
end Go.Proofs.YtclaplngjmgnoaaGreatDoor
