/- Part 47 of the proof: texts V33e, V33f, V33g, V33h, V33i, V33j, V33k, V33l, U34a. -/
import Derived.Test.YtclaplngjmgnoaaGreatDoorP29
import Derived.Test.YtclaplngjmgnoaaGreatDoorP46
import Derived.Shelf.SlIter.Nil
import Derived.Shelf.SortM.Plain
import Derived.Shelf.SortM.SortNone
import Derived.Ground.GgzProg
import Derived.Ground.SlgmProg
import Derived.Maps.Own
set_option linter.all false
namespace Go.Proofs.YtclaplngjmgnoaaGreatDoor
open Go.RowKit Go.V
open Go.Eng (inR byteAt u8 dS)
variable {g : Gv}
theorem aET {fr : Fr} {own : V.Own} {w w' : World} {pl : Pl} {e : TypeId} {v : Value} {xs : List Value} (m : Mem fr own w pl) (hw : fr.w0 = w) (hown : w'.ownsRow w.heap.size e 1 v xs.length xs) (h1 : ∀ x ∈ xs, x.oneCell' = true) : COk w' pl own (cM 1 (xs.map fun x => [.v x])) v := by
 have hfl : ∀ xs : List Value, (xs.map fun x => [D.v x]).flatten = xs.map D.v := by
  intro xs
  induction xs with
  | nil => rfl
  | cons x r ih => simp only [List.map_cons, List.flatten_cons, ih]; rfl
 have hr : ∀ {F : Nat -> Prop} (xs : List Value), (∀ x ∈ xs, x.oneCell' = true) -> All2 (Rd w' F) (xs.map D.v) xs := by
  intro F xs
  induction xs with
  | nil => intro _; exact All2.nil
  | cons x r ih => intro h; exact All2.cons (.v _ (h x (by simp))) (ih fun y hy => h y (by simp [hy]))
 have hs : ∀ ds, ds ∈ (xs.map fun x => [D.v x]) -> ds.length = 1 := by
  intro ds hd
  obtain ⟨x, _, rfl⟩ := List.mem_map.1 hd
  rfl
 obtain ⟨A, c, rfl⟩ : ∃ A c, v = .slice A xs.length c := by
  rcases hown.2 with ⟨rfl, h0⟩ | ⟨q, cap, cur, rfl, _⟩
  exact ⟨_, _, by rw [h0]⟩
  exact ⟨_, _, rfl⟩
 have := nC (w := w') (B := w.heap.size) (e := e) (sz := 1) (es := xs.map fun x => [.v x]) (A := A) (c := c) (xs := xs) (by rw [List.length_map]; exact hown) (F := Sh pl own) (fun b hb => by
  rcases hown.2 with ⟨hv, h0⟩ | ⟨q, cap, cur, hv, hB, _⟩
  injection hv with h2; rw [h2] at hb; cases hb
  injection hv with h2
  rw [h2] at hb
  simp only [Option.map_some, oIQ] at hb
  subst hb
  refine ⟨(m.hS _).2 (.inr (by rw [hw]; exact hB)), fun i hi => ?_⟩
  have := m.blk_lt hi
  have hB : w.heap.size <= q := hB
  omega) (by rw [hfl]; exact hr xs h1) hs
 rw [List.length_map] at this
 exact this
theorem qE {f : FuncId} {xs : List Value} {e : TypeId} (h1 : ∀ x ∈ xs, x.oneCell' = true) (hl : xs.length <= 1000000)
  (hnil : ∀ w : World, Calls Tryz.prog f #[.slice none 0 0] w fun e' w' => e' = .returned (.slice none 0 0) /\ w' = w)
  (hfar : ∀ (a : Addr) (w : World), Calls Tryz.prog f #[.slice (some a) 0 0] w fun e' w' => ∃ v', e' = .returned v' /\ w'.ownsRow w.heap.size e 1 v' 0 [] /\ v' ≠ .slice none 0 0 /\ Below w.heap.size w w')
  (hsl : ∀ (b off c : Nat) (w : World), (∀ (j : Nat) (x : Value), xs[j]? = some x -> w.cell? ⟨b, off + j, none⟩ = some x) -> Calls Tryz.prog f #[.slice (some ⟨b, off, none⟩) xs.length c] w fun e' w' => ∃ v', e' = .returned v' /\ w'.ownsRow w.heap.size e 1 v' xs.length xs /\ v' ≠ .slice none 0 0 /\ Below w.heap.size w w') :
  SpG g f [.c (cM 1 (xs.map fun x => [.v x]))] [] (.c (cM 1 (xs.map fun x => [.v x]))) [] := by
 intro fr w pl args hw hG m ha
 obtain ⟨v, r, rfl, h2, h3⟩ := ha.uncons
 rw [h3.unnil]
 have fin : ∀ {e' : Ending} {w' : World}, (∃ v', e' = .returned v' /\ w'.ownsRow w.heap.size e 1 v' xs.length xs /\ Below w.heap.size w w') -> ∃ v' pl', e' = .returned v' /\ Mem fr (lookO []) w' pl' /\ aR w' pl' (lookO []) (.c (cM 1 (xs.map fun x => [.v x]))) v' := by
  rintro e' w' ⟨v', rfl, ho, hb⟩
  obtain ⟨m', L⟩ := m.ext (w' := w') ⟨hb.os, hb.tape, hb.output, hb.size, fun k hk _ => hb.block k hk⟩
  exact ⟨_, pl, rfl, m', aET m hw ho h1⟩
 have h2 : Rd w (Sh pl (lookO [])) (.sl 1 (xs.map fun x => [.v x])) v := h2
 generalize hes : (xs.map fun x => [D.v x]) = es at h2
 cases h2 with
 | nil =>
  have : xs = [] := by simpa using hes
  subst this
  refine (hnil w).mono ?_
  rintro e' w' ⟨rfl, rfl⟩
  obtain ⟨v', pl', h4, h5, h6⟩ := fin (e' := .returned (.slice none 0 0)) ⟨_, rfl, World.ownsRow_nil _ _ _ _, Below.refl _ _⟩
  rw [<- hes]; exact ⟨v', pl', h4, h5, h6⟩
 | far _ ad =>
  have : xs = [] := by simpa using hes
  subst this
  refine (hfar ad w).mono ?_
  rintro e' w' ⟨v', rfl, ho, _, hb⟩
  rw [<- hes]
  exact fin ⟨_, rfl, ho, hb⟩
 | sl us hF hb hc hm hs hu hr =>
  rename_i b off c cs e0 fz
  subst hes
  have hlen : (xs.map fun x => [D.v x]).length = xs.length := by simp
  rw [hlen]
  refine (hsl b off c w fun j x hx => ?_).mono ?_
  have a1 : (xs.map fun x => [D.v x])[j]? = some [.v x] := by simp [hx]
  have a2 := hu j 0 _ _ a1 rfl
  have a3 := Rd.exact (hr j 0 _ _ a1 rfl)
  rw [a3] at a2
  rw [Lib.cell_of_heap hb]
  simpa using a2
  rintro e' w' ⟨v', rfl, ho, _, hbl⟩
  exact fin ⟨_, rfl, ho, hbl⟩
theorem aIL (l : List Int) : (l.map (Value.int .i64)).map (fun x => [D.v x]) = intsD l := by rw [List.map_map]; rfl
theorem aI4 (l : List Int) (hl : l.length <= 1000000) : SpG g 98 [.c (cM 1 (intsD l))] [] (.c (cM 1 (intsD l))) [] := by
 rw [<- aIL]
 refine qE (e := 3) (fun x hx => by obtain ⟨z, _, rfl⟩ := List.mem_map.1 hx; rfl) (by rw [List.length_map]; exact hl) (fun w => Tryz.slices_Clone_int_nil 0 0 w) (fun a w => Tryz.slices_Clone_int_zero a 0 w) fun b off c w h => ?_
 have := Tryz.slices_Clone_int b off l.length c l w (Nat.le_refl _) (by omega) fun j hj => by
  have := h j (.int .i64 (l.getD j 0)) (by simp [hj])
  exact this
 rw [List.take_length] at this
 rw [List.length_map]
 exact this
theorem aD4 : SpG g 163 [.c (cM 1 [])] [] (.c (cM 1 [])) [] := by
 have := qE (g := g) (f := 163) (xs := []) (e := 9) (by simp) (by simp) (fun w => Tryz.slices_Clone_string_nil 0 0 w) (fun a w => Tryz.slices_Clone_string_zero a 0 w) fun b off c w h => Tryz.slices_Clone_string_zero ⟨b, off, none⟩ c w
 exact this
theorem sortC : aN9 Tryz.prog 46 := ⟨fun p cap w => Tryz.slices_Sort_int_none p cap w, fun blk off cap zs w hH hb hz => Tryz.slices_Sort_int blk off cap zs w hH hb hz⟩
theorem aJL {l : List Tv} {k : Nat} (h : k < l.length) : aI (l.take k) ++ [[D.i (tvK (l.getD k none)), .s (S (tvS (l.getD k none))), .i 0, .i 0, .i 0, .sl 1 [], .sl 1 []]] = aI (l.take (k + 1)) := lH h
def dK (a b : It) : Bool := if a.time = b.time then decide (a.author > b.author) else decide (a.time > b.time)
def inS (l : List It) : Nat -> List (Int × Int) × List Int
  | 0 => ([], [])
  | k + 1 =>
    let r := inS l k
    let i := l.getD k It.z
    (if (lkM i.id r.1).isSome = true /\ dK (l.getD ((lkM i.id r.1).getD 0).toNat It.z) i = true then r.1 else bV ltI i.id (k : Int) r.1,
     if (lkM i.id r.1).isSome = true then r.2 else r.2 ++ [i.id])
def a7 (l : List It) : List Int := (inS l l.length).2.mergeSort fun x y => decide (x <= y)
def inP (l : List It) (id : Int) : It := l.getD ((lkM id (inS l l.length).1).getD 0).toNat It.z
def inF (l : List It) : List It := (a7 l).map (inP l)
theorem aFC {α β : Type} [DecidableEq α] {k n : α} {v : β} : ∀ (es : List (α × β)), lkM n (es.map fun x => if x.1 = k then (k, v) else x) = if n = k then (if (lkM k es).isSome = true then some v else none) else lkM n es
 | [] => by simp [lkM]
 | x :: r => by
  have ih := aFC (k := k) (n := n) (v := v) r
  simp only [List.map_cons, lkM]
  by_cases hx : x.1 = k
  by_cases hn : n = k
  subst hn; simp [hx]
  have : ¬ k = n := fun h => hn h.symm
  have h2 : ¬ x.1 = n := by rw [hx]; exact this
  simp only [if_pos hx, if_neg this, ih, if_neg hn, if_neg h2]
  by_cases hn : n = k
  subst hn; simp only [if_neg hx, ih, if_pos rfl]
  simp only [if_neg hx, ih, if_neg hn]
theorem aFD {α β : Type} [DecidableEq α] {lt : α -> α -> Bool} {k n : α} {v : β} : ∀ (es : List (α × β)), lkM k es = none -> lkM n (kX lt k v es) = if n = k then some v else lkM n es
 | [], _ => by
  simp only [kX, lkM]
  by_cases hn : n = k
  subst hn; simp
  have : ¬ k = n := fun h => hn h.symm
  simp [hn, this]
 | x :: r, h => by
  simp only [lkM] at h
  split at h
  cases h
  rename_i hx
  have ih := aFD (lt := lt) (n := n) (v := v) r h
  simp only [kX]
  split
  simp only [lkM]
  by_cases hn : n = k
  subst hn; simp
  have : ¬ k = n := fun h => hn h.symm
  simp [hn, this]
  simp only [lkM, ih]
  by_cases hn : n = k
  subst hn; simp [hx]
  simp [hn]
theorem jV {α β : Type} [DecidableEq α] {lt : α -> α -> Bool} {es : List (α × β)} {k n : α} {v : β} : lkM n (bV lt k v es) = if n = k then some v else lkM n es := by
 unfold bV
 split
 rename_i hs
 rw [aFC, if_pos hs]
 rename_i hs
 refine aFD es ?_
 cases h : lkM k es with
 | none => rfl
 | some y => rw [h] at hs; exact absurd rfl hs
theorem iE (l : List It) : ∀ (k : Nat), (∀ n o, lkM n (inS l k).1 = some o -> 0 <= o /\ o < (k : Int) /\ (l.getD o.toNat It.z).id = n) /\ (∀ n, n ∈ (inS l k).2 ↔ (lkM n (inS l k).1).isSome = true) /\ (inS l k).2.length <= k /\ (inS l k).2.Nodup
 | 0 => ⟨fun n o h => by simp [inS, lkM] at h, fun n => by simp [inS, lkM], Nat.le_refl _, List.nodup_nil⟩
 | k + 1 => by
  obtain ⟨h1, h2, h3, h4⟩ := iE l k
  have hl : ∀ n, lkM n (inS l (k + 1)).1 = if (lkM (l.getD k It.z).id (inS l k).1).isSome = true /\ dK (l.getD ((lkM (l.getD k It.z).id (inS l k).1).getD 0).toNat It.z) (l.getD k It.z) = true then lkM n (inS l k).1 else if n = (l.getD k It.z).id then some (k : Int) else lkM n (inS l k).1 := by
   intro n
   simp only [inS]
   split
   rfl
   exact jV
  have hi : (inS l (k + 1)).2 = if (lkM (l.getD k It.z).id (inS l k).1).isSome = true then (inS l k).2 else (inS l k).2 ++ [(l.getD k It.z).id] := rfl
  refine ⟨fun n o h => ?_, fun n => ?_, ?_, ?_⟩
  rw [hl n] at h
  split at h
  have := h1 n o h; omega
  split at h
  rename_i hn
  simp only [oIQ] at h
  subst h; subst hn
  exact ⟨by omega, by omega, by rw [Int.toNat_natCast]⟩
  have := h1 n o h; omega
  rw [hl n, hi]
  by_cases hs : (lkM (l.getD k It.z).id (inS l k).1).isSome = true
  rw [if_pos hs, h2 n]
  split
  rfl
  split
  rename_i hn; rw [hn]; exact ⟨fun _ => rfl, fun _ => hs⟩
  rfl
  rw [if_neg hs, if_neg (fun h => hs h.1)]
  simp only [List.mem_append, List.mem_singleton, h2 n]
  by_cases hn : n = (l.getD k It.z).id
  rw [if_pos hn]; exact ⟨fun _ => rfl, fun _ => .inr hn⟩
  rw [if_neg hn]; exact ⟨fun h => h.resolve_right hn, .inl⟩
  rw [hi]; split
  omega
  simp only [zq1]; omega
  rw [hi]; split
  exact h4
  rename_i hs
  rw [List.nodup_append]
  refine ⟨h4, by simp, fun a ha b hb => ?_⟩
  simp only [List.mem_singleton] at hb
  subst hb
  rintro rfl
  exact hs ((h2 _).1 ha)
theorem srt_mem {l : List It} {n : Int} : n ∈ a7 l ↔ (lkM n (inS l l.length).1).isSome = true := by
 rw [a7, List.mem_mergeSort]; exact (iE l l.length).2.1 n
theorem aEK (l : List It) : (a7 l).length <= l.length := by
 rw [a7, List.length_mergeSort]; exact (iE l l.length).2.2.1
theorem in_idx {l : List It} {k : Nat} (n : Int) (h : k < l.length) : 0 <= (lkM n (inS l k).1).getD 0 /\ (lkM n (inS l k).1).getD 0 < (l.length : Int) := by
 cases hn : lkM n (inS l k).1 with
 | none => simp; omega
 | some o => have := (iE l k).1 n o hn; simp; omega
theorem srt_idx {l : List It} {q : Nat} (h : q < (a7 l).length) : 0 <= (lkM ((a7 l).getD q 0) (inS l l.length).1).getD 0 /\ (lkM ((a7 l).getD q 0) (inS l l.length).1).getD 0 < (l.length : Int) := by
 have hm := srt_mem.1 (a8 (z := 0) h)
 obtain ⟨o, ho⟩ := Option.isSome_iff_exists.1 hm
 have := (iE l l.length).1 _ o ho
 rw [ho]; simp; omega
theorem aMH {l : List It} {q : Nat} (h : q < (a7 l).length) : aK (((a7 l).take q).map (inP l)) ++ [ItD (inP l ((a7 l).getD q 0))] = aK (((a7 l).take (q + 1)).map (inP l)) := by
 rw [bY 0 h]; simp [aK]
theorem in_new {l : List It} {k : Nat} {em : List (Int × Int)} {es : LD} (hk : k < l.length) (h1 : em = (inS l k).1) (h2 : es = intsD (inS l k).2) (hn : (lkM (l.getD k It.z).id em).isSome = false) {em' : List (Int × Int)} {es' : LD}
  (h3 : em' = bV ltI (l.getD k It.z).id (k : Int) em) (h4 : es' = es ++ [[D.i (l.getD k It.z).id]]) : k + 1 <= l.length /\ em' = (inS l (k + 1)).1 /\ es' = intsD (inS l (k + 1)).2 := by
 subst h1
 have hn' : ¬ (lkM (l.getD k It.z).id (inS l k).1).isSome = true := by rw [hn]; decide
 refine ⟨by omega, ?_, ?_⟩
 rw [h3]; simp only [inS]; rw [if_neg (fun h => hn' h.1)]
 rw [h4, h2]; simp only [inS]; rw [if_neg hn']; simp [intsD, intD]
theorem in_old {l : List It} {k : Nat} {em : List (Int × Int)} {es : LD} (hk : k < l.length) (h1 : em = (inS l k).1) (h2 : es = intsD (inS l k).2) (hn : (lkM (l.getD k It.z).id em).isSome = true) (hla : ¬ ((lkM (l.getD k It.z).id em).isSome = true /\ dK (l.getD ((lkM (l.getD k It.z).id em).getD 0).toNat It.z) (l.getD k It.z) = true)) {em' : List (Int × Int)} {es' : LD}
  (h3 : em' = bV ltI (l.getD k It.z).id (k : Int) em) (h4 : es' = es) : k + 1 <= l.length /\ em' = (inS l (k + 1)).1 /\ es' = intsD (inS l (k + 1)).2 := by
 subst h1
 refine ⟨by omega, ?_, ?_⟩
 rw [h3]; simp only [inS]; rw [if_neg hla]
 rw [h4, h2]; simp only [inS]; rw [if_pos hn]
theorem in_keep {l : List It} {k : Nat} {em : List (Int × Int)} {es : LD} (hk : k < l.length) (h1 : em = (inS l k).1) (h2 : es = intsD (inS l k).2) (hn : (lkM (l.getD k It.z).id em).isSome = true) (hla : (lkM (l.getD k It.z).id em).isSome = true /\ dK (l.getD ((lkM (l.getD k It.z).id em).getD 0).toNat It.z) (l.getD k It.z) = true) {em' : List (Int × Int)} {es' : LD}
  (h3 : em' = em) (h4 : es' = es) : k + 1 <= l.length /\ em' = (inS l (k + 1)).1 /\ es' = intsD (inS l (k + 1)).2 := by
 subst h1
 refine ⟨by omega, ?_, ?_⟩
 rw [h3]; simp only [inS]; rw [if_pos hla]
 rw [h4, h2]; simp only [inS]; rw [if_pos hn]
theorem aF3 (v : Tv) :
  SpG g 97 [y0 (tvK v) (S (tvS v)) ([] : LD)] [] (y0 (tvK v) (S (tvS v)) ([] : LD)) [] := by
 refine aQ 47 Tryz.func97 (by kernel_rfl) fun fr hG => ?_
 refine zL hG [(1, 2, kC (.c (cM 1 ([] : LD))))] [0, 1, 0, 1, 1, 1] (fun (zz : Nat) => match zz with | k => (0, ⟨[zX 1 100 0, zX 2 101 0, zY 3 303 0, zM 18 1 ([] : LD), zI 19 (([] : LD).length : Int), zI 20 (k : Int)], [(100, y1 (tvK v) (S (tvS v)) ([] : LD)), (101, y8), (303, .arr 0 55 1 ([] : LD))]⟩, k = 0)) 0 (cS2 g (aD4) (aB (by intros; (try simp only [List.length_nil, inR]); omega : (0 : Int) <= (([] : LD).length : Int) /\ ((24 : Nat) : Int) * (([] : LD).length : Int) <= 281474976710656 /\ (([] : LD).length : Int) <= 9223372036854775807))) ?_ ?_
 exact rfl
 rintro k hk
 refine zp hG [] [0, 1] (((k : Int) : Int) < ((([] : LD)).length : Int)) aC (fun hc2 => ?_) (fun hc2 => ?_)
 skip
 simp at hc2; omega
 skip
 refine zE hG [] (.exit 0) (⟨[zX 1 100 0, zX 2 101 0, zY 3 303 0], [(100, y1 (tvK v) (S (tvS v)) ([] : LD)), (101, y8), (303, .arr 0 55 1 ([] : LD))]⟩) aC rfl ?_
 exact zr hG [] [] aC
theorem xX (l : List Tv) (hl : l.length <= 1000) :
  SpG g 96 [.c (cM 7 (aI l))] [] (.c (cM 7 (aI l))) [] := by
 refine aQ 19 Tryz.func96 (by kernel_rfl) fun fr hG => ?_
 refine zA hG [] [0, 1, 0, 1, 1] (⟨[zN 2, zN 3, zM 6 7 (aI l), zI 7 ((aI l).length : Int), zI 8 0], []⟩) [(3, 9001, 61, 7)] [] (fun (zz : Nat × LD) => match zz with | (k, es) => (l.length - k, ⟨[zN 2, zY 3 9001 0, zM 6 7 (aI l), zI 7 ((aI l).length : Int), zI 8 (k : Int)], [(9001, .arr 0 61 7 (es))]⟩, k <= l.length /\ es = aI (l.take k))) (0, []) aC ?_ ?_
 exact ⟨Nat.zero_le _, rfl⟩
 rintro ⟨k, es⟩ ⟨hk, hes⟩
 have hel : es.length = k := by rw [hes, aI, List.length_map, List.length_take]; omega
 refine zc hG [] [0, 1] (decide (((k : Int) : Int) < ((aI l).length : Int))) aC (fun hc2 => ?_) (fun hc2 => ?_)
 (try simp only [gI, aI] at hc2)
 refine zD hG [(4, 0, .elem (TvD ((l).getD k none))), (5, 2, kC (y0 (tvK ((l).getD k none)) (S (tvS ((l).getD k none))) ([] : LD)))] (k + 1, es ++ ([[.i (tvK ((l).getD k none)), .s (S (tvS ((l).getD k none))), .i 0, .i 0, .i 0, .sl 1 ([] : LD), .sl 1 ([] : LD)]] : LD)) (aA (by intros; exact cH _ (by omega) (by (try simp only [zq4, aI] at *); omega) : (0 : Int) <= (k : Int) /\ (aI l)[k]? = some (TvD ((l).getD k none))) (cS2 g (aF3 ((l).getD k none)) (aA (by intros; (try simp only [zq9, aI] at *); omega : ((es).length + ([[.i (tvK ((l).getD k none)), .s (S (tvS ((l).getD k none))), .i 0, .i 0, .i 0, .sl 1 ([] : LD), .sl 1 ([] : LD)]] : LD).length) * (96 + 1) <= 140737488355328) (aB (by intros; (try simp only [zq9, aI] at *); omega : inR ((k : Int) + 1)))))) ?_ ?_
 (try dsimp only); omega
 exact ⟨by omega, by rw [hes]; exact aJL (by omega)⟩
 (try simp only [gI, aI] at hc2)
 refine zE hG [] (.exit 0) (⟨[zN 2, zY 3 9001 0], [(9001, .arr 0 61 7 (es))]⟩) aC rfl ?_
 refine zR hG [] [] (.c (cM 7 (es))) [] aC ?_ ?_
 rw [hes, List.take_of_length_le (by omega)]
 rfl
theorem aI3 (i : It) (hi : i.input.length <= 1000) (hp : i.program.length <= 1000000) :
  SpG g 47 [.agg [cI ((i).id), cI ((i).author), cI ((i).rank), cI ((i).time), cI ((i).kind), cM 7 (aI ((i).input)), cI (tvK ((i).output)), cS (S (tvS ((i).output))), cI 0, cI 0, cI 0, cM 1 ([] : LD), cM 1 ([] : LD), cS (S (i).prop), cS (S (i).param), cM 1 (intsD ((i).program))]] [] (.agg [cI ((i).id), cI ((i).author), cI ((i).rank), cI ((i).time), cI ((i).kind), cM 7 (aI ((i).input)), cI (tvK ((i).output)), cS (S (tvS ((i).output))), cI 0, cI 0, cI 0, cM 1 ([] : LD), cM 1 ([] : LD), cS (S (i).prop), cS (S (i).param), cM 1 (intsD ((i).program))]) [] := by
 refine aQ 16 Tryz.func47 (by kernel_rfl) fun fr hG => ?_
 exact zr hG [(1, 2, kC (.c (cM 7 (aI ((i).input))))), (2, 2, kC (y0 (tvK ((i).output)) (S (tvS ((i).output))) ([] : LD))), (3, 2, kC (.c (cM 1 (intsD ((i).program)))))] [] (cS2 g (xX ((i).input) (by assumption)) (cS2 g (aF3 ((i).output)) (cS1 g (aI4 ((i).program) (by assumption)))))
theorem aAU (a b : It) :
  SpG g 45 [.agg [cI ((a).id), cI ((a).author), cI ((a).rank), cI ((a).time), cI ((a).kind), cM 7 (aI ((a).input)), cI (tvK ((a).output)), cS (S (tvS ((a).output))), cI 0, cI 0, cI 0, cM 1 ([] : LD), cM 1 ([] : LD), cS (S (a).prop), cS (S (a).param), cM 1 (intsD ((a).program))], .agg [cI ((b).id), cI ((b).author), cI ((b).rank), cI ((b).time), cI ((b).kind), cM 7 (aI ((b).input)), cI (tvK ((b).output)), cS (S (tvS ((b).output))), cI 0, cI 0, cI 0, cM 1 ([] : LD), cM 1 ([] : LD), cS (S (b).prop), cS (S (b).param), cM 1 (intsD ((b).program))]] [] (.c (cB (dK a b))) [] := by
 refine aQ 20 Tryz.func45 (by kernel_rfl) fun fr hG => ?_
 refine zC hG [] [1, 0, 1] (!decide (((a).time : Int) = ((b).time))) (⟨[zX 2 100 0, zX 3 101 0, zB 4 false], [(100, .box 63 [cI ((a).id), cI ((a).author), cI ((a).rank), cI ((a).time), cI ((a).kind), cM 7 (aI ((a).input)), cI (tvK ((a).output)), cS (S (tvS ((a).output))), cI 0, cI 0, cI 0, cM 1 ([] : LD), cM 1 ([] : LD), cS (S (a).prop), cS (S (a).param), cM 1 (intsD ((a).program))]), (101, .box 63 [cI ((b).id), cI ((b).author), cI ((b).rank), cI ((b).time), cI ((b).kind), cM 7 (aI ((b).input)), cI (tvK ((b).output)), cS (S (tvS ((b).output))), cI 0, cI 0, cI 0, cM 1 ([] : LD), cM 1 ([] : LD), cS (S (b).prop), cS (S (b).param), cM 1 (intsD ((b).program))])]⟩) aC (fun hc1 => ?_) (fun hc1 => ?_)
 (try simp only [blS] at hc1)
 refine zR hG [] [] (.c (cB (decide (((a).time : Int) > ((b).time))))) [] aC ?_ ?_
 rw [dK, if_neg (by simpa using hc1)]
 rfl
 (try simp only [blS] at hc1)
 refine zR hG [] [] (.c (cB (decide (((a).author : Int) > ((b).author))))) [] aC ?_ ?_
 rw [dK, if_pos (by simpa using hc1)]
 rfl
def yH := And.intro @List.length_append.{0} (And.intro @List.length_cons.{0} (And.intro @List.length_map.{0, 0} (And.intro @List.length_nil.{0} (And.intro @Go.Eng.inR.eq_1 (@intsD.eq_1)))))
theorem aDM (l : List It) (hl : l.length <= 100000) (hI : ∀ i, i ∈ l -> ItOk i) :
  SpG g 24 [.c (cM 16 (aK l))] [] (.c (cM 16 (aK (inF l)))) [] := by
 refine aQ 70 Tryz.func24 (by kernel_rfl) fun fr hG => ?_
 refine wB 0 rfl fun hl0 => ?_
 refine zA hG [(1, 0, .mask [])] [0, 1, 0, 1, 1, 1] (⟨[zM 0 16 (aK l), zN 2, (3, [], .c (.mp 200)), zN 4, zM 13 16 (aK l), zI 14 ((aK l).length : Int), zI 15 0], [(200, .box ⟨.mpi ([]), none⟩ [])]⟩) [(4, 9001, 3, 1)] [] (fun (zz : Nat × List (Int × Int) × LD) => match zz with | (k, em, es) => (l.length - k, ⟨[zM 0 16 (aK l), zN 2, (3, [], .c (.mp 200)), zY 4 9001 0, zM 13 16 (aK l), zI 14 ((aK l).length : Int), zI 15 (k : Int)], [(200, .box ⟨.mpi (em), none⟩ []), (9001, .arr 0 3 1 (es))]⟩, k <= l.length /\ em = (inS l k).1 /\ es = intsD (inS l k).2)) (0, [], []) aC ?_ ?_
 ·exact ⟨Nat.zero_le _, rfl, rfl⟩
 rintro ⟨k, em, es⟩ ⟨hk, hem, hes⟩
 have hel : es.length = (inS l k).2.length := by rw [hes, intsD, List.length_map]
 have hel2 := (iE l k).2.2.1
 refine zc hG [] [0, 1] (decide (((k : Int) : Int) < ((aK l).length : Int))) aC (fun hc2 => ?_) (fun hc2 => ?_)
 ·(try simp only [gI, aI, aK] at hc2)
  have hix := in_idx (l.getD k It.z).id (l := l) (k := k) (by simpa [aK] using hc2)
  rw [<- hem] at hix
  refine zC hG [(5, 1, .elem (ItD ((l).getD k It.z)))] [1, 0, 1, 1, 0, 0, 1, 1] (!((lkM (((l).getD k It.z).id) em).isSome)) (⟨[zM 0 16 (aK l), zN 2, (3, [], .c (.mp 200)), zY 4 9001 0, zI 5 (k : Int), zX 6 603 0, zI 7 ((lkM (((l).getD k It.z).id) em).getD 0), zB 8 ((lkM (((l).getD k It.z).id) em).isSome), zM 13 16 (aK l), zI 14 ((aK l).length : Int), zI 15 (k : Int)], [(200, .box ⟨.mpi (em), none⟩ []), (603, .box 63 [cI (((l).getD k It.z).id), cI (((l).getD k It.z).author), cI (((l).getD k It.z).rank), cI (((l).getD k It.z).time), cI (((l).getD k It.z).kind), cM 7 (aI (((l).getD k It.z).input)), cI (tvK (((l).getD k It.z).output)), cS (S (tvS (((l).getD k It.z).output))), cI 0, cI 0, cI 0, cM 1 ([] : LD), cM 1 ([] : LD), cS (S ((l).getD k It.z).prop), cS (S ((l).getD k It.z).param), cM 1 (intsD (((l).getD k It.z).program))]), (9001, .arr 0 3 1 (es))]⟩) (aB (by intros; exact cH (f := ItD) It.z (by omega) (by (try simp only [aK, List.length_map] at *); omega) : (0 : Int) <= (k : Int) /\ (aK l)[k]? = some (ItD ((l).getD k It.z)))) (fun hc3 => ?_) (fun hc3 => ?_)
  ·(try simp only [gI, aI, aK] at hc3)
   refine zC hG [(9, 5, .elem (ItD ((l).getD ((lkM (((l).getD k It.z).id) em).getD 0 : Int).toNat It.z))), (9, 8, kB (dK ((l).getD ((lkM (((l).getD k It.z).id) em).getD 0 : Int).toNat It.z) ((l).getD k It.z)))] [1, 1, 1, 1, 0, 0, 1, 1] ((!((lkM (((l).getD k It.z).id) em).isSome)) || (!(dK ((l).getD ((lkM (((l).getD k It.z).id) em).getD 0 : Int).toNat It.z) ((l).getD k It.z)))) (⟨[zM 0 16 (aK l), zN 2, (3, [], .c (.mp 200)), zY 4 9001 0, zI 5 (k : Int), zX 6 603 0, zM 13 16 (aK l), zI 14 ((aK l).length : Int), zI 15 (k : Int)], [(200, .box ⟨.mpi (em), none⟩ []), (603, .box 63 [cI (((l).getD k It.z).id), cI (((l).getD k It.z).author), cI (((l).getD k It.z).rank), cI (((l).getD k It.z).time), cI (((l).getD k It.z).kind), cM 7 (aI (((l).getD k It.z).input)), cI (tvK (((l).getD k It.z).output)), cS (S (tvS (((l).getD k It.z).output))), cI 0, cI 0, cI 0, cM 1 ([] : LD), cM 1 ([] : LD), cS (S ((l).getD k It.z).prop), cS (S ((l).getD k It.z).param), cM 1 (intsD (((l).getD k It.z).program))]), (9001, .arr 0 3 1 (es ++ ([[.i (((l).getD k It.z).id)]] : LD)))]⟩) (aA (by intros; (try simp only [yH, aK] at *); omega : ((es).length + ([[.i (((l).getD k It.z).id)]] : LD).length) * (8 + 1) <= 140737488355328) (aA (by intros; exact cH (f := ItD) It.z (by omega) (by (try simp only [aK, List.length_map] at *); omega) : (!((lkM (((l).getD k It.z).id) em).isSome)) = false -> (0 : Int) <= ((lkM (((l).getD k It.z).id) em).getD 0) /\ (aK l)[((lkM (((l).getD k It.z).id) em).getD 0 : Int).toNat]? = some (ItD ((l).getD ((lkM (((l).getD k It.z).id) em).getD 0 : Int).toNat It.z))) (aB (fun (hg1 : (!((lkM (((l).getD k It.z).id) em).isSome)) = false) => (aAU ((l).getD ((lkM (((l).getD k It.z).id) em).getD 0 : Int).toNat It.z) ((l).getD k It.z) : SpG g _ _ _ _ _))))) (fun hc4 => ?_) (fun hc4 => ?_)
   ·(try simp only [gI, aI, aK] at hc4)
    refine zD hG [] (k + 1, bV ltI (((l).getD k It.z).id) (k : Int) em, es ++ ([[.i (((l).getD k It.z).id)]] : LD)) (aB (by intros; (try simp only [yH, aK] at *); omega : inR ((k : Int) + 1))) ?_ ?_
    ·(try dsimp only); omega
    ·exact in_new (by omega) hem hes hc3 rfl rfl
   ·(try simp only [gI, aI, aK] at hc4)
    refine zD hG [] (k + 1, em, es ++ ([[.i (((l).getD k It.z).id)]] : LD)) (aB (by intros; (try simp only [yH, aK] at *); omega : inR ((k : Int) + 1))) ?_ ?_
    ·(try dsimp only); omega
    ·exact absurd (hc3.symm.trans hc4.1) (by decide)
  ·(try simp only [gI, aI, aK] at hc3)
   refine zC hG [(9, 5, .elem (ItD ((l).getD ((lkM (((l).getD k It.z).id) em).getD 0 : Int).toNat It.z))), (9, 8, kB (dK ((l).getD ((lkM (((l).getD k It.z).id) em).getD 0 : Int).toNat It.z) ((l).getD k It.z)))] [1, 1, 1, 1, 0, 0, 1, 1] ((!((lkM (((l).getD k It.z).id) em).isSome)) || (!(dK ((l).getD ((lkM (((l).getD k It.z).id) em).getD 0 : Int).toNat It.z) ((l).getD k It.z)))) (⟨[zM 0 16 (aK l), zN 2, (3, [], .c (.mp 200)), zY 4 9001 0, zI 5 (k : Int), zX 6 603 0, zM 13 16 (aK l), zI 14 ((aK l).length : Int), zI 15 (k : Int)], [(200, .box ⟨.mpi (em), none⟩ []), (603, .box 63 [cI (((l).getD k It.z).id), cI (((l).getD k It.z).author), cI (((l).getD k It.z).rank), cI (((l).getD k It.z).time), cI (((l).getD k It.z).kind), cM 7 (aI (((l).getD k It.z).input)), cI (tvK (((l).getD k It.z).output)), cS (S (tvS (((l).getD k It.z).output))), cI 0, cI 0, cI 0, cM 1 ([] : LD), cM 1 ([] : LD), cS (S ((l).getD k It.z).prop), cS (S ((l).getD k It.z).param), cM 1 (intsD (((l).getD k It.z).program))]), (9001, .arr 0 3 1 (es))]⟩) (aA (by intros; exact cH (f := ItD) It.z (by omega) (by (try simp only [aK, List.length_map] at *); omega) : (!((lkM (((l).getD k It.z).id) em).isSome)) = false -> (0 : Int) <= ((lkM (((l).getD k It.z).id) em).getD 0) /\ (aK l)[((lkM (((l).getD k It.z).id) em).getD 0 : Int).toNat]? = some (ItD ((l).getD ((lkM (((l).getD k It.z).id) em).getD 0 : Int).toNat It.z))) (aB (fun (hg1 : (!((lkM (((l).getD k It.z).id) em).isSome)) = false) => (aAU ((l).getD ((lkM (((l).getD k It.z).id) em).getD 0 : Int).toNat It.z) ((l).getD k It.z) : SpG g _ _ _ _ _)))) (fun hc5 => ?_) (fun hc5 => ?_)
   ·(try simp only [gI, aI, aK] at hc5)
    refine zD hG [] (k + 1, bV ltI (((l).getD k It.z).id) (k : Int) em, es) (aB (by intros; (try simp only [yH, aK] at *); omega : inR ((k : Int) + 1))) ?_ ?_
    ·(try dsimp only); omega
    ·exact in_old (by omega) hem hes hc3 (fun hh => by rcases hc5 with h | h; (· rw [hh.1] at h; cases h); rw [hh.2] at h; cases h) rfl rfl
   ·(try simp only [gI, aI, aK] at hc5)
    refine zD hG [] (k + 1, em, es) (aB (by intros; (try simp only [yH, aK] at *); omega : inR ((k : Int) + 1))) ?_ ?_
    ·(try dsimp only); omega
    ·exact in_keep (by omega) hem hes hc3 hc5 rfl rfl
 ·(try simp only [gI, aI, aK] at hc2)
  have hkl : k = l.length := by omega
  subst hkl
  have hes2 := hes
  have hem2 := hem
  refine zE hG [] (.exit 0) (⟨[zM 0 16 (aK l), zN 2, (3, [], .c (.mp 200)), zY 4 9001 0], [(200, .box ⟨.mpi (em), none⟩ []), (9001, .arr 0 3 1 (es))]⟩) aC rfl ?_
  refine zA hG [(12, 1, .callG (.tup []) [9001, 0] [(0, .arr 0 3 1 (intsD (a7 l)))])] [0, 1, 0, 1, 1, 1, 1, 1, 1] (⟨[zM 0 16 (aK l), zN 2, (3, [], .c (.mp 200)), zN 9, zY 52 9001 0, zI 53 ((intsD (a7 l)).length : Int), zI 54 0], [(200, .box ⟨.mpi (em), none⟩ []), (9001, .arr 0 3 1 (intsD (a7 l)))]⟩) [(9, 9002, 63, 16)] [] (fun (zz : Nat × LD) => match zz with | (q, et) => ((a7 l).length - q, ⟨[zM 0 16 (aK l), zN 2, (3, [], .c (.mp 200)), zY 9 9002 0, zY 52 9001 0, zI 53 ((intsD (a7 l)).length : Int), zI 54 (q : Int)], [(200, .box ⟨.mpi (em), none⟩ []), (9001, .arr 0 3 1 (intsD (a7 l))), (9002, .arr 0 63 16 (et))]⟩, q <= (a7 l).length /\ et = aK (((a7 l).take q).map (inP l)))) (0, []) (aA (sortC) (aB (show aN8 (es) (intsD (a7 l)) from ⟨(inS l l.length).2, hes2, rfl, by have := (iE l l.length).2.2.1; omega⟩))) ?_ ?_
  ·exact ⟨Nat.zero_le _, rfl⟩
  rintro ⟨q, et⟩ ⟨hq, het⟩
  have htl : et.length = q := by rw [het, aK, List.length_map, List.length_map, List.length_take]; omega
  have hsl := aEK l
  have hsd : (intsD (a7 l)).length = (a7 l).length := by rw [intsD, List.length_map]
  refine zc hG [] [0, 1] (decide (((q : Int) : Int) < ((intsD (a7 l)).length : Int))) aC (fun hc7 => ?_) (fun hc7 => ?_)
  ·(try simp only [gI, aI, aK] at hc7)
   have hix2 := srt_idx (l := l) (q := q) (by omega)
   rw [<- hem2] at hix2
   refine zD hG [(16, 1, .elem (intD ((a7 l).getD q 0))), (17, 5, .elem (ItD ((l).getD ((lkM ((a7 l).getD q 0) em).getD 0 : Int).toNat It.z))), (17, 7, kC (.agg [cI (((l).getD ((lkM ((a7 l).getD q 0) em).getD 0 : Int).toNat It.z).id), cI (((l).getD ((lkM ((a7 l).getD q 0) em).getD 0 : Int).toNat It.z).author), cI (((l).getD ((lkM ((a7 l).getD q 0) em).getD 0 : Int).toNat It.z).rank), cI (((l).getD ((lkM ((a7 l).getD q 0) em).getD 0 : Int).toNat It.z).time), cI (((l).getD ((lkM ((a7 l).getD q 0) em).getD 0 : Int).toNat It.z).kind), cM 7 (aI (((l).getD ((lkM ((a7 l).getD q 0) em).getD 0 : Int).toNat It.z).input)), cI (tvK (((l).getD ((lkM ((a7 l).getD q 0) em).getD 0 : Int).toNat It.z).output)), cS (S (tvS (((l).getD ((lkM ((a7 l).getD q 0) em).getD 0 : Int).toNat It.z).output))), cI 0, cI 0, cI 0, cM 1 ([] : LD), cM 1 ([] : LD), cS (S ((l).getD ((lkM ((a7 l).getD q 0) em).getD 0 : Int).toNat It.z).prop), cS (S ((l).getD ((lkM ((a7 l).getD q 0) em).getD 0 : Int).toNat It.z).param), cM 1 (intsD (((l).getD ((lkM ((a7 l).getD q 0) em).getD 0 : Int).toNat It.z).program))]))] (q + 1, et ++ ([[.i (((l).getD ((lkM ((a7 l).getD q 0) em).getD 0 : Int).toNat It.z).id), .i (((l).getD ((lkM ((a7 l).getD q 0) em).getD 0 : Int).toNat It.z).author), .i (((l).getD ((lkM ((a7 l).getD q 0) em).getD 0 : Int).toNat It.z).rank), .i (((l).getD ((lkM ((a7 l).getD q 0) em).getD 0 : Int).toNat It.z).time), .i (((l).getD ((lkM ((a7 l).getD q 0) em).getD 0 : Int).toNat It.z).kind), .sl 7 (aI (((l).getD ((lkM ((a7 l).getD q 0) em).getD 0 : Int).toNat It.z).input)), .i (tvK (((l).getD ((lkM ((a7 l).getD q 0) em).getD 0 : Int).toNat It.z).output)), .s (S (tvS (((l).getD ((lkM ((a7 l).getD q 0) em).getD 0 : Int).toNat It.z).output))), .i 0, .i 0, .i 0, .sl 1 ([] : LD), .sl 1 ([] : LD), .s (S ((l).getD ((lkM ((a7 l).getD q 0) em).getD 0 : Int).toNat It.z).prop), .s (S ((l).getD ((lkM ((a7 l).getD q 0) em).getD 0 : Int).toNat It.z).param), .sl 1 (intsD (((l).getD ((lkM ((a7 l).getD q 0) em).getD 0 : Int).toNat It.z).program))]] : LD)) (aA (by intros; (try simp only [yH, aK] at *); omega : (0 : Int) <= (q : Int) /\ (q : Int) < ((intsD (a7 l)).length : Int)) (aA (by intros; exact jU (f := intD) (l := a7 l) 0 (by omega) : (intsD (a7 l))[q]? = some (intD ((a7 l).getD q 0))) (aA (by intros; exact cH (f := ItD) It.z (by omega) (by (try simp only [aK, List.length_map] at *); omega) : (0 : Int) <= ((lkM ((a7 l).getD q 0) em).getD 0) /\ (aK l)[((lkM ((a7 l).getD q 0) em).getD 0 : Int).toNat]? = some (ItD ((l).getD ((lkM ((a7 l).getD q 0) em).getD 0 : Int).toNat It.z))) (cS2 g (aI3 ((l).getD ((lkM ((a7 l).getD q 0) em).getD 0 : Int).toNat It.z) (by (first | exact Nat.le_trans (hI _ (a8 (by omega))).len (by decide) | exact Nat.le_trans (hI _ (a8 (by omega))).plen (by decide))) (by (first | exact Nat.le_trans (hI _ (a8 (by omega))).len (by decide) | exact Nat.le_trans (hI _ (a8 (by omega))).plen (by decide)))) (aA (by intros; (try simp only [yH, aK] at *); omega : ((et).length + ([[.i (((l).getD ((lkM ((a7 l).getD q 0) em).getD 0 : Int).toNat It.z).id), .i (((l).getD ((lkM ((a7 l).getD q 0) em).getD 0 : Int).toNat It.z).author), .i (((l).getD ((lkM ((a7 l).getD q 0) em).getD 0 : Int).toNat It.z).rank), .i (((l).getD ((lkM ((a7 l).getD q 0) em).getD 0 : Int).toNat It.z).time), .i (((l).getD ((lkM ((a7 l).getD q 0) em).getD 0 : Int).toNat It.z).kind), .sl 7 (aI (((l).getD ((lkM ((a7 l).getD q 0) em).getD 0 : Int).toNat It.z).input)), .i (tvK (((l).getD ((lkM ((a7 l).getD q 0) em).getD 0 : Int).toNat It.z).output)), .s (S (tvS (((l).getD ((lkM ((a7 l).getD q 0) em).getD 0 : Int).toNat It.z).output))), .i 0, .i 0, .i 0, .sl 1 ([] : LD), .sl 1 ([] : LD), .s (S ((l).getD ((lkM ((a7 l).getD q 0) em).getD 0 : Int).toNat It.z).prop), .s (S ((l).getD ((lkM ((a7 l).getD q 0) em).getD 0 : Int).toNat It.z).param), .sl 1 (intsD (((l).getD ((lkM ((a7 l).getD q 0) em).getD 0 : Int).toNat It.z).program))]] : LD).length) * (216 + 1) <= 140737488355328) (aB (by intros; (try simp only [yH, aK] at *); omega : inR ((q : Int) + 1)))))))) ?_ ?_
   ·(try dsimp only); omega
   ·refine ⟨by omega, ?_⟩
    rw [het, <- aMH (by omega)]; subst hem2; rfl
  ·(try simp only [gI, aI, aK] at hc7)
   refine zE hG [] (.exit 2) (⟨[zN 2, zY 9 9002 0], [(9002, .arr 0 63 16 (et))]⟩) aC rfl ?_
   refine zR hG [] [] (.c (cM 16 (et))) [] aC ?_ ?_
   ·rw [het, List.take_of_length_le (by omega)]; rfl
   ·rfl
end Go.Proofs.YtclaplngjmgnoaaGreatDoor
namespace Go.Proofs
open Go.RowKit Go.Maps Go.Sort Go.Shelf
shelf_lay_g SlLaysZ.n7 Ggz 7 at Tryz 60 as Tryz.keysK
shelf_lay_g SlLaysZ.n6 Ggz 6 at Tryz 59 as Tryz.sortedK
shelf_lay_g SlLaysM.n6 Slgm 6 at Tryz 112 as Tryz.sortK
theorem Tryz.sortsK (m : Nat) : AnyZ.SortsIn Tryz.prog Tryz.sortedK_ren Fence.wide m :=
  ⟨fun blk off cap ss W hH hblk hsz => callsIn_wide.2 (AnyM.slices_Sort_string Tryz.sortK blk off cap ss W hH hblk hsz),
   fun p cap W => callsIn_wide.2 (AnyM.slices_Sort_string_none Tryz.sortK p cap W)⟩
set_option maxHeartbeats 1000000 in
theorem Tryz.sorted_keysK {H : Type} (Bm b nn : Nat) (D0 : DataW H) (R : Value -> Option (DataW H × List MemPlace)) (w : World) (hBm : Bm < w.heap.size) (hm : w.cell? ⟨Bm, 0, none⟩ = some (.map (some b))) (hown : w.ownsMap Tryz.prog 9 R b nn D0) (hmax : Maps.size D0 <= maxLen) (hbytes : Maps.size D0 * 16 <= 140737488355328) :
  CallsIn Fence.wide 5 Tryz.prog 59 #[.func (.func 113) #[] #[.pointer (some ⟨Bm, 0, none⟩)]] w fun e w' => ∃ (v : Value) (ss : List (List UInt8)), e = .returned v /\ ss.Perm (strKeys D0) /\
   w'.ownsRow w.heap.size 9 1 v ss.length ((ss.mergeSort (fun x y => decide (x <= y))).map encStr) /\ (v = .slice none 0 0 ↔ ss = []) /\ Below w.heap.size w w' := by
 have hseq : SeqGives Fence.wide 2 Tryz.prog 113 #[.pointer (some ⟨Bm, 0, none⟩)] encStr (fun ss => ss.Perm (strKeys D0)) (Maps.size D0) w :=
  AnyZ.keys_gives (ρ := Tryz.keysK_ren) { Tryz.keysK with } Fence.wide _ trivial rfl (by omega) Bm b nn D0 _ hBm hm hown
 exact AnyZ.sorted_in Tryz.sortedK Fence.wide 5 trivial trivial trivial trivial rfl (by omega) (Tryz.sortsK _) (enters_of Tryz.func112 (by kernel_rfl) rfl) 113 #[.pointer (some ⟨Bm, 0, none⟩)] trivial (enters_of Tryz.func113 (by kernel_rfl) rfl) _ _ hmax hbytes _ hseq
end Go.Proofs
namespace Go.Proofs.YtclaplngjmgnoaaGreatDoor
open Go.RowKit Go.V
open Go.Eng (inR byteAt u8 dS)
variable {g : Gv}
theorem aJM {v v' : Tv} {r r' : List UInt8} (hr : g8 r) (hr' : g8 r') (h : tvT v ++ r = tvT v' ++ r') : v = v' /\ r = r' := by
 cases v with
 | none => cases v' with
  | none => simp only [tvT, List.cons_append, List.nil_append, List.cons.injEq, true_and] at h; exact ⟨rfl, h⟩
  | some s => simp [tvT] at h
 | some s => cases v' with
  | none => simp [tvT] at h
  | some s' =>
   have e : cE s ++ 39 :: r = cE s' ++ 39 :: r' := by simpa [tvT] using h
   have h1 := aJO s hr
   have h2 := aJO s' hr'
   rw [e, h2] at h1
   simp only [pIQ, true_and] at h1
   exact ⟨by rw [h1.1], h1.2.symm⟩
theorem zT (v : Tv) (r : List Tv) : rwT (v :: r) = tvT v ++ (if r = [] then [] else 124 :: rwT r) := by
 cases r with
 | nil => simp [rwT, joinL]
 | cons x s => simp [rwT, joinL]
theorem aER : ∀ {a b : List Tv}, rwT a = rwT b -> a = b
 | [], [], _ => rfl
 | [], v :: r, h => absurd h.symm (wH (by simp))
 | v :: r, [], h => absurd h (wH (by simp))
 | v :: r, v' :: r', h => by
  have hE : ∀ s : List Tv, g8 (if s = [] then [] else 124 :: rwT s) := by
   intro s
   split
   exact .inl rfl
   exact .inr ⟨124, _, rfl, rfl⟩
  rw [zT, zT] at h
  obtain ⟨h1, h2⟩ := aJM (hE r) (hE r') h
  have h3 : r = r' := by
   by_cases e : r = []
   rw [if_pos e] at h2
   by_cases e' : r' = []
   rw [e, e']
   rw [if_neg e'] at h2; cases h2
   rw [if_neg e] at h2
   by_cases e' : r' = []
   rw [if_pos e'] at h2; cases h2
   rw [if_neg e'] at h2
   injection h2 with _ h4
   exact aER h4
  rw [h1, h3]
theorem rH {n m : Int} (hn : nOk n) (hm : nOk m) (h : Lib.itoa n = Lib.itoa m) : n = m := by
 have := oJ hn
 rw [h, oJ hm] at this
 injection this with h
 exact h.symm
theorem l6 : ∀ {a b : List Int}, (∀ n, n ∈ a -> nOk n) -> (∀ n, n ∈ b -> nOk n) -> a.map Lib.itoa = b.map Lib.itoa -> a = b
 | [], [], _, _, _ => rfl
 | [], y :: r, _, _, h => by simp at h
 | y :: r, [], _, _, h => by simp at h
 | x :: a, y :: b, ha, hb, h => by
  simp only [List.map_cons, List.cons.injEq] at h
  rw [rH (ha x (by simp)) (hb y (by simp)) h.1, l6 (fun n hn => ha n (by simp [hn])) (fun n hn => hb n (by simp [hn])) h.2]
theorem uZ : ∀ {a b : List (List UInt8)}, a.map S = b.map S -> a = b
 | [], [], _ => rfl
 | [], y :: r, h => by simp at h
 | y :: r, [], h => by simp at h
 | x :: a, y :: b, h => by
  simp only [List.map_cons, List.cons.injEq] at h
  rw [S_inj.1 h.1, uZ h.2]
theorem prT_inj {i j : It} (hi : ItOk i) (hj : ItOk j) (h : prT i = prT j) : i.program = j.program := by
 by_cases h1 : i.program = []
 by_cases h2 : j.program = []
 rw [h1, h2]
 exact (aCD (h ▸ (by rw [prT, h1]; rfl)) h2).elim
 by_cases h2 : j.program = []
 exact (aCD (h.trans (by rw [prT, h2]; rfl)) h1).elim
 have key : ∀ {i : It}, ItOk i -> i.program ≠ [] -> ∃ n, (prT i).count 44 = n /\ Lib.splitB (S [44]) 0 n (S (prT i)) = (i.program.map Lib.itoa).map S := by
  intro i hi h1
  obtain ⟨x, r, hx⟩ : ∃ x r, i.program.map Lib.itoa = x :: r := by
   cases he : i.program with
   | nil => exact absurd he h1
   | cons y s => exact ⟨_, _, rfl⟩
  have hno : ∀ y, y ∈ x :: r -> ∀ b, b ∈ y -> ¬ b = 44 := by
   intro y hy b hb
   rw [<- hx] at hy
   obtain ⟨n, _, rfl⟩ := List.mem_map.1 hy
   exact eH (.inr (.inr rfl)) b hb
  exact ⟨r.length, by rw [prT, hx]; exact jG r x hno, by rw [prT, hx]; exact iQ r x hno⟩
 obtain ⟨n, a1, a2⟩ := key hi h1
 obtain ⟨m, b1, b2⟩ := key hj h2
 rw [<- h] at b1 b2
 have : n = m := a1.symm.trans b1
 subst this
 rw [a2] at b2
 exact l6 hi.prog hj.prog (uZ b2)
theorem itT_inj {i j : It} (hi : ItOk i) (hj : ItOk j) (h : itT i = itT j) : i = j := by
 have h1 : rsT i 1 = rsT j 1 := by rw [gU, gU] at h; exact List.append_cancel_left h
 have num : ∀ {k : Nat}, k < 5 -> rsT i (k + 1) = rsT j (k + 1) -> (c7 i).getD k 0 = (c7 j).getD k 0 /\ rsT i (k + 2) = rsT j (k + 2) := by
  intro k hk h
  have e : ∀ i : It, (itP i).getD (k + 1) [] = Lib.itoa ((c7 i).getD k 0) := by
   intro i
   match k, hk with
   | 0, _ => rfl
   | 1, _ => rfl
   | 2, _ => rfl
   | 3, _ => rfl
   | 4, _ => rfl
  rw [eS i (by omega), eS j (by omega), e, e] at h
  have a := lB (a := Lib.itoa ((c7 i).getD k 0)) (r := rsT i (k + 1 + 1)) (eH (.inl rfl))
  rw [h, lB (eH (.inl rfl))] at a
  simp only [pIQ, and_true] at a
  have hm : ∀ i : It, (c7 i).getD k 0 ∈ c7 i := fun i => a8 (by simpa [c7] using hk)
  exact ⟨(rH (rL hj _ (hm j)) (rL hi _ (hm i)) a.1).symm, a.2.symm⟩
 have word : ∀ {k : Nat}, k < 4 -> rsT i (k + 6) = rsT j (k + 6) -> (wsL i).getD k [] = (wsL j).getD k [] /\ rsT i (k + 7) = rsT j (k + 7) := by
  intro k hk h
  have e : ∀ i : It, (itP i).getD (k + 6) [] = wdT ((wsL i).getD k []) := by
   intro i
   match k, hk with
   | 0, _ => rfl
   | 1, _ => rfl
   | 2, _ => rfl
   | 3, _ => rfl
  rw [eS i (by omega), eS j (by omega), e, e] at h
  have e2 : ∀ i : It, wdT ((wsL i).getD k []) ++ 32 :: rsT i (k + 6 + 1) = Lib.itoa (((wsL i).getD k []).length : Int) ++ 58 :: wrT i k := by intro i; simp [wdT, wrT]
  rw [e2, e2] at h
  have a := lB (a := Lib.itoa (((wsL i).getD k []).length : Int)) (r := wrT i k) (eH (.inr (.inl rfl)))
  rw [h, lB (eH (.inr (.inl rfl)))] at a
  simp only [pIQ, and_true] at a
  have l1 := p6 hi hk
  have l2 := p6 hj hk
  have hlen := rH (gC (by omega)) (gC (by omega)) a.1
  have hlen : ((wsL j).getD k []).length = ((wsL i).getD k []).length := by omega
  have hw := a.2
  unfold wrT at hw
  obtain ⟨b1, b2⟩ := List.append_inj hw hlen
  injection b2 with _ b3
  exact ⟨b1.symm, b3.symm⟩
 obtain ⟨n0, h2⟩ := num (k := 0) (by decide) h1
 obtain ⟨n1, h3⟩ := num (k := 1) (by decide) h2
 obtain ⟨n2, h4⟩ := num (k := 2) (by decide) h3
 obtain ⟨n3, h5⟩ := num (k := 3) (by decide) h4
 obtain ⟨n4, h6⟩ := num (k := 4) (by decide) h5
 obtain ⟨w0, h7⟩ := word (k := 0) (by decide) h6
 obtain ⟨w1, h8⟩ := word (k := 1) (by decide) h7
 obtain ⟨w2, h9⟩ := word (k := 2) (by decide) h8
 obtain ⟨w3, h10⟩ := word (k := 3) (by decide) h9
 have w0 := aER w0
 have w1 : i.output = j.output := (aJM (.inl rfl) (.inl rfl) (by rw [List.append_nil, List.append_nil]; exact w1)).1
 have hp := prT_inj hi hj h10
 cases i; cases j
 simp only [It.mk.injEq]
 exact ⟨n0, n1, n2, n3, n4, w0, w1, w2, w3, hp⟩
noncomputable def aF (t : List UInt8) : It := @dite It (∃ i, ItOk i /\ itT i = t) (Classical.propDecidable _) (fun h => Classical.choose h) (fun _ => It.z)
def j9 (t : List UInt8) : Prop := ∃ i, ItOk i /\ itT i = t
theorem pV {t : List UInt8} (h : j9 t) : ItOk (aF t) /\ itT (aF t) = t := by
 have : aF t = Classical.choose h := by unfold aF; exact dif_pos h
 rw [this]; exact Classical.choose_spec h
theorem fF {i : It} (h : ItOk i) : aF (itT i) = i := by
 have h2 : j9 (itT i) := ⟨i, h, rfl⟩
 obtain ⟨h3, h4⟩ := pV h2
 exact itT_inj h3 h h4
def kSort (es : List (List UInt8 × Bool)) : Prop := (es.map (·.1)).Pairwise (· < ·)
theorem aG5 {es : List (List UInt8 × Bool)} (h : kSort es) {ss : List (List UInt8)} (hp : ss.Perm (es.map (·.1))) : ss.mergeSort (fun x y => decide (x <= y)) = es.map (·.1) := by
 have h1 : (ss.mergeSort (fun x y => decide (x <= y))).Pairwise (fun a b => a <= b) := by
  have := List.pairwise_mergeSort (le := fun x y : List UInt8 => decide (x <= y)) (fun a b c h1 h2 => by simp only [decide_eq_true_eq] at *; exact List.le_trans h1 h2) (fun a b => by simp only [Bool.or_eq_true, decide_eq_true_eq]; exact List.le_total a b) ss
  exact this.imp fun h => by simpa using h
 have h2 : (es.map (·.1)).Pairwise (fun a b => a <= b) := h.imp fun h => List.le_of_lt h
 exact List.Perm.eq_of_pairwise (fun a b _ _ h1 h2 => List.le_antisymm h1 h2) h1 h2 ((List.mergeSort_perm _ _).trans hp)
theorem aL4 {w : World} {b : Nat} {es : List (List UInt8 × Bool)} {ents : Array MapEntry} {clock : Nat} (hb : w.heap[b]? = some (.map ents clock)) (hM : MapIs (kvB es) ents clock) (hl : es.length <= 1000000) (hk : ∀ x, x ∈ es -> x.1.length <= 1000000) :
  ∃ D0 : DataW Unit, w.ownsMap Tryz.prog 9 (fun _ => some (.nil, [])) b ents.size D0 /\ (Go.strKeys D0).Perm (es.map (·.1)) /\ Maps.size D0 = es.length := by
 have hsz : ents.toList.length = es.length := by have := hM.kv.length_eq; simpa [kvB] using this
 have hst : Tryz.prog.underlying 9 = some .string := by kernel_rfl
 have hin : ∀ e ∈ ents.toList, ∃ x : List UInt8, ∃ c, (x, c) ∈ es /\ e.key = .string ⟨x.toArray⟩ := by
  intro e he
  have : (e.key, e.val) ∈ kvB es := hM.kv.mem_iff.1 (List.mem_map.2 ⟨e, he, rfl⟩)
  obtain ⟨⟨x, c⟩, hx, hxe⟩ := List.mem_map.1 this
  simp only [pIQ] at hxe
  exact ⟨x, c, hx, hxe.1.symm⟩
 have hrd : ∀ e ∈ ents.toList, ∃ x : List UInt8, e.key = .string ⟨x.toArray⟩ /\ WideElems.rd Tryz.prog 9 (fun _ => some ((DataW.nil : DataW Unit), [])) e = some (.string x, .nil) := by
  intro e he
  obtain ⟨x, c, hx, hke⟩ := hin e he
  refine ⟨x, hke, ?_⟩
  have hxl := hk _ hx
  have hxs : (⟨x.toArray⟩ : ByteArray).size = x.length := by simp [ByteArray.size]
  have h2 : x.length <= maxLen := by unfold maxLen; simp only at hxl; omega
  unfold WideElems.rd
  rw [keyOf_string hst, hke]
  simp [mapKey, hst, hxs, h2]
 refine ⟨.map ((ents.toList.map (WideElems.rg Tryz.prog 9 (fun _ => some ((DataW.nil : DataW Unit), [])))).foldr DataW.insert []), ⟨ents, clock, hb, ⟨?_, ⟨hM.lt, hM.nd, ?_⟩, fun x hx => ?_⟩, Nat.le_refl _, rfl⟩, ?_, ?_⟩
 ·have : ents.size = es.length := by rw [<- hsz]; simp
  unfold maxLen; omega
 ·have h1 : (ents.toList.map (·.key)) = (ents.toList.map fun e => (e.key, e.val)).map (·.1) := by rw [List.map_map]; rfl
  rw [h1]
  exact ((hM.kv.map (·.1)).nodup_iff).2 hM.kn
 ·obtain ⟨t, _, h⟩ := hrd x hx
  exact ⟨_, h⟩
 ·have hp := WideShapes.sorted_perm (ents.toList.map (WideElems.rg Tryz.prog 9 (fun _ => some ((DataW.nil : DataW Unit), []))))
  have hp2 := hp.map fun p => Go.strOf p.1
  refine hp2.trans ?_
  rw [List.map_map]
  have e1 : ents.toList.map ((fun p : Go.Lit × DataW Unit => Go.strOf p.1) ∘ WideElems.rg Tryz.prog 9 (fun _ => some ((DataW.nil : DataW Unit), []))) = (ents.toList.map fun e => (e.key, e.val)).map fun y => match y.1 with
    | .string s => s.data.toList
    | _ => [] := by
   rw [List.map_map]
   refine List.map_congr_left fun e he => ?_
   obtain ⟨t, h1, h2⟩ := hrd e he
   simp only [Function.comp, WideElems.rg, h2, h1, Option.getD_some, Go.strOf]
  rw [e1]
  have hp3 := hM.kv.map fun y : Value × Value => match y.1 with
   | .string s => s.data.toList
   | _ => []
  refine hp3.trans ?_
  have e2 : (kvB es).map (fun y : Value × Value => match y.1 with
   | .string s => s.data.toList
   | _ => []) = es.map (·.1) := by
   rw [kvB, List.map_map]
   exact List.map_congr_left fun x _ => by simp
  rw [e2]
 ·have hp := WideShapes.sorted_perm (ents.toList.map (WideElems.rg Tryz.prog 9 (fun _ => some ((DataW.nil : DataW Unit), []))))
  have := hp.length_eq
  simp only [Maps.size, this, List.length_map, hsz]
theorem dB (es : List (List UInt8 × Bool)) (hs : kSort es) (hl : es.length <= 1000000) (hk : ∀ x, x ∈ es -> x.1.length <= 1000000) :
  SpG g 59 [.c (.fn 113 [] [(0, 0)])] [(0, .box 47 [.mp 1]), (1, .box ⟨.mpb es, none⟩ [])] (.c (cM 1 (strs (es.map (·.1))))) [(0, .box 47 [.mp 1]), (1, .box ⟨.mpb es, none⟩ [])] := by
 intro fr w pl args hw hG m ha
 obtain ⟨v, r, rfl, h1, h2⟩ := ha.uncons
 rw [h2.unnil]
 obtain ⟨_, rfl⟩ := h1
 obtain ⟨vs, hv, hc⟩ := m.obj 0 _ rfl
 obtain ⟨y, r', rfl, hy, hr'⟩ := hc.uncons
 rw [hr'.unnil] at hv
 obtain ⟨_, rfl⟩ := hy
 obtain ⟨vs1, ⟨ents, clock, hb, hM⟩, _⟩ := m.obj 1 _ rfl
 have hv : w.heap[pl.blk 0]? = some (.cells #[.map (some (pl.blk 1))] 47 (0, 0)) := hv
 obtain ⟨D0, hown, hperm, hsize⟩ := aL4 hb hM hl hk
 have hcall := callsIn_wide.1 (Tryz.sorted_keysK (pl.blk 0) (pl.blk 1) ents.size D0 _ w (Array.getElem?_eq_some_iff.1 hv).1 (by rw [Lib.cell_of_heap hv]; rfl) hown (by rw [hsize]; unfold maxLen; omega) (by rw [hsize]; omega))
 refine Calls.mono hcall ?_
 rintro e w' ⟨v, ss, rfl, hp, hrow, _, hbl⟩
 obtain ⟨m', L⟩ := m.ext (w' := w') ⟨hbl.os, hbl.tape, hbl.output, hbl.size, fun k hk _ => hbl.block k hk⟩
 have hpe := hp.trans hperm
 rw [aG5 hs hpe] at hrow
 have hlen : ss.length = ((es.map (·.1)).map encStr).length := by have := hpe.length_eq; simp only [List.length_map] at this ⊢; exact this
 rw [hlen] at hrow
 have := aET m hw hrow (fun x hx => by obtain ⟨z, _, rfl⟩ := List.mem_map.1 hx; rfl)
 refine ⟨_, pl, rfl, m', ?_⟩
 have e : ((es.map (·.1)).map encStr).map (fun x => [D.v x]) = strs (es.map (·.1)) := by
  rw [List.map_map]; rfl
 rw [e] at this
 exact this
end Go.Proofs.YtclaplngjmgnoaaGreatDoor
namespace Go.Proofs.YtclaplngjmgnoaaGreatDoor
open Go.RowKit Go.V
open Go.Eng (inR byteAt u8 dS)
variable {g : Gv}
abbrev RS := List (List UInt8 × Bool)
def aK7 (a n : Int) : Bool := decide (1 <= n) && decide (n <= 8) && decide (1 <= a) && decide (a <= n)
def aP (t : List UInt8) (b : Bool) : List UInt8 := (if b then 45 else 43) :: (Lib.itoa (t.length : Int) ++ 58 :: (t ++ [10]))
def aJ (es : RS) : List UInt8 := es.flatMap fun x => aP x.1 x.2
structure RsOk (n : Int) (es : RS) : Prop where
 sort : kSort es
 len : es.length <= 4000
 it : ∀ x, x ∈ es -> j9 x.1
 au : ∀ x, x ∈ es -> 1 <= (aF x.1).author /\ (aF x.1).author <= n
theorem aL9 {t : List UInt8} (h : j9 t) : t.length <= 200000 := by
 obtain ⟨h1, h2⟩ := pV h
 have := pT h1
 rw [h2] at this; exact this
theorem RsOk.tlen {n : Int} {es : RS} (h : RsOk n es) {x : List UInt8 × Bool} (hx : x ∈ es) : x.1.length <= 200000 := aL9 (h.it x hx)
theorem mA {t : List UInt8} (h : t.length <= 200000) (b : Bool) : (aP t b).length <= 200100 := by
 have := eW (gC (n := t.length) (by omega))
 simp only [zq1, aP]
 omega
theorem xM {α : Type} {f : α -> List UInt8} {c : Nat} : ∀ {l : List α}, (∀ x, x ∈ l -> (f x).length <= c) -> (l.flatMap f).length <= c * l.length
 | [], _ => by simp
 | x :: l, h => by
  have h1 := h x (by simp)
  have h2 := xM (f := f) (l := l) fun y hy => h y (by simp [hy])
  simp only [zq0, List.flatMap_cons, Nat.mul_add, Nat.mul_one]
  omega
theorem aM0 {n : Int} {es : RS} (h : RsOk n es) (k : Nat) : (aJ (es.take k)).length <= 800400000 := by
 have := xM (f := fun x : List UInt8 × Bool => aP x.1 x.2) (l := es.take k) (c := 200100) fun x hx => mA (h.tlen (List.mem_of_mem_take hx)) x.2
 have h2 := h.len
 have h3 : (es.take k).length <= es.length := by rw [List.length_take]; omega
 unfold aJ
 omega
theorem aM1 {es : RS} {k : Nat} (h : k < es.length) : aJ (es.take (k + 1)) = aJ (es.take k) ++ aP (es.getD k ([], false)).1 (es.getD k ([], false)).2 := by
 rw [bY ([], false) h]; simp [aJ]
theorem nQ {es : RS} {k : Nat} (h : k < es.length) : (es.map (·.1)).getD k [] = (es.getD k ([], false)).1 := by simp [h]
theorem aFB {es : RS} (hs : kSort es) {k : Nat} (h : k < es.length) : lkM (es.getD k ([], false)).1 es = some (es.getD k ([], false)).2 := by
 refine d5 ?_ ?_
 ·have h2 : (es.map (·.1)).Pairwise (· < ·) := hs
  exact h2.imp fun {a b} h e => by rw [e] at h; exact List.lt_irrefl _ h
 ·exact a8 h
theorem aFI (t : List UInt8) (h : t.length <= 200000) : SpG g 55 [.c (cI ((S t).size : Int))] [] (.c (cS (S (Lib.itoa (t.length : Int))))) [] := by
 have := mC (g := g) (t.length : Int) (by omega) (by omega)
 rw [aH]; exact this
theorem nJ {t : List UInt8} (h : j9 t) : SpG g 38 [.c (cS (S t))] [] (.tup [(true, [cI ((aF t).id), cI ((aF t).author), cI ((aF t).rank), cI ((aF t).time), cI ((aF t).kind), cM 7 (aI ((aF t).input)), cI (tvK ((aF t).output)), cS (S (tvS ((aF t).output))), cI 0, cI 0, cI 0, cM 1 ([] : LD), cM 1 ([] : LD), cS (S (aF t).prop), cS (S (aF t).param), cM 1 (intsD ((aF t).program))]), (false, [cB true])]) [] := by
 obtain ⟨h1, h2⟩ := pV h
 have := aIK (g := g) (aF t) h1
 rw [h2] at this
 exact this
theorem mB {n : Int} {es : RS} (h : RsOk n es) {k : Nat} (hk : k < es.length) : ((es.map (·.1)).getD k []).length <= 200000 := by
 rw [nQ hk]; exact h.tlen (a8 hk)
theorem aL6 {n : Int} {es : RS} (h : RsOk n es) {k : Nat} (hk : k < es.length) : j9 ((es.map (·.1)).getD k []) := by
 rw [nQ hk]; exact h.it _ (a8 hk)
theorem aA7 {es : RS} (hs : kSort es) {k : Nat} (h : k < es.length) : bytesD (aJ (es.take k)) ++ bytesD (S (aP ((es.map (·.1)).getD k []) ((lkM ((es.map (·.1)).getD k []) es).getD false))).data.toList = bytesD (aJ (es.take (k + 1))) := by
 rw [nQ h, aFB hs h, aM1 h, lF, cD]; rfl
abbrev y25 (a0 : Int) (a1 : Int) : Ob := .box 73 [cI a0, cI a1, .mp 1]
theorem eM (a n : Int) (es : RS) :
  SpG g 32 [.c (.bx 0 0)] [(0, y25 a n), (1, mBQ es)] (.c (cB false)) [(0, y25 a n), (1, mBQ es)] := by
 refine aQ 12 Tryz.func32 (by kernel_rfl) fun fr hG => ?_
 exact zr hG [] [] aC
def yG := And.intro @List.length_cons.{0} (And.intro @List.length_nil.{0} (And.intro @aH (@maxLen.eq_1)))
theorem iD (t : List UInt8) (b : Bool) (h : t.length <= 200000) :
  SpG g 35 [.c (cS (S t)), .c (cB b)] [] (.c (cS (S (aP t b)))) [] := by
 have hl := eW (gC (n := t.length) (by omega))
 refine aQ 16 Tryz.func35 (by kernel_rfl) fun fr hG => ?_
 refine zC hG [] [1, 0, 1, 1] (b) (⟨[zS 0 (S t), zS 4 (S []), zS 5 (S [43])], []⟩) aC (fun hc1 => ?_) (fun hc1 => ?_)
 (try simp only [blS] at hc1)
 refine zR hG [(4, 3, kS (S (Lib.itoa (t.length : Int))))] [] (.c (cS (((((S [45]) ++ (S (Lib.itoa (t.length : Int)))) ++ (S [58])) ++ (S t)) ++ (S [10])))) [] (cS2 g (aFI t h) (aA (by intros; (try simp only [yG, ByteArray.size_append] at *); omega : (S [45]).size + (S (Lib.itoa (t.length : Int))).size <= maxLen) (aA (by intros; (try simp only [yG, ByteArray.size_append] at *); omega : ((S [45]) ++ (S (Lib.itoa (t.length : Int)))).size + (S [58]).size <= maxLen) (aA (by intros; (try simp only [yG, ByteArray.size_append] at *); omega : (((S [45]) ++ (S (Lib.itoa (t.length : Int)))) ++ (S [58])).size + (S t).size <= maxLen) (aB (by intros; (try simp only [yG, ByteArray.size_append] at *); omega : ((((S [45]) ++ (S (Lib.itoa (t.length : Int)))) ++ (S [58])) ++ (S t)).size + (S [10]).size <= maxLen)))))) ?_ ?_
 ·cases b <;> first | (exfalso; cases hc1; done) | (rw [eD, eD, eD, eD]; simp [aP]; done) | (exfalso; simp at hc1; done)
 rfl
 (try simp only [blS] at hc1)
 refine zR hG [(4, 3, kS (S (Lib.itoa (t.length : Int))))] [] (.c (cS (((((S [43]) ++ (S (Lib.itoa (t.length : Int)))) ++ (S [58])) ++ (S t)) ++ (S [10])))) [] (cS2 g (aFI t h) (aA (by intros; (try simp only [yG, ByteArray.size_append] at *); omega : (S [43]).size + (S (Lib.itoa (t.length : Int))).size <= maxLen) (aA (by intros; (try simp only [yG, ByteArray.size_append] at *); omega : ((S [43]) ++ (S (Lib.itoa (t.length : Int)))).size + (S [58]).size <= maxLen) (aA (by intros; (try simp only [yG, ByteArray.size_append] at *); omega : (((S [43]) ++ (S (Lib.itoa (t.length : Int)))) ++ (S [58])).size + (S t).size <= maxLen) (aB (by intros; (try simp only [yG, ByteArray.size_append] at *); omega : ((((S [43]) ++ (S (Lib.itoa (t.length : Int)))) ++ (S [58])) ++ (S t)).size + (S [10]).size <= maxLen)))))) ?_ ?_
 ·cases b <;> first | (exfalso; cases hc1; done) | (rw [eD, eD, eD, eD]; simp [aP]; done) | (exfalso; simp at hc1; done)
 rfl
theorem aL5 (es : RS) :
  SpG g 60 [.c (.mp 0)] [(0, mBQ es)] (.c (.fn 113 [] [(100, 0)])) [(100, .box 47 [.mp 0]), (0, mBQ es)] := by
 refine aQ 4 Tryz.func60 (by kernel_rfl) fun fr hG => ?_
 exact zr hG [] [100] aC
theorem jX (es : RS) :
  SpG g 60 [.c (.mp 0)] [(0, mBQ es)] (.c (.fn 113 [] [(100, 0)])) [(0, mBQ es), (100, .box 47 [.mp 0])] := by
 refine bO (aL5 es) ?_
 first | rfl | (funext i; simp only [aO, upd]; ((repeat' split) <;> first | rfl | (exfalso; omega)))
theorem aAE (a n : Int) (es : RS) :
  SpG g 33 [.c (.bx 0 0)] [(0, y25 a n), (1, mBQ es)] (.c (.fn 58 [] [(100, 0)])) [(100, .box 35 [.bx 0 0]), (0, y25 a n), (1, mBQ es)] := by
 refine aQ 4 Tryz.func33 (by kernel_rfl) fun fr hG => ?_
 exact zr hG [] [100] aC
theorem fS (a n : Int) (es : RS) :
  SpG g 33 [.c (.bx 0 0)] [(0, y25 a n), (1, mBQ es)] (.c (.fn 58 [] [(100, 0)])) [(0, y25 a n), (1, mBQ es), (100, .box 35 [.bx 0 0])] := by
 refine bO (aAE a n es) ?_
 first | rfl | (funext i; simp only [aO, upd]; ((repeat' split) <;> first | rfl | (exfalso; omega)))
theorem aBF (q : Option Nat) (es : LD) :
  SpG g 61 [.c (.bx 0 0)] [(0, .box ⟨.c 89, q⟩ [.d (.v (.pointer none)), .ar 1 0]), (1, .arr 0 5 1 (es))] (.tup []) [(0, .box ⟨.c 89, q⟩ [.bx 0 0, .ar 1 0]), (1, .arr 0 5 1 (es))] := by
 refine aQ 20 Tryz.func61 (by kernel_rfl) fun fr hG => ?_
 refine zc hG [] [1] (true) aC (fun _ => ?_) (fun hc1 => absurd hc1 (by decide))
 exact zr hG [] [] (aB (show mW Tryz.prog 114 from tY))
theorem aBE (q : Option Nat) (es : LD) :
  SpG g 61 [.c (.bx 0 0)] [(0, .box ⟨.c 89, q⟩ [.bx 0 0, .ar 1 0]), (1, .arr 0 5 1 (es))] (.tup []) [(0, .box ⟨.c 89, q⟩ [.bx 0 0, .ar 1 0]), (1, .arr 0 5 1 (es))] := by
 refine aQ 20 Tryz.func61 (by kernel_rfl) fun fr hG => ?_
 refine zc hG [] [1] (false) aC (fun hc1 => absurd hc1 (by decide)) (fun _ => ?_)
 refine zC hG [] [1, 1, 1] (false) (⟨[], [(0, .box ⟨.c 89, q⟩ [.bx 0 0, .ar 1 0]), (1, .arr 0 5 1 (es))]⟩) aC (fun hc2 => absurd hc2 (by decide)) (fun _ => ?_)
 exact zr hG [] [] aC
theorem sS (q : Option Nat) (es : LD) (s : ByteArray) (h : es.length + s.size <= 1000000000000) :
  SpG g 34 [.c (.bx 0 0), .c (cS s)] [(0, .box ⟨.c 89, q⟩ [.d (.v (.pointer none)), .ar 1 0]), (1, .arr 0 5 1 (es))] (y4 (s.size : Int)) [(0, .box ⟨.c 89, q⟩ [.bx 0 0, .ar 1 0]), (1, y5 (es ++ bytesD s.data.toList))] := by
 refine aQ 19 Tryz.func34 (by kernel_rfl) fun fr hG => ?_
 exact zr hG [(1, 1, .callG (.tup []) [0, 1] [(0, .box ⟨.c 89, q⟩ [.bx 0 0, .ar 1 0]), (1, .arr 0 5 1 (es))])] [] (cS2 g (aBF q (es)) (aB (by intros; first | assumption | omega : (es).length + (s).size <= 1000000000000)))
theorem sR (q : Option Nat) (es : LD) (s : ByteArray) (h : es.length + s.size <= 1000000000000) :
  SpG g 34 [.c (.bx 0 0), .c (cS s)] [(0, .box ⟨.c 89, q⟩ [.bx 0 0, .ar 1 0]), (1, .arr 0 5 1 (es))] (y4 (s.size : Int)) [(0, .box ⟨.c 89, q⟩ [.bx 0 0, .ar 1 0]), (1, y5 (es ++ bytesD s.data.toList))] := by
 refine aQ 19 Tryz.func34 (by kernel_rfl) fun fr hG => ?_
 exact zr hG [(1, 1, .callG (.tup []) [0, 1] [(0, .box ⟨.c 89, q⟩ [.bx 0 0, .ar 1 0]), (1, .arr 0 5 1 (es))])] [] (cS2 g (aBE q (es)) (aB (by intros; first | assumption | omega : (es).length + (s).size <= 1000000000000)))
theorem encY0 (b3 D l : Nat) (fn : FuncId) (tm : Array Value) (h3 : tm.getD 3 undef = .pointer (some ⟨b3, 0, none⟩)) (hn : tm.size = 17) (es : LD) (t : List UInt8) (w : Bool) (ht : t.length <= 200000) (he : es.length <= 900000000) :
  eC Tryz.prog (Gl g) l [.c (cS (S t)), .c (cB w)] [(0, zK Tryz.f14 [0, 1, 0, 1, 1, 1] fn tm D l), (1, .box ⟨.c 89, some b3⟩ [.d (.v (.pointer none)), .ar 2 0]), (2, .arr 0 5 1 (es))] (.c (cB true)) [(0, zK Tryz.f14 [0, 1, 0, 1, 1, 1] fn tm D l), (1, .box ⟨.c 89, some b3⟩ [.bx 1 0, .ar 2 0]), (2, y5 (es ++ bytesD (S (aP t w)).data.toList))] := by
 have hll := mA ht w
 refine gE (iL := 0) (p := 10) (p2 := 11) (env0 := [zX 3 1 0]) (n := 17) (r := (bB (aN Tryz.f14) [0, 1, 0, 1, 1, 1] fn tm D)) rfl (by kernel_rfl) hn (by decide) (by decide) (by decide) ⟨rfl, ⟨_, _, _, rfl, rfl, h3⟩, trivial⟩ fun fr hG => ?_
 refine oR hG cA [] (⟨[zX 3 1 0, zS 4 (S t), zB 5 w], [(0, zK Tryz.f14 [0, 1, 0, 1, 1, 1] fn tm D l), (1, .box ⟨.c 89, some b3⟩ [.d (.v (.pointer none)), .ar 2 0]), (2, .arr 0 5 1 (es))]⟩) 0 (r := (bB (aN Tryz.f14) [0, 1, 0, 1, 1, 1] fn tm D)) (by kernel_rfl) aC rfl rfl ?_
 refine iP hG (⟨[zX 3 1 0, zS 4 (S t), zB 5 w], [(0, .box ⟨.raw (.loop { (bB (aN Tryz.f14) [0, 1, 0, 1, 1, 1] fn tm D) with state := .busy }), some l⟩ []), (1, .box ⟨.c 89, some b3⟩ [.d (.v (.pointer none)), .ar 2 0]), (2, .arr 0 5 1 (es))]⟩) (by kernel_rfl) ?_
 refine oP hG cA [(7, 2, kS (S (aP (t) w))), (7, 3, .callG (y4 ((S (aP (t) w)).size : Int)) [1, 2] [(0, .box ⟨.c 89, some b3⟩ [.bx 0 0, .ar 1 0]), (1, y5 ((es) ++ bytesD (S (aP (t) w)).data.toList))])] [] 0 .normal [(0, .box ⟨.raw (mJ { (bB (aN Tryz.f14) [0, 1, 0, 1, 1, 1] fn tm D) with state := .busy } .normal), some l⟩ []), (2, y5 ((es) ++ bytesD (S (aP (t) w)).data.toList)), (1, .box ⟨.c 89, some b3⟩ [.bx 1 0, .ar 2 0])] (by kernel_rfl) (cS2 g (iD (t) w (by exact ht)) (cS1 g (sS (some b3) (es) (S (aP (t) w)) (by rw [aH]; omega)))) ?_ ?_
 rfl
 funext i; simp only [aO, upd]; (repeat' split) <;> first | rfl | (exfalso; omega)
theorem encY1 (b3 D l : Nat) (fn : FuncId) (tm : Array Value) (h3 : tm.getD 3 undef = .pointer (some ⟨b3, 0, none⟩)) (hn : tm.size = 17) (es : LD) (t : List UInt8) (w : Bool) (ht : t.length <= 200000) (he : es.length <= 900000000) :
  eC Tryz.prog (Gl g) l [.c (cS (S t)), .c (cB w)] [(0, zK Tryz.f14 [0, 1, 0, 1, 1, 1] fn tm D l), (1, .box ⟨.c 89, some b3⟩ [.bx 1 0, .ar 2 0]), (2, .arr 0 5 1 (es))] (.c (cB true)) [(0, zK Tryz.f14 [0, 1, 0, 1, 1, 1] fn tm D l), (1, .box ⟨.c 89, some b3⟩ [.bx 1 0, .ar 2 0]), (2, y5 (es ++ bytesD (S (aP t w)).data.toList))] := by
 have hll := mA ht w
 refine gE (iL := 0) (p := 10) (p2 := 11) (env0 := [zX 3 1 0]) (n := 17) (r := (bB (aN Tryz.f14) [0, 1, 0, 1, 1, 1] fn tm D)) rfl (by kernel_rfl) hn (by decide) (by decide) (by decide) ⟨rfl, ⟨_, _, _, rfl, rfl, h3⟩, trivial⟩ fun fr hG => ?_
 refine oR hG cA [] (⟨[zX 3 1 0, zS 4 (S t), zB 5 w], [(0, zK Tryz.f14 [0, 1, 0, 1, 1, 1] fn tm D l), (1, .box ⟨.c 89, some b3⟩ [.bx 1 0, .ar 2 0]), (2, .arr 0 5 1 (es))]⟩) 0 (r := (bB (aN Tryz.f14) [0, 1, 0, 1, 1, 1] fn tm D)) (by kernel_rfl) aC rfl rfl ?_
 refine iP hG (⟨[zX 3 1 0, zS 4 (S t), zB 5 w], [(0, .box ⟨.raw (.loop { (bB (aN Tryz.f14) [0, 1, 0, 1, 1, 1] fn tm D) with state := .busy }), some l⟩ []), (1, .box ⟨.c 89, some b3⟩ [.bx 1 0, .ar 2 0]), (2, .arr 0 5 1 (es))]⟩) (by kernel_rfl) ?_
 refine oP hG cA [(7, 2, kS (S (aP (t) w))), (7, 3, .callG (y4 ((S (aP (t) w)).size : Int)) [1, 2] [(0, .box ⟨.c 89, some b3⟩ [.bx 0 0, .ar 1 0]), (1, y5 ((es) ++ bytesD (S (aP (t) w)).data.toList))])] [] 0 .normal [(0, .box ⟨.raw (mJ { (bB (aN Tryz.f14) [0, 1, 0, 1, 1, 1] fn tm D) with state := .busy } .normal), some l⟩ []), (2, y5 ((es) ++ bytesD (S (aP (t) w)).data.toList)), (1, .box ⟨.c 89, some b3⟩ [.bx 1 0, .ar 2 0])] (by kernel_rfl) (cS2 g (iD (t) w (by exact ht)) (cS1 g (sR (some b3) (es) (S (aP (t) w)) (by rw [aH]; omega)))) ?_ ?_
 rfl
 funext i; simp only [aO, upd]; (repeat' split) <;> first | rfl | (exfalso; omega)
def pI := And.intro @List.length_map.{0, 0} (And.intro @blS (@strs.eq_1))
def aJD := And.intro @List.length_map.{0, 0} (And.intro @Go.Eng.inR.eq_1 (@strs.eq_1))
abbrev y26 (a0 : Int) (a1 : Int) : Ob := .box 73 [cI a0, cI a1, .mp 5]
theorem encIt_ (b0 b4 b5 : Nat) (b3 D l : Nat) (fn : FuncId) (tm : Array Value) (h3 : tm.getD 3 undef = .pointer (some ⟨b3, 0, none⟩)) (hn : tm.size = 17) (a n : Int) (es : RS) (hes : RsOk n es) (hne : es ≠ []) :
  SpG g 58 [.c (.d (.v (.func (.yield l) #[] #[]))), .c (.bx 0 0)] [(0, .box ⟨.c 35, some b0⟩ [.bx 4 0]), (1, zK Tryz.f14 [0, 1, 0, 1, 1, 1] fn tm D l), (2, .box ⟨.c 89, some b3⟩ [.d (.v (.pointer none)), .ar 3 0]), (3, y5 ([] : LD)), (4, .box ⟨.c 73, some b4⟩ [cI a, cI n, .mp 5]), (5, .box ⟨.mpb (es), some b5⟩ [])] (.tup []) [(0, .box ⟨.c 35, some b0⟩ [.bx 4 0]), (1, zK Tryz.f14 [0, 1, 0, 1, 1, 1] fn tm D l), (2, .box ⟨.c 89, some b3⟩ [.bx 2 0, .ar 3 0]), (3, y5 (bytesD (aJ es))), (4, y26 a n), (5, mBQ es)] := by
 have hle := hes.len
 have hpos := List.length_pos_iff.2 hne
 have hsl : (strs (es.map (·.1))).length = es.length := by rw [strs, List.length_map, List.length_map]
 refine aQ 27 Tryz.func58 (by kernel_rfl) fun fr hG => ?_
 refine iJ [4, 5] (⟨[(0, [], .c (.d (.v (.func (.yield l) #[] #[])))), zX 1 0 0], [(0, .box ⟨.c 35, some b0⟩ [.bx 4 0]), (1, zK Tryz.f14 [0, 1, 0, 1, 1, 1] fn tm D l), (2, .box ⟨.c 89, some b3⟩ [.d (.v (.pointer none)), .ar 3 0]), (3, y5 ([] : LD)), (4, y26 a n), (5, mBQ es)]⟩) (by kernel_rfl) ?_
 refine oQ hG cA [(0, 4, .callG (.c (.fn 113 [] [(100, 0)])) [5] [(0, mBQ es), (100, .box 47 [.mp 0])]), (0, 5, .callG (.c (cM 1 (strs (es.map (·.1))))) [104, 5] [(0, .box 47 [.mp 1]), (1, mBQ es)])] [0, 1] ((fun (zz : Nat × LD) => match zz with | (0, eb) => ⟨[(0, [], .c (.d (.v (.func (.yield l) #[] #[])))), zX 1 0 0, zM 10 1 (strs (es.map (·.1))), zI 11 ((strs (es.map (·.1))).length : Int), zI 12 0], [(0, .box ⟨.c 35, some b0⟩ [.bx 4 0]), (1, zK Tryz.f14 [0, 1, 0, 1, 1, 1] fn tm D l), (2, .box ⟨.c 89, some b3⟩ [.d (.v (.pointer none)), .ar 3 0]), (3, .arr 0 5 1 (eb)), (4, y26 a n), (5, mBQ es)]⟩ | (k + 1, eb) => ⟨[(0, [], .c (.d (.v (.func (.yield l) #[] #[])))), zX 1 0 0, zM 10 1 (strs (es.map (·.1))), zI 11 ((strs (es.map (·.1))).length : Int), zI 12 ((k + 1 : Nat) : Int)], [(0, .box ⟨.c 35, some b0⟩ [.bx 4 0]), (1, zK Tryz.f14 [0, 1, 0, 1, 1, 1] fn tm D l), (2, .box ⟨.c 89, some b3⟩ [.bx 2 0, .ar 3 0]), (3, .arr 0 5 1 (eb)), (4, y26 a n), (5, mBQ es)]⟩) (0, [])) _ (by kernel_rfl) (cS2 g (jX es) (cS1 g (dB es (by exact hes.sort) (by have := hes.len; omega) (by intro x hx; have := hes.tlen hx; omega)))) ?_
 refine aLV (σ := Nat × LD) (fun (zz : Nat × LD) => match zz with | (k, eb) => es.length - k) (fun (zz : Nat × LD) => match zz with | (0, eb) => ⟨[(0, [], .c (.d (.v (.func (.yield l) #[] #[])))), zX 1 0 0, zM 10 1 (strs (es.map (·.1))), zI 11 ((strs (es.map (·.1))).length : Int), zI 12 0], [(0, .box ⟨.c 35, some b0⟩ [.bx 4 0]), (1, zK Tryz.f14 [0, 1, 0, 1, 1, 1] fn tm D l), (2, .box ⟨.c 89, some b3⟩ [.d (.v (.pointer none)), .ar 3 0]), (3, .arr 0 5 1 (eb)), (4, y26 a n), (5, mBQ es)]⟩ | (k + 1, eb) => ⟨[(0, [], .c (.d (.v (.func (.yield l) #[] #[])))), zX 1 0 0, zM 10 1 (strs (es.map (·.1))), zI 11 ((strs (es.map (·.1))).length : Int), zI 12 ((k + 1 : Nat) : Int)], [(0, .box ⟨.c 35, some b0⟩ [.bx 4 0]), (1, zK Tryz.f14 [0, 1, 0, 1, 1, 1] fn tm D l), (2, .box ⟨.c 89, some b3⟩ [.bx 2 0, .ar 3 0]), (3, .arr 0 5 1 (eb)), (4, y26 a n), (5, mBQ es)]⟩) (fun (zz : Nat × LD) => match zz with | (k, eb) => k <= es.length /\ eb = bytesD (aJ (es.take k))) (0, []) (by kernel_rfl) ?_ ?_
 ·exact ⟨Nat.zero_le _, rfl⟩
 rintro ⟨k, eb⟩ ⟨hk, heb⟩
 have hel : eb.length <= 800400000 := by rw [heb, aY]; exact aM0 hes k
 rcases k with _ | k <;> (try dsimp only at hk heb)
 ·skip
  refine zc hG [] [0, 1] (decide ((0 : Int) < ((strs (es.map (·.1))).length : Int))) aC (fun hc2 => ?_) (fun hc2 => ?_)
  ·(try simp only [pI] at hc2)
   refine zC hG [(2, 0, .elem (dQ ((es.map (·.1)).getD 0 []))), (3, 8, .callG (.c (cB true)) [1, 2, 3] [(0, zK Tryz.f14 [0, 1, 0, 1, 1, 1] fn tm D l), (1, .box ⟨.c 89, some b3⟩ [.bx 1 0, .ar 2 0]), (2, y5 ((eb) ++ bytesD (S (aP ((es.map (·.1)).getD 0 []) ((lkM ((es.map (·.1)).getD 0 []) es).getD false))).data.toList))])] [1, 1, 0, 0, 1, 1] (false) (⟨[(0, [], .c (.d (.v (.func (.yield l) #[] #[])))), zX 1 0 0, zM 10 1 (strs (es.map (·.1))), zI 11 ((strs (es.map (·.1))).length : Int), zI 12 0], [(0, .box ⟨.c 35, some b0⟩ [.bx 4 0]), (1, zK Tryz.f14 [0, 1, 0, 1, 1, 1] fn tm D l), (2, .box ⟨.c 89, some b3⟩ [.bx 2 0, .ar 3 0]), (3, y5 ((eb) ++ bytesD (S (aP ((es.map (·.1)).getD 0 []) ((lkM ((es.map (·.1)).getD 0 []) es).getD false))).data.toList)), (4, y26 a n), (5, mBQ es)]⟩) (aA (by intros; exact cH (f := dQ) [] (by omega) (by (try simp only [zq4] at *); omega) : (0 : Int) <= 0 /\ (strs (es.map (·.1)))[0]? = some (dQ ((es.map (·.1)).getD 0 []))) (aB (encY0 b3 D l fn tm h3 hn (eb) ((es.map (·.1)).getD 0 []) ((lkM ((es.map (·.1)).getD 0 []) es).getD false) (by exact mB hes (by omega)) (by omega) : eC Tryz.prog (Gl g) _ _ _ _ _))) (fun hc3 => absurd hc3 (by decide)) (fun _ => ?_)
   refine zD hG [] (1, (eb) ++ bytesD (S (aP (((es.map (·.1))).getD 0 []) ((lkM (((es.map (·.1))).getD 0 []) es).getD false))).data.toList) (aB (by unfold inR; decide : inR (0 + 1))) ?_ ?_
   ·(try dsimp only); omega
   ·exact ⟨by omega, by rw [heb]; exact aA7 hes.sort (k := 0) (by omega)⟩
  ·(try simp only [pI] at hc2)
   refine zE hG [] (.exit 0) (⟨[], [(0, .box ⟨.c 35, some b0⟩ [.bx 4 0]), (1, zK Tryz.f14 [0, 1, 0, 1, 1, 1] fn tm D l), (2, .box ⟨.c 89, some b3⟩ [.d (.v (.pointer none)), .ar 3 0]), (3, .arr 0 5 1 (eb)), (4, y26 a n), (5, mBQ es)]⟩) aC rfl ?_
   refine zR hG [] [] (.tup []) [(0, .box ⟨.c 35, some b0⟩ [.bx 4 0]), (1, zK Tryz.f14 [0, 1, 0, 1, 1, 1] fn tm D l), (2, .box ⟨.c 89, some b3⟩ [.d (.v (.pointer none)), .ar 3 0]), (3, .arr 0 5 1 (eb)), (4, y26 a n), (5, mBQ es)] aC ?_ ?_
   ·exfalso; omega
   ·exfalso; omega
 ·skip
  refine zc hG [] [0, 1] (decide ((((k + 1 : Nat) : Int) : Int) < ((strs (es.map (·.1))).length : Int))) aC (fun hc4 => ?_) (fun hc4 => ?_)
  ·(try simp only [pI] at hc4)
   refine zC hG [(2, 0, .elem (dQ ((es.map (·.1)).getD (k + 1 : Nat) []))), (3, 8, .callG (.c (cB true)) [1, 2, 3] [(0, zK Tryz.f14 [0, 1, 0, 1, 1, 1] fn tm D l), (1, .box ⟨.c 89, some b3⟩ [.bx 1 0, .ar 2 0]), (2, y5 ((eb) ++ bytesD (S (aP ((es.map (·.1)).getD (k + 1 : Nat) []) ((lkM ((es.map (·.1)).getD (k + 1 : Nat) []) es).getD false))).data.toList))])] [1, 1, 0, 0, 1, 1] (false) (⟨[(0, [], .c (.d (.v (.func (.yield l) #[] #[])))), zX 1 0 0, zM 10 1 (strs (es.map (·.1))), zI 11 ((strs (es.map (·.1))).length : Int), zI 12 ((k + 1 : Nat) : Int)], [(0, .box ⟨.c 35, some b0⟩ [.bx 4 0]), (1, zK Tryz.f14 [0, 1, 0, 1, 1, 1] fn tm D l), (2, .box ⟨.c 89, some b3⟩ [.bx 2 0, .ar 3 0]), (3, y5 ((eb) ++ bytesD (S (aP ((es.map (·.1)).getD (k + 1 : Nat) []) ((lkM ((es.map (·.1)).getD (k + 1 : Nat) []) es).getD false))).data.toList)), (4, y26 a n), (5, mBQ es)]⟩) (aA (by intros; exact cH (f := dQ) [] (by omega) (by (try simp only [zq4] at *); omega) : (0 : Int) <= ((k + 1 : Nat) : Int) /\ (strs (es.map (·.1)))[(k + 1 : Nat)]? = some (dQ ((es.map (·.1)).getD (k + 1 : Nat) []))) (aB (encY1 b3 D l fn tm h3 hn (eb) ((es.map (·.1)).getD (k + 1 : Nat) []) ((lkM ((es.map (·.1)).getD (k + 1 : Nat) []) es).getD false) (by exact mB hes (by omega)) (by omega) : eC Tryz.prog (Gl g) _ _ _ _ _))) (fun hc5 => absurd hc5 (by decide)) (fun _ => ?_)
   refine zD hG [] (k + 1 + 1, (eb) ++ bytesD (S (aP (((es.map (·.1))).getD (k + 1 : Nat) []) ((lkM (((es.map (·.1))).getD (k + 1 : Nat) []) es).getD false))).data.toList) (aB (by intros; (try simp only [aJD] at *); omega : inR (((k + 1 : Nat) : Int) + 1))) ?_ ?_
   ·(try dsimp only); omega
   ·exact ⟨by omega, by rw [heb]; exact aA7 hes.sort (k := k + 1) (by omega)⟩
  ·(try simp only [pI] at hc4)
   refine zE hG [] (.exit 0) (⟨[], [(0, .box ⟨.c 35, some b0⟩ [.bx 4 0]), (1, zK Tryz.f14 [0, 1, 0, 1, 1, 1] fn tm D l), (2, .box ⟨.c 89, some b3⟩ [.bx 2 0, .ar 3 0]), (3, .arr 0 5 1 (eb)), (4, y26 a n), (5, mBQ es)]⟩) aC rfl ?_
   refine zR hG [] [] (.tup []) [(0, .box ⟨.c 35, some b0⟩ [.bx 4 0]), (1, zK Tryz.f14 [0, 1, 0, 1, 1, 1] fn tm D l), (2, .box ⟨.c 89, some b3⟩ [.bx 2 0, .ar 3 0]), (3, .arr 0 5 1 (eb)), (4, y26 a n), (5, mBQ es)] aC ?_ ?_
   ·rfl
   ·have hk2 : k + 1 = es.length := by omega
    rw [hk2, List.take_length] at heb
    rw [heb]
theorem encIt (b0 b4 b5 : Nat) (b3 D l : Nat) (fn : FuncId) (tm : Array Value) (h3 : tm.getD 3 undef = .pointer (some ⟨b3, 0, none⟩)) (hn : tm.size = 17) (a n : Int) (es : RS) (hes : RsOk n es) (hne : es ≠ []) :
  SpG g 58 [.c (.d (.v (.func (.yield l) #[] #[]))), .c (.bx 0 0)] [(0, .box ⟨.c 35, some b0⟩ [.bx 4 0]), (1, zK Tryz.f14 [0, 1, 0, 1, 1, 1] fn tm D l), (2, .box ⟨.c 89, some b3⟩ [.d (.v (.pointer none)), .ar 3 0]), (3, y5 ([] : LD)), (4, .box ⟨.c 73, some b4⟩ [cI a, cI n, .mp 5]), (5, .box ⟨.mpb (es), some b5⟩ [])] (.tup []) [(0, .box ⟨.c 35, some b0⟩ [.bx 4 0]), (1, zK Tryz.f14 [0, 1, 0, 1, 1, 1] fn tm D l), (2, .box ⟨.c 89, some b3⟩ [.bx 2 0, .ar 3 0]), (3, y5 (bytesD (aJ es))), (4, y26 a n), (5, mBQ es)] := by
 refine bO (encIt_ b0 b4 b5 b3 D l fn tm h3 hn a n es hes hne) ?_
 first | rfl | (funext i; simp only [aO, upd]; ((repeat' split) <;> first | rfl | (exfalso; omega)))
theorem encIt0_ (b0 b4 b5 : Nat) (b3 D l : Nat) (fn : FuncId) (tm : Array Value) (h3 : tm.getD 3 undef = .pointer (some ⟨b3, 0, none⟩)) (hn : tm.size = 17) (a n : Int) (es : RS) (hes : RsOk n es) (hz : es = []) :
  SpG g 58 [.c (.d (.v (.func (.yield l) #[] #[]))), .c (.bx 0 0)] [(0, .box ⟨.c 35, some b0⟩ [.bx 4 0]), (1, zK Tryz.f14 [0, 1, 0, 1, 1, 1] fn tm D l), (2, .box ⟨.c 89, some b3⟩ [.d (.v (.pointer none)), .ar 3 0]), (3, y5 ([] : LD)), (4, .box ⟨.c 73, some b4⟩ [cI a, cI n, .mp 5]), (5, .box ⟨.mpb (es), some b5⟩ [])] (.tup []) [(0, .box ⟨.c 35, some b0⟩ [.bx 4 0]), (1, zK Tryz.f14 [0, 1, 0, 1, 1, 1] fn tm D l), (2, .box ⟨.c 89, some b3⟩ [.d (.v (.pointer none)), .ar 3 0]), (3, y5 ([] : LD)), (4, y26 a n), (5, mBQ es)] := by
 have hsl : (strs (es.map (·.1))).length = 0 := by rw [hz]; rfl
 refine aQ 27 Tryz.func58 (by kernel_rfl) fun fr hG => ?_
 refine iJ [4, 5] (⟨[(0, [], .c (.d (.v (.func (.yield l) #[] #[])))), zX 1 0 0], [(0, .box ⟨.c 35, some b0⟩ [.bx 4 0]), (1, zK Tryz.f14 [0, 1, 0, 1, 1, 1] fn tm D l), (2, .box ⟨.c 89, some b3⟩ [.d (.v (.pointer none)), .ar 3 0]), (3, y5 ([] : LD)), (4, y26 a n), (5, mBQ es)]⟩) (by kernel_rfl) ?_
 refine zL hG [(0, 4, .callG (.c (.fn 113 [] [(100, 0)])) [5] [(0, mBQ es), (100, .box 47 [.mp 0])]), (0, 5, .callG (.c (cM 1 (strs (es.map (·.1))))) [104, 5] [(0, .box 47 [.mp 1]), (1, mBQ es)])] [0, 1] (fun (zz : Nat) => match zz with | k => (0, ⟨[(0, [], .c (.d (.v (.func (.yield l) #[] #[])))), zX 1 0 0, zM 10 1 (strs (es.map (·.1))), zI 11 ((strs (es.map (·.1))).length : Int), zI 12 (k : Int)], [(0, .box ⟨.c 35, some b0⟩ [.bx 4 0]), (1, zK Tryz.f14 [0, 1, 0, 1, 1, 1] fn tm D l), (2, .box ⟨.c 89, some b3⟩ [.d (.v (.pointer none)), .ar 3 0]), (3, y5 ([] : LD)), (4, y26 a n), (5, mBQ es)]⟩, k = 0)) 0 (cS2 g (jX es) (cS1 g (dB es (by exact hes.sort) (by have := hes.len; omega) (by intro x hx; have := hes.tlen hx; omega)))) ?_ ?_
 ·exact rfl
 rintro k hk
 refine zp hG [] [0, 1] (((k : Int) : Int) < ((strs (es.map (·.1))).length : Int)) aC (fun hc2 => ?_) (fun hc2 => ?_)
 ·skip
  omega
 ·skip
  refine zE hG [] (.exit 0) (⟨[], [(0, .box ⟨.c 35, some b0⟩ [.bx 4 0]), (1, zK Tryz.f14 [0, 1, 0, 1, 1, 1] fn tm D l), (2, .box ⟨.c 89, some b3⟩ [.d (.v (.pointer none)), .ar 3 0]), (3, y5 ([] : LD)), (4, y26 a n), (5, mBQ es)]⟩) aC rfl ?_
  exact zr hG [] [] aC
theorem encIt0 (b0 b4 b5 : Nat) (b3 D l : Nat) (fn : FuncId) (tm : Array Value) (h3 : tm.getD 3 undef = .pointer (some ⟨b3, 0, none⟩)) (hn : tm.size = 17) (a n : Int) (es : RS) (hes : RsOk n es) (hz : es = []) :
  SpG g 58 [.c (.d (.v (.func (.yield l) #[] #[]))), .c (.bx 0 0)] [(0, .box ⟨.c 35, some b0⟩ [.bx 4 0]), (1, zK Tryz.f14 [0, 1, 0, 1, 1, 1] fn tm D l), (2, .box ⟨.c 89, some b3⟩ [.d (.v (.pointer none)), .ar 3 0]), (3, y5 ([] : LD)), (4, .box ⟨.c 73, some b4⟩ [cI a, cI n, .mp 5]), (5, .box ⟨.mpb (es), some b5⟩ [])] (.tup []) [(0, .box ⟨.c 35, some b0⟩ [.bx 4 0]), (1, zK Tryz.f14 [0, 1, 0, 1, 1, 1] fn tm D l), (2, .box ⟨.c 89, some b3⟩ [.d (.v (.pointer none)), .ar 3 0]), (3, y5 ([] : LD)), (4, y26 a n), (5, mBQ es)] := by
 refine bO (encIt0_ b0 b4 b5 b3 D l fn tm h3 hn a n es hes hz) ?_
 first | rfl | (funext i; simp only [aO, upd]; ((repeat' split) <;> first | rfl | (exfalso; omega)))
theorem pR (es : LD) (r : ByteArray) (h : es = bytesD r.data.toList) :
  SpG g 36 [.c (.bx 0 0)] [(0, .box 89 [.d (.v (.pointer none)), .ar 1 0]), (1, .arr 0 5 1 (es))] (.c (cS r)) [(1, .arr 0 5 1 []), (0, .box 89 [.d (.v (.pointer none)), .any])] := by
 refine aQ 14 Tryz.func36 (by kernel_rfl) fun fr hG => ?_
 exact zr hG [(1, 10, kS (r))] [] (aA (show es = bytesD (r).data.toList from h) (aB (by intros; first | assumption | (rw [h, aY]; rfl) : (((es).length : Int) : Int) = ((r).size : Int))))
theorem sG (es : LD) (r : ByteArray) (h : es = bytesD r.data.toList) :
  SpG g 36 [.c (.bx 0 0)] [(0, .box 89 [.d (.v (.pointer none)), .ar 1 0]), (1, .arr 0 5 1 es)] (.c (cS r)) [(0, .box 89 [.d (.v (.pointer none)), .any]), (1, .arr 0 5 1 [])] :=
 bO (pR es r h) (by funext i; match i with | 0 => rfl | 1 => rfl | i + 2 => rfl)
theorem aD1 (a n : Int) (es : RS) (hes : RsOk n es) :
  SpG g 14 [.c (.bx 0 0)] [(0, y25 a n), (1, mBQ es)] (.c (cS (S (aJ es)))) [(0, y25 a n), (1, mBQ es)] := by
 refine r3 17 Tryz.func14 (by kernel_rfl) fun fr hG => ?_
 refine zC hG [(1, 1, .callG (.c (cB false)) [0, 1] [(0, y25 a n), (1, mBQ es)])] [1, 0, 1] (false) (⟨[zX 0 0 0, zS 2 (S [])], [(0, y25 a n), (1, mBQ es)]⟩) (cS1 g (eM a n es)) (fun hc1 => absurd hc1 (by decide)) (fun _ => ?_)
 refine oQ hG cA [(4, 1, .callG (.c (.fn 58 [] [(100, 0)])) [0, 1] [(0, y25 a n), (1, mBQ es), (100, .box 35 [.bx 0 0])])] [0, 1, 0, 1, 1, 1] (⟨[zS 2 (S []), zX 3 400 0, (9, [], .c (.fn 58 [] [(501, 0)]))], [(0, y25 a n), (1, mBQ es), (400, y3), (501, .box 35 [.bx 0 0])]⟩) _ (by kernel_rfl) (cS1 g (fS a n es)) ?_
 refine aJ3 hG [] [(400, 1, 9003, 5, 1)] (⟨[zS 2 (S []), zX 3 400 0, (9, [], .c (.fn 58 [] [(501, 0)]))], [(0, y25 a n), (1, mBQ es), (400, .box 89 [.d (.v (.pointer none)), .ar 9003 0]), (501, .box 35 [.bx 0 0]), (9003, y5 ([] : LD))]⟩) (by kernel_rfl) ?_
 refine qS (g := 9) (ps := rgP (aN Tryz.f14) [0, 1, 0, 1, 1, 1]) (assign := rgA (aN Tryz.f14) [0, 1, 0, 1, 1, 1]) (body := rgB (aN Tryz.f14) [0, 1, 0, 1, 1, 1]) hG (by kernel_rfl) 9900 9901 9910 (by kernel_rfl) rfl (by kernel_rfl) fun b D l fn tm hT hn => ?_
 rcases Classical.em (es = []) with hz | hz
 skip
 refine ⟨.tup [], [501, 9901, 400, 9003, 0, 1], [(0, .box ⟨.c 35, some (b 501)⟩ [.bx 4 0]), (1, zK Tryz.f14 [0, 1, 0, 1, 1, 1] fn tm D l), (2, .box ⟨.c 89, some (b 400)⟩ [.d (.v (.pointer none)), .ar 3 0]), (3, y5 ([] : LD)), (4, y26 a n), (5, mBQ es)], none, ⟨[zS 2 (S []), zX 3 400 0], [(0, y25 a n), (1, mBQ es), (400, .box ⟨.c 89, some (b 400)⟩ [.d (.v (.pointer none)), .ar 9003 0]), (9003, y5 ([] : LD)), (9900, .box ⟨.raw (.deferred (some [])), some D⟩ [])]⟩, _, .normal, by kernel_rfl, cS1 g (encIt0 (b 501) (b 0) (b 1) (b 400) D l fn tm (hT.bx 3 400 0 rfl) hn a n es hes hz), rfl, ?_⟩
 have hG0 := hG
 replace hG := fI (D := D) hG
 refine iJ [0, 1, 400] (⟨[zS 2 (S []), zX 3 400 0], [(0, y25 a n), (1, mBQ es), (400, .box 89 [.d (.v (.pointer none)), .ar 9003 0]), (9003, y5 ([] : LD)), (9900, .box ⟨.raw (.deferred (some [])), some D⟩ [])]⟩) (by kernel_rfl) ?_
 refine m0 hG0 cA [(8, 0, .callG (.c (cS (S (aJ es)))) [400, 9003] [(0, .box 89 [.d (.v (.pointer none)), .any]), (1, y5 ([] : LD))])] [] 9900 (.c (cS (S (aJ es)))) [(0, y25 a n), (1, mBQ es)] (by kernel_rfl) (cS1 g (sG ([] : LD) (S (aJ es)) (by first | (rw [cD]; done) | (rw [hz]; rfl)))) ?_ ?_
 rfl
 rfl
 skip
 refine ⟨.tup [], [501, 9901, 400, 9003, 0, 1], [(0, .box ⟨.c 35, some (b 501)⟩ [.bx 4 0]), (1, zK Tryz.f14 [0, 1, 0, 1, 1, 1] fn tm D l), (2, .box ⟨.c 89, some (b 400)⟩ [.bx 2 0, .ar 3 0]), (3, y5 (bytesD (aJ es))), (4, y26 a n), (5, mBQ es)], none, ⟨[zS 2 (S []), zX 3 400 0], [(0, y25 a n), (1, mBQ es), (400, .box ⟨.c 89, some (b 400)⟩ [.bx 400 0, .ar 9003 0]), (9003, y5 (bytesD (aJ es))), (9900, .box ⟨.raw (.deferred (some [])), some D⟩ [])]⟩, _, .normal, by kernel_rfl, cS1 g (encIt (b 501) (b 0) (b 1) (b 400) D l fn tm (hT.bx 3 400 0 rfl) hn a n es hes hz), rfl, ?_⟩
 have hG0 := hG
 replace hG := fI (D := D) hG
 refine iJ [0, 1, 400] (⟨[zS 2 (S []), zX 3 400 0], [(0, y25 a n), (1, mBQ es), (400, .box 89 [.bx 400 0, .ar 9003 0]), (9003, y5 (bytesD (aJ es))), (9900, .box ⟨.raw (.deferred (some [])), some D⟩ [])]⟩) (by kernel_rfl) ?_
 refine m0 hG0 cA [(8, 0, .callG (.c (cS (S (aJ es)))) [400, 9003] [(0, .box 89 [.bx 0 0, .any]), (1, y5 ([] : LD))])] [] 9900 (.c (cS (S (aJ es)))) [(0, y25 a n), (1, mBQ es)] (by kernel_rfl) (cS1 g (gH (bytesD (aJ es)) (S (aJ es)) (by first | (rw [cD]; done) | (rw [hz]; rfl)))) ?_ ?_
 rfl
 rfl
theorem gW (a n : Int) (es : RS) (hes : RsOk n es) :
  SpG g 14 [.c (.bx 0 0)] [(0, y25 a n), (1, mBQ es)] (.c (cS (S (aJ es)))) [(0, y25 a n), (1, mBQ es)] := by
 refine bO (aD1 a n es hes) ?_
 first | rfl | (funext i; simp only [aO, upd]; ((repeat' split) <;> first | rfl | (exfalso; omega)))
end Go.Proofs.YtclaplngjmgnoaaGreatDoor
namespace Go.Proofs.YtclaplngjmgnoaaGreatDoor
open Go.RowKit Go.V
open Go.Eng (inR byteAt u8 dS)
variable {g : Gv}
theorem kSort.nodup {es : RS} (h : kSort es) : (es.map (·.1)).Nodup := by
 have h2 : (es.map (·.1)).Pairwise (· < ·) := h
 exact h2.imp fun {a b} h e => by rw [e] at h; exact List.lt_irrefl _ h
theorem aAV {k : List UInt8} {v : Bool} : ∀ {es : RS}, kSort es -> lkM k es = none -> kSort (kX ltS k v es) /\ (∀ x, x ∈ (kX ltS k v es).map (·.1) ↔ x = k \/ x ∈ es.map (·.1)) /\ (kX ltS k v es).length = es.length + 1
 | [], _, _ => ⟨List.pairwise_singleton _ _, fun x => by simp [kX], rfl⟩
 | y :: r, h, hn => by
  have h' : ((y :: r).map (·.1)).Pairwise (· < ·) := h
  rw [List.map_cons, List.pairwise_cons] at h'
  simp only [lkM] at hn
  split at hn
  ·cases hn
  ·rename_i hy
   obtain ⟨h1, h2, h3⟩ := aAV (k := k) (v := v) (es := r) h'.2 hn
   simp only [kX]
   by_cases hlt : ltS k y.1 = true
   ·rw [if_pos hlt]
    have hlt2 : k < y.1 := by simpa [ltS] using hlt
    refine ⟨?_, fun x => by simp, by simp⟩
    show (((k, v) :: y :: r).map (·.1)).Pairwise (· < ·)
    rw [List.map_cons, List.pairwise_cons]
    refine ⟨fun z hz => ?_, by rw [List.map_cons, List.pairwise_cons]; exact h'⟩
    rw [List.map_cons] at hz
    rcases List.mem_cons.1 hz with rfl | hz
    ·exact hlt2
    ·exact List.lt_trans hlt2 (h'.1 z hz)
   ·rw [if_neg hlt]
    have hle : y.1 < k := by
     have h5 : ¬ k < y.1 := by simpa [ltS] using hlt
     rcases List.le_iff_lt_or_eq.1 (show y.1 <= k from h5) with h6 | h6
     ·exact h6
     ·exact absurd h6 hy
    refine ⟨?_, fun x => ?_, by simp only [List.length_cons, h3]⟩
    ·show ((y :: kX ltS k v r).map (·.1)).Pairwise (· < ·)
     rw [List.map_cons, List.pairwise_cons]
     refine ⟨fun z hz => ?_, h1⟩
     rcases (h2 z).1 hz with rfl | hz
     ·exact hle
     ·exact h'.1 z hz
    ·simp only [List.map_cons, List.mem_cons, h2 x]
     constructor
     ·rintro (h | h | h)
      ·exact .inr (.inl h)
      ·exact .inl h
      ·exact .inr (.inr h)
     ·rintro (h | h | h)
      ·exact .inr (.inl h)
      ·exact .inl h
      ·exact .inr (.inr h)
theorem lk_some_mem {k : List UInt8} {es : RS} : (lkM k es).isSome = true ↔ k ∈ es.map (·.1) := by
 induction es with
 | nil => simp [lkM]
 | cons y r ih =>
  simp only [lkM, List.map_cons, List.mem_cons]
  by_cases h : y.1 = k
  ·simp [h]
  ·have h2 : ¬ k = y.1 := fun e => h e.symm
   simp only [if_neg h, ih, h2, false_or]
theorem qA {k : List UInt8} {v : Bool} {es : RS} (h : kSort es) : kSort (bV ltS k v es) /\ (∀ x, x ∈ (bV ltS k v es).map (·.1) ↔ x = k \/ x ∈ es.map (·.1)) /\ (bV ltS k v es).length <= es.length + 1 /\ es.length <= (bV ltS k v es).length := by
 unfold bV
 split
 ·rename_i hs
  have e : (es.map fun x => if x.1 = k then (k, v) else x).map (·.1) = es.map (·.1) := by
   rw [List.map_map]
   refine List.map_congr_left fun x _ => ?_
   simp only [Function.comp]
   split
   ·rename_i hx; exact hx.symm
   ·rfl
  refine ⟨by unfold kSort; rw [e]; exact h, fun x => ?_, by simp, by simp⟩
  rw [e]
  have := lk_some_mem.1 hs
  constructor
  ·exact .inr
  ·rintro (rfl | h)
   ·exact this
   ·exact h
 ·rename_i hs
  have hn : lkM k es = none := by
   cases hh : lkM k es with
   | none => rfl
   | some y => rw [hh] at hs; exact absurd rfl hs
  obtain ⟨h1, h2, h3⟩ := aAV (v := v) h hn
  exact ⟨h1, h2, by omega, by omega⟩
theorem k_ext {a b : RS} (ha : kSort a) (hb : kSort b) (h : ∀ n, lkM n a = lkM n b) : a = b := by
 have hk : a.map (·.1) = b.map (·.1) := by
  have hp : (a.map (·.1)).Perm (b.map (·.1)) := iA ha.nodup hb.nodup fun x => by rw [<- lk_some_mem, <- lk_some_mem, h x]
  have h1 : (a.map (·.1)).Pairwise (· < ·) := ha
  have h2 : (b.map (·.1)).Pairwise (· < ·) := hb
  exact List.Perm.eq_of_pairwise (fun x y _ _ h3 h4 => absurd (List.lt_trans h3 h4) (List.lt_irrefl _)) h1 h2 hp
 have hl : a.length = b.length := by have := congrArg List.length hk; simpa using this
 refine List.ext_getElem hl fun i h1 h2 => ?_
 have e1 : a[i].1 = b[i].1 := by
  have := congrArg (fun l => l[i]?) hk
  simpa [h1, h2] using this
 have e2 : lkM (a[i]).1 a = some (a[i]).2 := d5 ha.nodup (List.getElem_mem h1)
 have e3 : lkM (b[i]).1 b = some (b[i]).2 := d5 hb.nodup (List.getElem_mem h2)
 rw [h, e1, e3] at e2
 simp only [oIQ] at e2
 exact Prod.ext e1 e2.symm
noncomputable def bA (es : RS) : List It := (es.filter fun x => !x.2).map fun x => aF x.1
theorem aII {es : RS} {k : Nat} (h : k < es.length) : bA (es.take (k + 1)) = bA (es.take k) ++ (bif (es.getD k ([], false)).2 then [] else [aF (es.getD k ([], false)).1]) := by
 rw [bY ([], false) h]
 simp only [bA, List.filter_append, List.map_append]
 cases hw : (es.getD k ([], false)).2 <;> simp [List.filter, hw, -List.getD_eq_getElem?_getD]
theorem aAS (es : RS) : (bA es).length <= es.length := by
 rw [bA, List.length_map]; exact List.length_filter_le _ _
theorem live_ok {n : Int} {es : RS} (h : RsOk n es) : ∀ i, i ∈ bA es -> ItOk i := by
 intro i hi
 obtain ⟨x, hx, rfl⟩ := List.mem_map.1 hi
 exact (pV (h.it x (List.mem_filter.1 hx).1)).1
theorem aIH {n : Int} {es : RS} (hes : RsOk n es) {k : Nat} (h : k < es.length) : (bif (lkM ((es.map (·.1)).getD k []) es).getD false then aK (bA (es.take k)) else aK (bA (es.take k)) ++ [ItD (aF ((es.map (·.1)).getD k []))]) = aK (bA (es.take (k + 1))) := by
 rw [nQ h, aFB hes.sort h, aII h]
 cases hw : (es.getD k ([], false)).2 <;> simp [aK, hw, -List.getD_eq_getElem?_getD]
theorem rK {l : List It} (hl : l.length <= 100000) (hI : ∀ i, i ∈ l -> ItOk i) {es : LD} (h : es = aK l) : SpG g 24 [.c (cM 16 es)] [] (.c (cM 16 (aK (inF l)))) [] := by subst h; exact aDM l hl hI
noncomputable def wdS (id : Int) (es : RS) : Nat -> RS × Bool
 | 0 => (es, false)
 | k + 1 =>
  let r := wdS id es k
  let t := (es.map (·.1)).getD k []
  bif decide ((aF t).id = id) && !((lkM t r.1).getD false) then (bV ltS t true r.1, true) else r
noncomputable def wdR (id : Int) (es : RS) : RS := (wdS id es es.length).1
noncomputable def wdE (id : Int) (es : RS) : Int := bif (wdS id es es.length).2 then 0 else 34
theorem aJH {n : Int} {es : RS} (hes : RsOk n es) (id : Int) : ∀ k, k <= es.length -> kSort (wdS id es k).1 /\ (∀ x, x ∈ (wdS id es k).1.map (·.1) ↔ x ∈ es.map (·.1)) /\ (wdS id es k).1.length <= es.length
 | 0, _ => ⟨hes.sort, fun x => Iff.rfl, Nat.le_refl _⟩
 | k + 1, h => by
  obtain ⟨h1, h2, h3⟩ := aJH hes id k (by omega)
  simp only [wdS]
  cases hc : (decide ((aF ((es.map (·.1)).getD k [])).id = id) && !((lkM ((es.map (·.1)).getD k []) (wdS id es k).1).getD false)) with
  | false => exact ⟨h1, h2, h3⟩
  | true =>
   have hm : (es.map (·.1)).getD k [] ∈ es.map (·.1) := a8 (by rw [List.length_map]; omega)
   obtain ⟨g1, g2, g3⟩ := qA (k := (es.map (·.1)).getD k []) (v := true) h1
   have g4 : ∀ x, x ∈ (bV ltS ((es.map (·.1)).getD k []) true (wdS id es k).1).map (·.1) ↔ x ∈ es.map (·.1) := fun x => by
    rw [g2 x, h2 x]
    constructor
    ·rintro (rfl | h)
     ·exact hm
     ·exact h
    ·exact .inr
   refine ⟨g1, g4, ?_⟩
   have := nN g1.nodup fun x hx => (g4 x).1 hx
   simpa using this
theorem rs_keys {n : Int} {es fs : RS} (hes : RsOk n es) (hs : kSort fs) (hk : ∀ x, x ∈ fs.map (·.1) -> x ∈ es.map (·.1)) (hl : fs.length <= 4000) : RsOk n fs := by
 have go : ∀ x, x ∈ fs -> ∃ y, y ∈ es /\ y.1 = x.1 := by
  intro x hx
  obtain ⟨y, hy, hxy⟩ := List.mem_map.1 (hk x.1 (List.mem_map_of_mem hx))
  exact ⟨y, hy, hxy⟩
 refine ⟨hs, hl, fun x hx => ?_, fun x hx => ?_⟩
 ·obtain ⟨y, hy, hxy⟩ := go x hx
  rw [<- hxy]; exact hes.it y hy
 ·obtain ⟨y, hy, hxy⟩ := go x hx
  rw [<- hxy]; exact hes.au y hy
theorem wdR_ok {n : Int} {es : RS} (hes : RsOk n es) (id : Int) : RsOk n (wdR id es) := by
 obtain ⟨h1, h2, h3⟩ := aJH hes id es.length (Nat.le_refl _)
 exact rs_keys hes h1 (fun x hx => (h2 x).1 hx) (by have := hes.len; unfold wdR; omega)
noncomputable def lY (a : Int) (es : RS) : Nat := (es.filter fun x => decide ((aF x.1).author = a)).length
noncomputable def cV (a : Int) (es : RS) (i : It) : Int := if i.author = a then (if (lkM (itT i) es).isSome = true then 33 else if lY a es >= 30 then 2 else 0) else 35
noncomputable def dY (a : Int) (es : RS) (i : It) : RS := if cV a es i = 0 then bV ltS (itT i) false es else es
theorem lX {a : Int} {es fs : RS} (h : es.Perm fs) : lY a es = lY a fs := (h.filter _).length_eq
theorem aAD {a : Int} {es : RS} {x : List UInt8 × Bool} : (lY a (es ++ [x]) : Int) = if (aF x.1).author = a then (lY a es : Int) + 1 else (lY a es : Int) := by
 unfold lY
 rw [List.filter_append, List.length_append]
 by_cases h : (aF x.1).author = a <;> simp [List.filter, h]
theorem aLB (a : Int) (es : RS) : lY a es <= es.length := List.length_filter_le _ _
theorem infYf (b3 D l : Nat) (fn : FuncId) (tm : Array Value) (h3 : tm.getD 3 undef = .pointer (some ⟨b3, 0, none⟩)) (hn : tm.size = 30) (es : LD) (t : List UInt8) (ht : j9 t) (he : es.length <= 1000000) :
  eC Tryz.prog (Gl g) l [.c (cS (S t)), .c (cB false)] [(0, zK Tryz.f16 [0, 1, 0, 1, 1, 1] fn tm D l), (1, .box ⟨.c 38, some b3⟩ [.ar 2 0]), (2, .arr 0 63 16 (es))] (.c (cB true)) [(0, zK Tryz.f16 [0, 1, 0, 1, 1, 1] fn tm D l), (1, .box ⟨.c 38, some b3⟩ [.ar 2 0]), (2, .arr 0 63 16 (es ++ [[.i ((aF t).id), .i ((aF t).author), .i ((aF t).rank), .i ((aF t).time), .i ((aF t).kind), .sl 7 (aI ((aF t).input)), .i (tvK ((aF t).output)), .s (S (tvS ((aF t).output))), .i 0, .i 0, .i 0, .sl 1 ([] : LD), .sl 1 ([] : LD), .s (S (aF t).prop), .s (S (aF t).param), .sl 1 (intsD ((aF t).program))]]))] := by
 refine gE (iL := 0) (p := 12) (p2 := 13) (env0 := [zX 3 1 0]) (n := 30) (r := (bB (aN Tryz.f16) [0, 1, 0, 1, 1, 1] fn tm D)) rfl (by kernel_rfl) hn (by decide) (by decide) (by decide) ⟨rfl, ⟨_, _, _, rfl, rfl, h3⟩, trivial⟩ fun fr hG => ?_
 refine oR hG cA [] (⟨[zX 3 1 0, zS 4 (S t), zB 5 false], [(0, zK Tryz.f16 [0, 1, 0, 1, 1, 1] fn tm D l), (1, .box ⟨.c 38, some b3⟩ [.ar 2 0]), (2, .arr 0 63 16 (es))]⟩) 0 (r := (bB (aN Tryz.f16) [0, 1, 0, 1, 1, 1] fn tm D)) (by kernel_rfl) aC rfl rfl ?_
 refine iP hG (⟨[zX 3 1 0, zS 4 (S t), zB 5 false], [(0, .box ⟨.raw (.loop { (bB (aN Tryz.f16) [0, 1, 0, 1, 1, 1] fn tm D) with state := .busy }), some l⟩ []), (1, .box ⟨.c 38, some b3⟩ [.ar 2 0]), (2, .arr 0 63 16 (es))]⟩) (by kernel_rfl) ?_
 refine zC hG [(7, 1, kC (.tup [(true, [cI ((aF (t)).id), cI ((aF (t)).author), cI ((aF (t)).rank), cI ((aF (t)).time), cI ((aF (t)).kind), cM 7 (aI ((aF (t)).input)), cI (tvK ((aF (t)).output)), cS (S (tvS ((aF (t)).output))), cI 0, cI 0, cI 0, cM 1 ([] : LD), cM 1 ([] : LD), cS (S (aF (t)).prop), cS (S (aF (t)).param), cM 1 (intsD ((aF (t)).program))]), (false, [cB true])]))] [1, 1, 0] (true) (⟨[zX 3 1 0, zX 6 805 0], [(0, .box ⟨.raw (.loop { (bB (aN Tryz.f16) [0, 1, 0, 1, 1, 1] fn tm D) with state := .busy }), some l⟩ []), (1, .box ⟨.c 38, some b3⟩ [.ar 2 0]), (2, .arr 0 63 16 (es)), (805, .box 63 [cI ((aF (t)).id), cI ((aF (t)).author), cI ((aF (t)).rank), cI ((aF (t)).time), cI ((aF (t)).kind), cM 7 (aI ((aF (t)).input)), cI (tvK ((aF (t)).output)), cS (S (tvS ((aF (t)).output))), cI 0, cI 0, cI 0, cM 1 ([] : LD), cM 1 ([] : LD), cS (S (aF (t)).prop), cS (S (aF (t)).param), cM 1 (intsD ((aF (t)).program))])]⟩) (cS1 g (nJ (t := t) (by exact ht))) (fun _ => ?_) (fun hc1 => absurd hc1 (by decide))
 refine oP hG cA [] [] 0 .normal [(0, .box ⟨.raw (mJ { (bB (aN Tryz.f16) [0, 1, 0, 1, 1, 1] fn tm D) with state := .busy } .normal), some l⟩ []), (1, .box ⟨.c 38, some b3⟩ [.ar 2 0]), (2, .arr 0 63 16 (es ++ ([[.i ((aF (t)).id), .i ((aF (t)).author), .i ((aF (t)).rank), .i ((aF (t)).time), .i ((aF (t)).kind), .sl 7 (aI ((aF (t)).input)), .i (tvK ((aF (t)).output)), .s (S (tvS ((aF (t)).output))), .i 0, .i 0, .i 0, .sl 1 ([] : LD), .sl 1 ([] : LD), .s (S (aF (t)).prop), .s (S (aF (t)).param), .sl 1 (intsD ((aF (t)).program))]] : LD)))] (by kernel_rfl) (aB (by intros; (try simp only [zq5]); omega : ((es).length + ([[.i ((aF (t)).id), .i ((aF (t)).author), .i ((aF (t)).rank), .i ((aF (t)).time), .i ((aF (t)).kind), .sl 7 (aI ((aF (t)).input)), .i (tvK ((aF (t)).output)), .s (S (tvS ((aF (t)).output))), .i 0, .i 0, .i 0, .sl 1 ([] : LD), .sl 1 ([] : LD), .s (S (aF (t)).prop), .s (S (aF (t)).param), .sl 1 (intsD ((aF (t)).program))]] : LD).length) * (216 + 1) <= 140737488355328)) ?_ ?_
 rfl
 rfl
theorem infYt (b3 D l : Nat) (fn : FuncId) (tm : Array Value) (h3 : tm.getD 3 undef = .pointer (some ⟨b3, 0, none⟩)) (hn : tm.size = 30) (es : LD) (t : List UInt8) (ht : j9 t) (he : es.length <= 1000000) :
  eC Tryz.prog (Gl g) l [.c (cS (S t)), .c (cB true)] [(0, zK Tryz.f16 [0, 1, 0, 1, 1, 1] fn tm D l), (1, .box ⟨.c 38, some b3⟩ [.ar 2 0]), (2, .arr 0 63 16 (es))] (.c (cB true)) [(0, zK Tryz.f16 [0, 1, 0, 1, 1, 1] fn tm D l), (1, .box ⟨.c 38, some b3⟩ [.ar 2 0]), (2, .arr 0 63 16 (es))] := by
 refine gE (iL := 0) (p := 12) (p2 := 13) (env0 := [zX 3 1 0]) (n := 30) (r := (bB (aN Tryz.f16) [0, 1, 0, 1, 1, 1] fn tm D)) rfl (by kernel_rfl) hn (by decide) (by decide) (by decide) ⟨rfl, ⟨_, _, _, rfl, rfl, h3⟩, trivial⟩ fun fr hG => ?_
 refine oR hG cA [] (⟨[zX 3 1 0, zS 4 (S t), zB 5 true], [(0, zK Tryz.f16 [0, 1, 0, 1, 1, 1] fn tm D l), (1, .box ⟨.c 38, some b3⟩ [.ar 2 0]), (2, .arr 0 63 16 (es))]⟩) 0 (r := (bB (aN Tryz.f16) [0, 1, 0, 1, 1, 1] fn tm D)) (by kernel_rfl) aC rfl rfl ?_
 refine iP hG (⟨[zX 3 1 0, zS 4 (S t), zB 5 true], [(0, .box ⟨.raw (.loop { (bB (aN Tryz.f16) [0, 1, 0, 1, 1, 1] fn tm D) with state := .busy }), some l⟩ []), (1, .box ⟨.c 38, some b3⟩ [.ar 2 0]), (2, .arr 0 63 16 (es))]⟩) (by kernel_rfl) ?_
 refine zC hG [(7, 1, kC (.tup [(true, [cI ((aF (t)).id), cI ((aF (t)).author), cI ((aF (t)).rank), cI ((aF (t)).time), cI ((aF (t)).kind), cM 7 (aI ((aF (t)).input)), cI (tvK ((aF (t)).output)), cS (S (tvS ((aF (t)).output))), cI 0, cI 0, cI 0, cM 1 ([] : LD), cM 1 ([] : LD), cS (S (aF (t)).prop), cS (S (aF (t)).param), cM 1 (intsD ((aF (t)).program))]), (false, [cB true])]))] [1, 1, 0] (false) (⟨[zX 3 1 0, zX 6 805 0], [(0, .box ⟨.raw (.loop { (bB (aN Tryz.f16) [0, 1, 0, 1, 1, 1] fn tm D) with state := .busy }), some l⟩ []), (1, .box ⟨.c 38, some b3⟩ [.ar 2 0]), (2, .arr 0 63 16 (es)), (805, .box 63 [cI ((aF (t)).id), cI ((aF (t)).author), cI ((aF (t)).rank), cI ((aF (t)).time), cI ((aF (t)).kind), cM 7 (aI ((aF (t)).input)), cI (tvK ((aF (t)).output)), cS (S (tvS ((aF (t)).output))), cI 0, cI 0, cI 0, cM 1 ([] : LD), cM 1 ([] : LD), cS (S (aF (t)).prop), cS (S (aF (t)).param), cM 1 (intsD ((aF (t)).program))])]⟩) (cS1 g (nJ (t := t) (by exact ht))) (fun hc1 => absurd hc1 (by decide)) (fun _ => ?_)
 refine oP hG cA [] [] 0 .normal [(0, .box ⟨.raw (mJ { (bB (aN Tryz.f16) [0, 1, 0, 1, 1, 1] fn tm D) with state := .busy } .normal), some l⟩ []), (1, .box ⟨.c 38, some b3⟩ [.ar 2 0]), (2, .arr 0 63 16 (es))] (by kernel_rfl) aC ?_ ?_
 rfl
 rfl
theorem infY (b3 D l : Nat) (fn : FuncId) (tm : Array Value) (h3 : tm.getD 3 undef = .pointer (some ⟨b3, 0, none⟩)) (hn : tm.size = 30) (es : LD) (t : List UInt8) (ht : j9 t) (he : es.length <= 1000000) (w : Bool) :
  eC Tryz.prog (Gl g) l [.c (cS (S t)), .c (cB w)] [(0, zK Tryz.f16 [0, 1, 0, 1, 1, 1] fn tm D l), (1, .box ⟨.c 38, some b3⟩ [.ar 2 0]), (2, .arr 0 63 16 (es))] (.c (cB true)) [(0, zK Tryz.f16 [0, 1, 0, 1, 1, 1] fn tm D l), (1, .box ⟨.c 38, some b3⟩ [.ar 2 0]), (2, .arr 0 63 16 (bif w then es else es ++ [ItD (aF t)]))] := by
 cases w with
 | false => exact infYf b3 D l fn tm h3 hn es t ht he
 | true => exact infYt b3 D l fn tm h3 hn es t ht he
theorem infIt_ (b0 b4 b5 : Nat) (b3 D l : Nat) (fn : FuncId) (tm : Array Value) (h3 : tm.getD 3 undef = .pointer (some ⟨b3, 0, none⟩)) (hn : tm.size = 30) (a n : Int) (es : RS) (hes : RsOk n es) :
  SpG g 58 [.c (.d (.v (.func (.yield l) #[] #[]))), .c (.bx 0 0)] [(0, .box ⟨.c 35, some b0⟩ [.bx 4 0]), (1, zK Tryz.f16 [0, 1, 0, 1, 1, 1] fn tm D l), (2, .box ⟨.c 38, some b3⟩ [.ar 3 0]), (3, .arr 0 63 16 ([] : LD)), (4, .box ⟨.c 73, some b4⟩ [cI a, cI n, .mp 5]), (5, .box ⟨.mpb (es), some b5⟩ [])] (.tup []) [(0, .box ⟨.c 35, some b0⟩ [.bx 4 0]), (1, zK Tryz.f16 [0, 1, 0, 1, 1, 1] fn tm D l), (2, .box ⟨.c 38, some b3⟩ [.ar 3 0]), (3, .arr 0 63 16 (aK (bA es))), (4, y26 a n), (5, mBQ es)] := by
 have hle := hes.len
 have hsl : (strs (es.map (·.1))).length = es.length := by rw [strs, List.length_map, List.length_map]
 refine aQ 27 Tryz.func58 (by kernel_rfl) fun fr hG => ?_
 refine iJ [4, 5] (⟨[(0, [], .c (.d (.v (.func (.yield l) #[] #[])))), zX 1 0 0], [(0, .box ⟨.c 35, some b0⟩ [.bx 4 0]), (1, zK Tryz.f16 [0, 1, 0, 1, 1, 1] fn tm D l), (2, .box ⟨.c 38, some b3⟩ [.ar 3 0]), (3, .arr 0 63 16 ([] : LD)), (4, y26 a n), (5, mBQ es)]⟩) (by kernel_rfl) ?_
 refine zL hG [(0, 4, .callG (.c (.fn 113 [] [(100, 0)])) [5] [(0, mBQ es), (100, .box 47 [.mp 0])]), (0, 5, .callG (.c (cM 1 (strs (es.map (·.1))))) [104, 5] [(0, .box 47 [.mp 1]), (1, mBQ es)])] [0, 1] (fun (zz : Nat × LD) => match zz with | (k, eb) => (es.length - k, ⟨[(0, [], .c (.d (.v (.func (.yield l) #[] #[])))), zX 1 0 0, zM 10 1 (strs (es.map (·.1))), zI 11 ((strs (es.map (·.1))).length : Int), zI 12 (k : Int)], [(0, .box ⟨.c 35, some b0⟩ [.bx 4 0]), (1, zK Tryz.f16 [0, 1, 0, 1, 1, 1] fn tm D l), (2, .box ⟨.c 38, some b3⟩ [.ar 3 0]), (3, .arr 0 63 16 (eb)), (4, y26 a n), (5, mBQ es)]⟩, k <= es.length /\ eb = aK (bA (es.take k)))) (0, []) (cS2 g (jX es) (cS1 g (dB es (by exact hes.sort) (by have := hes.len; omega) (by intro x hx; have := hes.tlen hx; omega)))) ?_ ?_
 ·exact ⟨Nat.zero_le _, rfl⟩
 rintro ⟨k, eb⟩ ⟨hk, heb⟩
 have hel : eb.length <= es.length := by rw [heb, aK, List.length_map]; have := aAS (es.take k); rw [List.length_take] at this; omega
 refine zc hG [] [0, 1] (decide (((k : Int) : Int) < ((strs (es.map (·.1))).length : Int))) aC (fun hc2 => ?_) (fun hc2 => ?_)
 ·(try simp only [pI] at hc2)
  refine zC hG [(2, 0, .elem (dQ ((es.map (·.1)).getD k []))), (3, 8, .callG (.c (cB true)) [1, 2, 3] [(0, zK Tryz.f16 [0, 1, 0, 1, 1, 1] fn tm D l), (1, .box ⟨.c 38, some b3⟩ [.ar 2 0]), (2, .arr 0 63 16 (bif (lkM ((es.map (·.1)).getD k []) es).getD false then eb else eb ++ [ItD (aF ((es.map (·.1)).getD k []))]))])] [1, 1, 0, 0, 1, 1] (false) (⟨[(0, [], .c (.d (.v (.func (.yield l) #[] #[])))), zX 1 0 0, zM 10 1 (strs (es.map (·.1))), zI 11 ((strs (es.map (·.1))).length : Int), zI 12 (k : Int)], [(0, .box ⟨.c 35, some b0⟩ [.bx 4 0]), (1, zK Tryz.f16 [0, 1, 0, 1, 1, 1] fn tm D l), (2, .box ⟨.c 38, some b3⟩ [.ar 3 0]), (3, .arr 0 63 16 (bif (lkM ((es.map (·.1)).getD k []) es).getD false then eb else eb ++ [ItD (aF ((es.map (·.1)).getD k []))])), (4, y26 a n), (5, mBQ es)]⟩) (aA (by intros; exact cH (f := dQ) [] (by omega) (by (try simp only [zq4] at *); omega) : (0 : Int) <= (k : Int) /\ (strs (es.map (·.1)))[k]? = some (dQ ((es.map (·.1)).getD k []))) (aB (infY b3 D l fn tm h3 hn (eb) ((es.map (·.1)).getD k []) (by exact aL6 hes (by omega)) (by omega) ((lkM ((es.map (·.1)).getD k []) es).getD false) : eC Tryz.prog (Gl g) _ _ _ _ _))) (fun hc3 => absurd hc3 (by decide)) (fun _ => ?_)
  refine zD hG [] (k + 1, bif (lkM (((es.map (·.1))).getD k []) es).getD false then eb else eb ++ [ItD (aF (((es.map (·.1))).getD k []))]) (aB (by intros; (try simp only [aJD] at *); omega : inR ((k : Int) + 1))) ?_ ?_
  ·(try dsimp only); omega
  ·exact ⟨by omega, by rw [heb]; exact aIH hes (by omega)⟩
 ·(try simp only [pI] at hc2)
  refine zE hG [] (.exit 0) (⟨[], [(0, .box ⟨.c 35, some b0⟩ [.bx 4 0]), (1, zK Tryz.f16 [0, 1, 0, 1, 1, 1] fn tm D l), (2, .box ⟨.c 38, some b3⟩ [.ar 3 0]), (3, .arr 0 63 16 (eb)), (4, y26 a n), (5, mBQ es)]⟩) aC rfl ?_
  refine zR hG [] [] (.tup []) [(0, .box ⟨.c 35, some b0⟩ [.bx 4 0]), (1, zK Tryz.f16 [0, 1, 0, 1, 1, 1] fn tm D l), (2, .box ⟨.c 38, some b3⟩ [.ar 3 0]), (3, .arr 0 63 16 (eb)), (4, y26 a n), (5, mBQ es)] aC ?_ ?_
  ·rfl
  ·have hk2 : k = es.length := by omega
   rw [hk2, List.take_length] at heb
   rw [heb]
theorem infIt (b0 b4 b5 : Nat) (b3 D l : Nat) (fn : FuncId) (tm : Array Value) (h3 : tm.getD 3 undef = .pointer (some ⟨b3, 0, none⟩)) (hn : tm.size = 30) (a n : Int) (es : RS) (hes : RsOk n es) :
  SpG g 58 [.c (.d (.v (.func (.yield l) #[] #[]))), .c (.bx 0 0)] [(0, .box ⟨.c 35, some b0⟩ [.bx 4 0]), (1, zK Tryz.f16 [0, 1, 0, 1, 1, 1] fn tm D l), (2, .box ⟨.c 38, some b3⟩ [.ar 3 0]), (3, .arr 0 63 16 ([] : LD)), (4, .box ⟨.c 73, some b4⟩ [cI a, cI n, .mp 5]), (5, .box ⟨.mpb (es), some b5⟩ [])] (.tup []) [(0, .box ⟨.c 35, some b0⟩ [.bx 4 0]), (1, zK Tryz.f16 [0, 1, 0, 1, 1, 1] fn tm D l), (2, .box ⟨.c 38, some b3⟩ [.ar 3 0]), (3, .arr 0 63 16 (aK (bA es))), (4, y26 a n), (5, mBQ es)] := by
 refine bO (infIt_ b0 b4 b5 b3 D l fn tm h3 hn a n es hes) ?_
 first | rfl | (funext i; simp only [aO, upd]; ((repeat' split) <;> first | rfl | (exfalso; omega)))
theorem aAW (a n : Int) (es : RS) (hes : RsOk n es) :
  SpG g 16 [.c (.bx 0 0)] [(0, y25 a n), (1, mBQ es)] (.c (cM 16 (aK (inF (bA es))))) [(0, y25 a n), (1, mBQ es)] := by
 refine r3 30 Tryz.func16 (by kernel_rfl) fun fr hG => ?_
 refine zC hG [(1, 1, .callG (.c (cB false)) [0, 1] [(0, y25 a n), (1, mBQ es)])] [1, 0, 1] (false) (⟨[zX 0 0 0, zN 2], [(0, y25 a n), (1, mBQ es)]⟩) (cS1 g (eM a n es)) (fun hc1 => absurd hc1 (by decide)) (fun _ => ?_)
 refine oQ hG cA [(4, 1, .callG (.c (.fn 58 [] [(100, 0)])) [0, 1] [(0, y25 a n), (1, mBQ es), (100, .box 35 [.bx 0 0])])] [0, 1, 0, 1, 1, 1] (⟨[zN 2, zX 3 400 0, (11, [], .c (.fn 58 [] [(501, 0)]))], [(0, y25 a n), (1, mBQ es), (400, .box 38 [cN]), (501, .box 35 [.bx 0 0])]⟩) _ (by kernel_rfl) (cS1 g (fS a n es)) ?_
 refine aJ3 hG [] [(400, 0, 9003, 63, 16)] (⟨[zN 2, zX 3 400 0, (11, [], .c (.fn 58 [] [(501, 0)]))], [(0, y25 a n), (1, mBQ es), (400, .box 38 [.ar 9003 0]), (501, .box 35 [.bx 0 0]), (9003, .arr 0 63 16 ([] : LD))]⟩) (by kernel_rfl) ?_
 refine qS (g := 11) (ps := rgP (aN Tryz.f16) [0, 1, 0, 1, 1, 1]) (assign := rgA (aN Tryz.f16) [0, 1, 0, 1, 1, 1]) (body := rgB (aN Tryz.f16) [0, 1, 0, 1, 1, 1]) hG (by kernel_rfl) 9900 9901 9910 (by kernel_rfl) rfl (by kernel_rfl) fun b D l fn tm hT hn => ?_
 refine ⟨.tup [], [501, 9901, 400, 9003, 0, 1], [(0, .box ⟨.c 35, some (b 501)⟩ [.bx 4 0]), (1, zK Tryz.f16 [0, 1, 0, 1, 1, 1] fn tm D l), (2, .box ⟨.c 38, some (b 400)⟩ [.ar 3 0]), (3, .arr 0 63 16 (aK (bA es))), (4, y26 a n), (5, mBQ es)], none, ⟨[zN 2, zX 3 400 0], [(0, y25 a n), (1, mBQ es), (400, .box ⟨.c 38, some (b 400)⟩ [.ar 9003 0]), (9003, .arr 0 63 16 (aK (bA es))), (9900, .box ⟨.raw (.deferred (some [])), some D⟩ [])]⟩, _, .normal, by kernel_rfl, cS1 g (infIt (b 501) (b 0) (b 1) (b 400) D l fn tm (hT.bx 3 400 0 rfl) hn a n es hes), rfl, ?_⟩
 have hG0 := hG
 replace hG := fI (D := D) hG
 refine iJ [0, 1, 400] (⟨[zN 2, zX 3 400 0], [(0, y25 a n), (1, mBQ es), (400, .box 38 [.ar 9003 0]), (9003, .arr 0 63 16 (aK (bA es))), (9900, .box ⟨.raw (.deferred (some [])), some D⟩ [])]⟩) (by kernel_rfl) ?_
 refine iP hG (⟨[zN 2, zX 3 400 0], [(0, y25 a n), (1, mBQ es), (400, .box 38 [cM 16 (aK (bA es))]), (9900, .box ⟨.raw (.deferred (some [])), some D⟩ [])]⟩) (by kernel_rfl) ?_
 refine m0 hG0 cA [(10, 1, kC (.c (cM 16 (aK (inF (bA es))))))] [] 9900 (.c (cM 16 (aK (inF (bA es))))) [(0, y25 a n), (1, mBQ es)] (by kernel_rfl) (cS1 g (rK (l := bA es) (by have := aAS es; have := hes.len; omega) (live_ok hes) (es := aK (bA es)) rfl)) ?_ ?_
 rfl
 rfl
theorem rI (a n : Int) (es : RS) (hes : RsOk n es) :
  SpG g 16 [.c (.bx 0 0)] [(0, y25 a n), (1, mBQ es)] (.c (cM 16 (aK (inF (bA es))))) [(0, y25 a n), (1, mBQ es)] := by
 refine bO (aAW a n es hes) ?_
 first | rfl | (funext i; simp only [aO, upd]; ((repeat' split) <;> first | rfl | (exfalso; omega)))
end Go.Proofs.YtclaplngjmgnoaaGreatDoor
namespace Go.Proofs.YtclaplngjmgnoaaGreatDoor
open Go.RowKit Go.V
open Go.Eng (inR byteAt u8 dS)
variable {g : Gv}
def tkL (a : Int) (k : Nat) : List Int := (((List.range k).map fun j : Nat => (j : Int) + 1)).filter fun x => !decide (x = a)
def msD (a : Int) (t : List UInt8) (x : Int) : List D := [.i a, .i x, .s (S t)]
def aIE (a : Int) (t : List UInt8) (l : List Int) : LD := l.map (msD a t)
theorem aEG (a : Int) (k : Nat) : tkL a (k + 1) = if ((k : Int) + 1) = a then tkL a k else tkL a k ++ [(k : Int) + 1] := by
 unfold tkL
 rw [List.range_succ, List.map_append, List.filter_append]
 by_cases h : ((k : Int) + 1) = a <;> simp [List.filter, h]
theorem tk_len (a : Int) (k : Nat) : (tkL a k).length <= k := by
 unfold tkL
 have := List.length_filter_le (fun x : Int => !decide (x = a)) ((List.range k).map fun j : Nat => (j : Int) + 1)
 rw [List.length_map, List.length_range] at this
 exact this
theorem wd_step {id : Int} {es em : RS} {e : Int} {k : Nat} (hk : k < es.length) (h1 : em = (wdS id es k).1) (h2 : e = (bif (wdS id es k).2 then 0 else 34)) :
  k + 1 <= es.length /\ (bif (decide ((aF ((es.map (·.1)).getD k [])).id = id) && !((lkM ((es.map (·.1)).getD k []) em).getD false)) then bV ltS ((es.map (·.1)).getD k []) true em else em) = (wdS id es (k + 1)).1 /\
   (bif (decide ((aF ((es.map (·.1)).getD k [])).id = id) && !((lkM ((es.map (·.1)).getD k []) em).getD false)) then 0 else e) = (bif (wdS id es (k + 1)).2 then 0 else 34) := by
 subst h1
 refine ⟨by omega, ?_, ?_⟩
 ·simp only [wdS]
  cases (decide ((aF ((es.map (·.1)).getD k [])).id = id) && !((lkM ((es.map (·.1)).getD k []) (wdS id es k).1).getD false)) <;> rfl
 ·simp only [wdS]
  cases (decide ((aF ((es.map (·.1)).getD k [])).id = id) && !((lkM ((es.map (·.1)).getD k []) (wdS id es k).1).getD false))
  ·exact h2
  ·rfl
theorem aAZ {a : Int} {es : RS} {i : It} (h : ¬ i.author = a) : cV a es i = 35 /\ dY a es i = es := by
 have e : cV a es i = 35 := by rw [cV, if_neg h]
 exact ⟨e, by rw [dY, e, if_neg (by decide)]⟩
theorem iF {a : Int} {es : RS} {i : It} (h : i.author = a) (h2 : (lkM (itT i) es).isSome = true) : cV a es i = 33 /\ dY a es i = es := by
 have e : cV a es i = 33 := by rw [cV, if_pos h, if_pos h2]
 exact ⟨e, by rw [dY, e, if_neg (by decide)]⟩
theorem uE {a : Int} {es : RS} {i : It} (h : i.author = a) (h2 : (lkM (itT i) es).isSome = false) (h3 : (lY a es : Int) >= 30) : cV a es i = 2 /\ dY a es i = es := by
 have e : cV a es i = 2 := by rw [cV, if_pos h, if_neg (by rw [h2]; decide), if_pos (by omega)]
 exact ⟨e, by rw [dY, e, if_neg (by decide)]⟩
theorem jA {a : Int} {es : RS} {i : It} (h : i.author = a) (h2 : (lkM (itT i) es).isSome = false) (h3 : ¬ (lY a es : Int) >= 30) : cV a es i = 0 /\ dY a es i = bV ltS (itT i) false es := by
 have e : cV a es i = 0 := by rw [cV, if_pos h, if_neg (by rw [h2]; decide), if_neg (by omega)]
 exact ⟨e, by rw [dY, e, if_pos rfl]⟩
theorem wdYt (b2 b3 b5 D l : Nat) (fn : FuncId) (tm : Array Value) (h2 : tm.getD 2 undef = .pointer (some ⟨b2, 0, none⟩)) (h3 : tm.getD 3 undef = .pointer (some ⟨b3, 0, none⟩)) (h5 : tm.getD 5 undef = .pointer (some ⟨b5, 0, none⟩)) (hn : tm.size = 38) (a n id e : Int) (em : RS) (t : List UInt8) (w : Bool) (ht : j9 t) (hc : (decide ((aF t).id = id) && !w) = true) :
  eC Tryz.prog (Gl g) l [.c (cS (S t)), .c (cB w)] [(0, zK Tryz.f23 [0, 1, 0, 1, 1, 1] fn tm D l), (1, .box ⟨.c 35, some b2⟩ [.bx 4 0]), (2, .box ⟨.c 3, some b3⟩ [cI id]), (3, .box ⟨.c 65, some b5⟩ [cI e]), (4, y26 a n), (5, mBQ em)] (.c (cB true)) [(0, zK Tryz.f23 [0, 1, 0, 1, 1, 1] fn tm D l), (1, .box ⟨.c 35, some b2⟩ [.bx 4 0]), (2, .box ⟨.c 3, some b3⟩ [cI id]), (3, .box ⟨.c 65, some b5⟩ [cI 0]), (4, y26 a n), (5, mBQ (bV ltS t true em))] := by
 refine gE (iL := 0) (p := 14) (p2 := 15) (env0 := [zX 2 1 0, zX 3 2 0, zX 5 3 0]) (n := 38) (r := (bB (aN Tryz.f23) [0, 1, 0, 1, 1, 1] fn tm D)) rfl (by kernel_rfl) hn (by decide) (by decide) (by decide) ⟨rfl, ⟨_, _, _, rfl, rfl, h2⟩, ⟨rfl, ⟨_, _, _, rfl, rfl, h3⟩, ⟨rfl, ⟨_, _, _, rfl, rfl, h5⟩, trivial⟩⟩⟩ fun fr hG => ?_
 refine oR hG cA [] (⟨[zX 2 1 0, zX 3 2 0, zX 5 3 0, zS 6 (S t), zB 7 w], [(0, zK Tryz.f23 [0, 1, 0, 1, 1, 1] fn tm D l), (1, .box ⟨.c 35, some b2⟩ [.bx 4 0]), (2, .box ⟨.c 3, some b3⟩ [cI id]), (3, .box ⟨.c 65, some b5⟩ [cI e]), (4, y26 a n), (5, mBQ em)]⟩) 0 (r := (bB (aN Tryz.f23) [0, 1, 0, 1, 1, 1] fn tm D)) (by kernel_rfl) aC rfl rfl ?_
 refine iP hG (⟨[zX 2 1 0, zX 3 2 0, zX 5 3 0, zS 6 (S t), zB 7 w], [(0, .box ⟨.raw (.loop { (bB (aN Tryz.f23) [0, 1, 0, 1, 1, 1] fn tm D) with state := .busy }), some l⟩ []), (1, .box ⟨.c 35, some b2⟩ [.bx 4 0]), (2, .box ⟨.c 3, some b3⟩ [cI id]), (3, .box ⟨.c 65, some b5⟩ [cI e]), (4, y26 a n), (5, mBQ em)]⟩) (by kernel_rfl) ?_
 refine zC hG [(7, 1, kC (.tup [(true, [cI ((aF (t)).id), cI ((aF (t)).author), cI ((aF (t)).rank), cI ((aF (t)).time), cI ((aF (t)).kind), cM 7 (aI ((aF (t)).input)), cI (tvK ((aF (t)).output)), cS (S (tvS ((aF (t)).output))), cI 0, cI 0, cI 0, cM 1 ([] : LD), cM 1 ([] : LD), cS (S (aF (t)).prop), cS (S (aF (t)).param), cM 1 (intsD ((aF (t)).program))]), (false, [cB true])]))] [1, 1, 0] ((decide (((aF (t)).id : Int) = id)) && !w) (⟨[zX 2 1 0, zX 5 3 0, zS 6 (S t)], [(0, .box ⟨.raw (.loop { (bB (aN Tryz.f23) [0, 1, 0, 1, 1, 1] fn tm D) with state := .busy }), some l⟩ []), (1, .box ⟨.c 35, some b2⟩ [.bx 4 0]), (2, .box ⟨.c 3, some b3⟩ [cI id]), (3, .box ⟨.c 65, some b5⟩ [cI e]), (4, y26 a n), (5, mBQ em)]⟩) (cS1 g (nJ (t := t) (by exact ht))) (fun hc1 => ?_) (fun hc1 => ?_)
 (try simp only [blS] at hc1)
 refine oP hG cA [] [] 0 .normal [(0, .box ⟨.raw (mJ { (bB (aN Tryz.f23) [0, 1, 0, 1, 1, 1] fn tm D) with state := .busy } .normal), some l⟩ []), (3, .box ⟨.c 65, some b5⟩ [cI 0]), (5, mBQ (bV ltS t true em)), (1, .box ⟨.c 35, some b2⟩ [.bx 4 0]), (2, .box ⟨.c 3, some b3⟩ [cI id]), (4, y26 a n)] (by kernel_rfl) aC ?_ ?_
 rfl
 funext i; simp only [aO, upd]; (repeat' split) <;> first | rfl | (exfalso; omega)
 (try simp only [blS] at hc1)
 simp_all
theorem wdYf (b2 b3 b5 D l : Nat) (fn : FuncId) (tm : Array Value) (h2 : tm.getD 2 undef = .pointer (some ⟨b2, 0, none⟩)) (h3 : tm.getD 3 undef = .pointer (some ⟨b3, 0, none⟩)) (h5 : tm.getD 5 undef = .pointer (some ⟨b5, 0, none⟩)) (hn : tm.size = 38) (a n id e : Int) (em : RS) (t : List UInt8) (w : Bool) (ht : j9 t) (hc : (decide ((aF t).id = id) && !w) = false) :
  eC Tryz.prog (Gl g) l [.c (cS (S t)), .c (cB w)] [(0, zK Tryz.f23 [0, 1, 0, 1, 1, 1] fn tm D l), (1, .box ⟨.c 35, some b2⟩ [.bx 4 0]), (2, .box ⟨.c 3, some b3⟩ [cI id]), (3, .box ⟨.c 65, some b5⟩ [cI e]), (4, y26 a n), (5, mBQ em)] (.c (cB true)) [(0, zK Tryz.f23 [0, 1, 0, 1, 1, 1] fn tm D l), (1, .box ⟨.c 35, some b2⟩ [.bx 4 0]), (2, .box ⟨.c 3, some b3⟩ [cI id]), (3, .box ⟨.c 65, some b5⟩ [cI e]), (4, y26 a n), (5, mBQ em)] := by
 refine gE (iL := 0) (p := 14) (p2 := 15) (env0 := [zX 2 1 0, zX 3 2 0, zX 5 3 0]) (n := 38) (r := (bB (aN Tryz.f23) [0, 1, 0, 1, 1, 1] fn tm D)) rfl (by kernel_rfl) hn (by decide) (by decide) (by decide) ⟨rfl, ⟨_, _, _, rfl, rfl, h2⟩, ⟨rfl, ⟨_, _, _, rfl, rfl, h3⟩, ⟨rfl, ⟨_, _, _, rfl, rfl, h5⟩, trivial⟩⟩⟩ fun fr hG => ?_
 refine oR hG cA [] (⟨[zX 2 1 0, zX 3 2 0, zX 5 3 0, zS 6 (S t), zB 7 w], [(0, zK Tryz.f23 [0, 1, 0, 1, 1, 1] fn tm D l), (1, .box ⟨.c 35, some b2⟩ [.bx 4 0]), (2, .box ⟨.c 3, some b3⟩ [cI id]), (3, .box ⟨.c 65, some b5⟩ [cI e]), (4, y26 a n), (5, mBQ em)]⟩) 0 (r := (bB (aN Tryz.f23) [0, 1, 0, 1, 1, 1] fn tm D)) (by kernel_rfl) aC rfl rfl ?_
 refine iP hG (⟨[zX 2 1 0, zX 3 2 0, zX 5 3 0, zS 6 (S t), zB 7 w], [(0, .box ⟨.raw (.loop { (bB (aN Tryz.f23) [0, 1, 0, 1, 1, 1] fn tm D) with state := .busy }), some l⟩ []), (1, .box ⟨.c 35, some b2⟩ [.bx 4 0]), (2, .box ⟨.c 3, some b3⟩ [cI id]), (3, .box ⟨.c 65, some b5⟩ [cI e]), (4, y26 a n), (5, mBQ em)]⟩) (by kernel_rfl) ?_
 refine zC hG [(7, 1, kC (.tup [(true, [cI ((aF (t)).id), cI ((aF (t)).author), cI ((aF (t)).rank), cI ((aF (t)).time), cI ((aF (t)).kind), cM 7 (aI ((aF (t)).input)), cI (tvK ((aF (t)).output)), cS (S (tvS ((aF (t)).output))), cI 0, cI 0, cI 0, cM 1 ([] : LD), cM 1 ([] : LD), cS (S (aF (t)).prop), cS (S (aF (t)).param), cM 1 (intsD ((aF (t)).program))]), (false, [cB true])]))] [1, 1, 0] ((decide (((aF (t)).id : Int) = id)) && !w) (⟨[zX 2 1 0, zX 5 3 0, zS 6 (S t)], [(0, .box ⟨.raw (.loop { (bB (aN Tryz.f23) [0, 1, 0, 1, 1, 1] fn tm D) with state := .busy }), some l⟩ []), (1, .box ⟨.c 35, some b2⟩ [.bx 4 0]), (2, .box ⟨.c 3, some b3⟩ [cI id]), (3, .box ⟨.c 65, some b5⟩ [cI e]), (4, y26 a n), (5, mBQ em)]⟩) (cS1 g (nJ (t := t) (by exact ht))) (fun hc1 => ?_) (fun hc1 => ?_)
 (try simp only [blS] at hc1)
 simp_all
 (try simp only [blS] at hc1)
 refine oP hG cA [] [] 0 .normal [(0, .box ⟨.raw (mJ { (bB (aN Tryz.f23) [0, 1, 0, 1, 1, 1] fn tm D) with state := .busy } .normal), some l⟩ []), (1, .box ⟨.c 35, some b2⟩ [.bx 4 0]), (2, .box ⟨.c 3, some b3⟩ [cI id]), (3, .box ⟨.c 65, some b5⟩ [cI e]), (4, y26 a n), (5, mBQ em)] (by kernel_rfl) aC ?_ ?_
 rfl
 rfl
theorem wdY (b2 b3 b5 D l : Nat) (fn : FuncId) (tm : Array Value) (h2 : tm.getD 2 undef = .pointer (some ⟨b2, 0, none⟩)) (h3 : tm.getD 3 undef = .pointer (some ⟨b3, 0, none⟩)) (h5 : tm.getD 5 undef = .pointer (some ⟨b5, 0, none⟩)) (hn : tm.size = 38) (a n id e : Int) (em : RS) (t : List UInt8) (w : Bool) (ht : j9 t) :
  eC Tryz.prog (Gl g) l [.c (cS (S t)), .c (cB w)] [(0, zK Tryz.f23 [0, 1, 0, 1, 1, 1] fn tm D l), (1, .box ⟨.c 35, some b2⟩ [.bx 4 0]), (2, .box ⟨.c 3, some b3⟩ [cI id]), (3, .box ⟨.c 65, some b5⟩ [cI e]), (4, y26 a n), (5, mBQ em)] (.c (cB true)) [(0, zK Tryz.f23 [0, 1, 0, 1, 1, 1] fn tm D l), (1, .box ⟨.c 35, some b2⟩ [.bx 4 0]), (2, .box ⟨.c 3, some b3⟩ [cI id]), (3, .box ⟨.c 65, some b5⟩ [cI (bif (decide ((aF t).id = id) && !w) then 0 else e)]), (4, y26 a n), (5, mBQ (bif (decide ((aF t).id = id) && !w) then bV ltS t true em else em))] := by
 cases hc : (decide ((aF t).id = id) && !w) with
 | true => exact wdYt b2 b3 b5 D l fn tm h2 h3 h5 hn a n id e em t w ht hc
 | false => exact wdYf b2 b3 b5 D l fn tm h2 h3 h5 hn a n id e em t w ht hc
abbrev y27 (a0 : Int) (a1 : Int) : Ob := .box 73 [cI a0, cI a1, .mp 6]
theorem wdIt_ (b0 b6 b7 : Nat) (b2 b3 b5 D l : Nat) (fn : FuncId) (tm : Array Value) (h2 : tm.getD 2 undef = .pointer (some ⟨b2, 0, none⟩)) (h3 : tm.getD 3 undef = .pointer (some ⟨b3, 0, none⟩)) (h5 : tm.getD 5 undef = .pointer (some ⟨b5, 0, none⟩)) (hn : tm.size = 38) (a n id : Int) (es : RS) (hes : RsOk n es) :
  SpG g 58 [.c (.d (.v (.func (.yield l) #[] #[]))), .c (.bx 0 0)] [(0, .box ⟨.c 35, some b0⟩ [.bx 5 0]), (1, zK Tryz.f23 [0, 1, 0, 1, 1, 1] fn tm D l), (2, .box ⟨.c 35, some b2⟩ [.bx 5 0]), (3, .box ⟨.c 3, some b3⟩ [cI id]), (4, .box ⟨.c 65, some b5⟩ [cI 34]), (5, .box ⟨.c 73, some b6⟩ [cI a, cI n, .mp 6]), (6, .box ⟨.mpb (es), some b7⟩ [])] (.tup []) [(0, .box ⟨.c 35, some b0⟩ [.bx 5 0]), (1, zK Tryz.f23 [0, 1, 0, 1, 1, 1] fn tm D l), (2, .box ⟨.c 35, some b2⟩ [.bx 5 0]), (3, .box ⟨.c 3, some b3⟩ [cI id]), (4, .box ⟨.c 65, some b5⟩ [cI (wdE id es)]), (5, y27 a n), (6, mBQ (wdR id es))] := by
 have hle := hes.len
 have hsl : (strs (es.map (·.1))).length = es.length := by rw [strs, List.length_map, List.length_map]
 refine aQ 27 Tryz.func58 (by kernel_rfl) fun fr hG => ?_
 refine iJ [5, 6] (⟨[(0, [], .c (.d (.v (.func (.yield l) #[] #[])))), zX 1 0 0], [(0, .box ⟨.c 35, some b0⟩ [.bx 5 0]), (1, zK Tryz.f23 [0, 1, 0, 1, 1, 1] fn tm D l), (2, .box ⟨.c 35, some b2⟩ [.bx 5 0]), (3, .box ⟨.c 3, some b3⟩ [cI id]), (4, .box ⟨.c 65, some b5⟩ [cI 34]), (5, y27 a n), (6, mBQ es)]⟩) (by kernel_rfl) ?_
 refine zL hG [(0, 4, .callG (.c (.fn 113 [] [(100, 0)])) [6] [(0, mBQ es), (100, .box 47 [.mp 0])]), (0, 5, .callG (.c (cM 1 (strs (es.map (·.1))))) [104, 6] [(0, .box 47 [.mp 1]), (1, mBQ es)])] [0, 1] (fun (zz : Nat × RS × Int) => match zz with | (k, em, e) => (es.length - k, ⟨[(0, [], .c (.d (.v (.func (.yield l) #[] #[])))), zX 1 0 0, zM 10 1 (strs (es.map (·.1))), zI 11 ((strs (es.map (·.1))).length : Int), zI 12 (k : Int)], [(0, .box ⟨.c 35, some b0⟩ [.bx 5 0]), (1, zK Tryz.f23 [0, 1, 0, 1, 1, 1] fn tm D l), (2, .box ⟨.c 35, some b2⟩ [.bx 5 0]), (3, .box ⟨.c 3, some b3⟩ [cI id]), (4, .box ⟨.c 65, some b5⟩ [cI e]), (5, y27 a n), (6, mBQ em)]⟩, k <= es.length /\ em = (wdS id es k).1 /\ e = (bif (wdS id es k).2 then 0 else 34))) (0, es, 34) (cS2 g (jX es) (cS1 g (dB es (by exact hes.sort) (by have := hes.len; omega) (by intro x hx; have := hes.tlen hx; omega)))) ?_ ?_
 ·exact ⟨Nat.zero_le _, rfl, rfl⟩
 rintro ⟨k, em, e⟩ ⟨hk, hem, he⟩
 refine zc hG [] [0, 1] (decide (((k : Int) : Int) < ((strs (es.map (·.1))).length : Int))) aC (fun hc2 => ?_) (fun hc2 => ?_)
 ·(try simp only [pI] at hc2)
  refine zC hG [(2, 0, .elem (dQ ((es.map (·.1)).getD k []))), (3, 8, .callG (.c (cB true)) [1, 2, 3, 4, 5, 6] [(0, zK Tryz.f23 [0, 1, 0, 1, 1, 1] fn tm D l), (1, .box ⟨.c 35, some b2⟩ [.bx 4 0]), (2, .box ⟨.c 3, some b3⟩ [cI id]), (3, .box ⟨.c 65, some b5⟩ [cI (bif (decide ((aF ((es.map (·.1)).getD k [])).id = id) && !((lkM ((es.map (·.1)).getD k []) em).getD false)) then 0 else e)]), (4, y26 a n), (5, mBQ (bif (decide ((aF ((es.map (·.1)).getD k [])).id = id) && !((lkM ((es.map (·.1)).getD k []) em).getD false)) then bV ltS ((es.map (·.1)).getD k []) true (em) else em))])] [1, 1, 0, 0, 1, 1] (false) (⟨[(0, [], .c (.d (.v (.func (.yield l) #[] #[])))), zX 1 0 0, zM 10 1 (strs (es.map (·.1))), zI 11 ((strs (es.map (·.1))).length : Int), zI 12 (k : Int)], [(0, .box ⟨.c 35, some b0⟩ [.bx 5 0]), (1, zK Tryz.f23 [0, 1, 0, 1, 1, 1] fn tm D l), (2, .box ⟨.c 35, some b2⟩ [.bx 5 0]), (3, .box ⟨.c 3, some b3⟩ [cI id]), (4, .box ⟨.c 65, some b5⟩ [cI (bif (decide ((aF ((es.map (·.1)).getD k [])).id = id) && !((lkM ((es.map (·.1)).getD k []) em).getD false)) then 0 else e)]), (5, y27 a n), (6, mBQ (bif (decide ((aF ((es.map (·.1)).getD k [])).id = id) && !((lkM ((es.map (·.1)).getD k []) em).getD false)) then bV ltS ((es.map (·.1)).getD k []) true (em) else em))]⟩) (aA (by intros; exact cH (f := dQ) [] (by omega) (by (try simp only [zq4] at *); omega) : (0 : Int) <= (k : Int) /\ (strs (es.map (·.1)))[k]? = some (dQ ((es.map (·.1)).getD k []))) (aB (wdY b2 b3 b5 D l fn tm h2 h3 h5 hn a n id (e) (em) ((es.map (·.1)).getD k []) ((lkM ((es.map (·.1)).getD k []) em).getD false) (by exact aL6 hes (by omega)) : eC Tryz.prog (Gl g) _ _ _ _ _))) (fun hc3 => absurd hc3 (by decide)) (fun _ => ?_)
  refine zD hG [] (k + 1, bif (decide ((aF (((es.map (·.1))).getD k [])).id = id) && !((lkM (((es.map (·.1))).getD k []) em).getD false)) then bV ltS (((es.map (·.1))).getD k []) true (em) else em, bif (decide ((aF (((es.map (·.1))).getD k [])).id = id) && !((lkM (((es.map (·.1))).getD k []) em).getD false)) then 0 else e) (aB (by intros; (try simp only [aJD] at *); omega : inR ((k : Int) + 1))) ?_ ?_
  ·(try dsimp only); omega
  ·exact wd_step (by omega) hem he
 ·(try simp only [pI] at hc2)
  refine zE hG [] (.exit 0) (⟨[], [(0, .box ⟨.c 35, some b0⟩ [.bx 5 0]), (1, zK Tryz.f23 [0, 1, 0, 1, 1, 1] fn tm D l), (2, .box ⟨.c 35, some b2⟩ [.bx 5 0]), (3, .box ⟨.c 3, some b3⟩ [cI id]), (4, .box ⟨.c 65, some b5⟩ [cI e]), (5, y27 a n), (6, mBQ em)]⟩) aC rfl ?_
  refine zR hG [] [] (.tup []) [(0, .box ⟨.c 35, some b0⟩ [.bx 5 0]), (1, zK Tryz.f23 [0, 1, 0, 1, 1, 1] fn tm D l), (2, .box ⟨.c 35, some b2⟩ [.bx 5 0]), (3, .box ⟨.c 3, some b3⟩ [cI id]), (4, .box ⟨.c 65, some b5⟩ [cI e]), (5, y27 a n), (6, mBQ em)] aC ?_ ?_
  ·rfl
  ·have hk2 : k = es.length := by omega
   subst hk2
   rw [hem, he]; rfl
theorem wdIt (b0 b6 b7 : Nat) (b2 b3 b5 D l : Nat) (fn : FuncId) (tm : Array Value) (h2 : tm.getD 2 undef = .pointer (some ⟨b2, 0, none⟩)) (h3 : tm.getD 3 undef = .pointer (some ⟨b3, 0, none⟩)) (h5 : tm.getD 5 undef = .pointer (some ⟨b5, 0, none⟩)) (hn : tm.size = 38) (a n id : Int) (es : RS) (hes : RsOk n es) :
  SpG g 58 [.c (.d (.v (.func (.yield l) #[] #[]))), .c (.bx 0 0)] [(0, .box ⟨.c 35, some b0⟩ [.bx 5 0]), (1, zK Tryz.f23 [0, 1, 0, 1, 1, 1] fn tm D l), (2, .box ⟨.c 35, some b2⟩ [.bx 5 0]), (3, .box ⟨.c 3, some b3⟩ [cI id]), (4, .box ⟨.c 65, some b5⟩ [cI 34]), (5, .box ⟨.c 73, some b6⟩ [cI a, cI n, .mp 6]), (6, .box ⟨.mpb (es), some b7⟩ [])] (.tup []) [(0, .box ⟨.c 35, some b0⟩ [.bx 5 0]), (1, zK Tryz.f23 [0, 1, 0, 1, 1, 1] fn tm D l), (2, .box ⟨.c 35, some b2⟩ [.bx 5 0]), (3, .box ⟨.c 3, some b3⟩ [cI id]), (4, .box ⟨.c 65, some b5⟩ [cI (wdE id es)]), (5, y27 a n), (6, mBQ (wdR id es))] := by
 refine bO (wdIt_ b0 b6 b7 b2 b3 b5 D l fn tm h2 h3 h5 hn a n id es hes) ?_
 first | rfl | (funext i; simp only [aO, upd]; ((repeat' split) <;> first | rfl | (exfalso; omega)))
theorem u6 (a n id : Int) (es : RS) (hes : RsOk n es) :
  SpG g 23 [.c (.bx 0 0), .c (cI id)] [(0, y25 a n), (1, mBQ es)] (.c (cI (wdE id es))) [(0, y25 a n), (1, mBQ (wdR id es))] := by
 refine r3 38 Tryz.func23 (by kernel_rfl) fun fr hG => ?_
 refine zC hG [(1, 1, .callG (.c (cB false)) [0, 1] [(0, y25 a n), (1, mBQ es)])] [1, 0, 1] (false) (⟨[zX 2 100 0, zX 3 101 0, zI 4 0], [(0, y25 a n), (1, mBQ es), (100, .box 35 [.bx 0 0]), (101, .box 3 [cI id])]⟩) (cS1 g (eM a n es)) (fun hc1 => absurd hc1 (by decide)) (fun _ => ?_)
 refine oQ hG cA [(4, 1, .callG (.c (.fn 58 [] [(100, 0)])) [0, 1] [(0, y25 a n), (1, mBQ es), (100, .box 35 [.bx 0 0])])] [0, 1, 0, 1, 1, 1] (⟨[zX 2 100 0, zX 3 101 0, zI 4 0, zX 5 400 0, (13, [], .c (.fn 58 [] [(501, 0)]))], [(0, y25 a n), (1, mBQ es), (100, .box 35 [.bx 0 0]), (101, .box 3 [cI id]), (400, .box 65 [cI 34]), (501, .box 35 [.bx 0 0])]⟩) _ (by kernel_rfl) (cS1 g (fS a n es)) ?_
 refine qS (g := 13) (ps := rgP (aN Tryz.f23) [0, 1, 0, 1, 1, 1]) (assign := rgA (aN Tryz.f23) [0, 1, 0, 1, 1, 1]) (body := rgB (aN Tryz.f23) [0, 1, 0, 1, 1, 1]) hG (by kernel_rfl) 9900 9901 9910 (by kernel_rfl) rfl (by kernel_rfl) fun b D l fn tm hT hn => ?_
 refine ⟨.tup [], [501, 9901, 100, 101, 400, 0, 1], [(0, .box ⟨.c 35, some (b 501)⟩ [.bx 5 0]), (1, zK Tryz.f23 [0, 1, 0, 1, 1, 1] fn tm D l), (2, .box ⟨.c 35, some (b 100)⟩ [.bx 5 0]), (3, .box ⟨.c 3, some (b 101)⟩ [cI id]), (4, .box ⟨.c 65, some (b 400)⟩ [cI (wdE id es)]), (5, y27 a n), (6, mBQ (wdR id es))], none, ⟨[zI 4 0, zX 5 400 0], [(0, y25 a n), (1, mBQ (wdR id es)), (400, .box ⟨.c 65, some (b 400)⟩ [cI (wdE id es)]), (9900, .box ⟨.raw (.deferred (some [])), some D⟩ [])]⟩, _, .normal, by kernel_rfl, cS1 g (wdIt (b 501) (b 0) (b 1) (b 100) (b 101) (b 400) D l fn tm (hT.bx 2 100 0 rfl) (hT.bx 3 101 0 rfl) (hT.bx 5 400 0 rfl) hn a n id es hes), rfl, ?_⟩
 have hG0 := hG
 replace hG := fI (D := D) hG
 refine iJ [0, 1, 400] (⟨[zI 4 0, zX 5 400 0], [(0, y25 a n), (1, mBQ (wdR id es)), (400, .box 65 [cI (wdE id es)]), (9900, .box ⟨.raw (.deferred (some [])), some D⟩ [])]⟩) (by kernel_rfl) ?_
 refine m0 hG0 cA [] [] 9900 (.c (cI (wdE id es))) [(0, y25 a n), (1, mBQ (wdR id es))] (by kernel_rfl) aC ?_ ?_
 rfl
 rfl
theorem oK (a n id : Int) (es : RS) (hes : RsOk n es) :
  SpG g 23 [.c (.bx 0 0), .c (cI id)] [(0, y25 a n), (1, mBQ es)] (.c (cI (wdE id es))) [(0, y25 a n), (1, mBQ (wdR id es))] := by
 refine bO (u6 a n id es hes) ?_
 first | rfl | (funext i; simp only [aO, upd]; ((repeat' split) <;> first | rfl | (exfalso; omega)))
theorem aJR (a n : Int) (es : RS) (hes : RsOk n es) (hn0 : 0 <= n) (hn8 : n <= 8) :
  SpG g 25 [.c (.bx 0 0)] [(0, y25 a n), (1, mBQ es)] (.c (cM 3 (aIE a (aJ es) (tkL a n.toNat)))) [(0, y25 a n), (1, mBQ es)] := by
 refine aQ 35 Tryz.func25 (by kernel_rfl) fun fr hG => ?_
 refine zC hG [(1, 1, .callG (.c (cB false)) [0, 1] [(0, y25 a n), (1, mBQ es)])] [1, 0, 1] (false) (⟨[zX 0 0 0, zN 2], [(0, y25 a n), (1, mBQ es)]⟩) (cS1 g (eM a n es)) (fun hc1 => absurd hc1 (by decide)) (fun _ => ?_)
 refine zA hG [(4, 1, .callG (.c (cS (S (aJ es)))) [0, 1] [(0, y25 a n), (1, mBQ es)])] [0, 1, 0, 1, 1, 1, 1] (⟨[zX 0 0 0, zN 2, zN 3, zS 4 (S (aJ es)), zI 5 1], [(0, y25 a n), (1, mBQ es)]⟩) [(3, 9003, 43, 3)] [] (fun (zz : Nat × LD) => match zz with | (k, eb) => (n.toNat - k, ⟨[zX 0 0 0, zN 2, zY 3 9003 0, zS 4 (S (aJ es)), zI 5 ((k : Int) + 1)], [(0, y25 a n), (1, mBQ es), (9003, .arr 0 43 3 (eb))]⟩, (k : Int) <= n /\ eb = aIE a (aJ es) (tkL a k))) (0, []) (cS1 g (gW a n es (by exact hes))) ?_ ?_
 exact ⟨by omega, rfl⟩
 rintro ⟨k, eb⟩ ⟨hk, heb⟩
 have hel : eb.length <= k := by rw [heb, aIE, List.length_map]; exact tk_len a k
 refine zp hG [] [1, 0] ((((k : Int) + 1) : Int) <= n) aC (fun hc3 => ?_) (fun hc3 => ?_)
 skip
 refine zc hG [] [1, 0, 0, 1] (!decide ((((k : Int) + 1) : Int) = a)) aC (fun hc4 => ?_) (fun hc4 => ?_)
 (try simp only [blS] at hc4)
 refine zD hG [] (k + 1, eb ++ ([[.i a, .i ((k : Int) + 1), .s (S (aJ es))]] : LD)) (aA (by intros; (try simp only [inR, List.length_cons, List.length_nil]); omega : ((eb).length + (([[.i a, .i ((k : Int) + 1), .s (S (aJ es))]] : LD)).length) * (32 + 1) <= 140737488355328) (aB (by intros; (try simp only [inR, List.length_cons, List.length_nil]); omega : inR (((k : Int) + 1) + 1)))) ?_ ?_
 (try dsimp only); omega
 refine ⟨by push_cast; omega, ?_⟩
 rw [aEG, if_neg (by omega), heb]; simp [aIE, msD]
 (try simp only [blS] at hc4)
 refine zD hG [] (k + 1, eb) (aB (by intros; (try simp only [inR, List.length_cons, List.length_nil]); omega : inR (((k : Int) + 1) + 1))) ?_ ?_
 (try dsimp only); omega
 refine ⟨by push_cast; omega, ?_⟩
 rw [aEG, if_pos (by omega), heb]
 skip
 refine zE hG [] (.exit 0) (⟨[zN 2, zY 3 9003 0], [(0, y25 a n), (1, mBQ es), (9003, .arr 0 43 3 (eb))]⟩) aC rfl ?_
 refine zR hG [] [] (.c (cM 3 (eb))) [(0, y25 a n), (1, mBQ es)] aC ?_ ?_
 have hk2 : k = n.toNat := by omega
 rw [heb, hk2]
 rfl
theorem tick_ok (a n : Int) (es : RS) (hes : RsOk n es) (hn0 : 0 <= n) (hn8 : n <= 8) :
  SpG g 25 [.c (.bx 0 0)] [(0, y25 a n), (1, mBQ es)] (.c (cM 3 (aIE a (aJ es) (tkL a n.toNat)))) [(0, y25 a n), (1, mBQ es)] := by
 refine bO (aJR a n es hes hn0 hn8) ?_
 first | rfl | (funext i; simp only [aO, upd]; ((repeat' split) <;> first | rfl | (exfalso; omega)))
theorem aFS (a n : Int) (es : RS) (i : It) (hes : RsOk n es) (hi : ItOk i) :
  SpG g 22 [.c (.bx 0 0), .agg [cI ((i).id), cI ((i).author), cI ((i).rank), cI ((i).time), cI ((i).kind), cM 7 (aI ((i).input)), cI (tvK ((i).output)), cS (S (tvS ((i).output))), cI 0, cI 0, cI 0, cM 1 ([] : LD), cM 1 ([] : LD), cS (S (i).prop), cS (S (i).param), cM 1 (intsD ((i).program))]] [(0, y25 a n), (1, mBQ es)] (.c (cI (cV a es i))) [(0, y25 a n), (1, mBQ (dY a es i))] := by
 refine aQ 68 Tryz.func22 (by kernel_rfl) fun fr hG => ?_
 refine zC hG [(1, 1, .callG (.c (cB false)) [0, 1] [(0, y25 a n), (1, mBQ es)])] [1, 0, 1] (false) (⟨[zX 0 0 0, zX 3 100 0, zI 4 0], [(0, y25 a n), (1, mBQ es), (100, .box 63 [cI ((i).id), cI ((i).author), cI ((i).rank), cI ((i).time), cI ((i).kind), cM 7 (aI ((i).input)), cI (tvK ((i).output)), cS (S (tvS ((i).output))), cI 0, cI 0, cI 0, cM 1 ([] : LD), cM 1 ([] : LD), cS (S (i).prop), cS (S (i).param), cM 1 (intsD ((i).program))])]⟩) (cS1 g (eM a n es)) (fun hc1 => absurd hc1 (by decide)) (fun _ => ?_)
 refine zC hG [(3, 1, kS (S (itT i)))] [1, 0, 1, 1, 1] ((S (itT i)).toList == (S []).toList) (⟨[zX 0 0 0, zX 3 100 0, zI 4 0, zS 5 (S (itT i))], [(0, y25 a n), (1, mBQ es), (100, .box 63 [cI ((i).id), cI ((i).author), cI ((i).rank), cI ((i).time), cI ((i).kind), cM 7 (aI ((i).input)), cI (tvK ((i).output)), cS (S (tvS ((i).output))), cI 0, cI 0, cI 0, cM 1 ([] : LD), cM 1 ([] : LD), cS (S (i).prop), cS (S (i).param), cM 1 (intsD ((i).program))])]⟩) (cS1 g (nR i (by exact hi))) (fun hc2 => ?_) (fun hc2 => ?_)
 ·(try simp only [zq8] at hc2)
  exact absurd hc2 (itT_ne i)
 ·(try simp only [zq8] at hc2)
  refine zC hG [] [1, 0, 1, 1, 1, 1] (!decide (((i).author : Int) = a)) (⟨[zX 0 0 0, zI 4 0, zS 5 (S (itT i))], [(0, y25 a n), (1, mBQ es)]⟩) aC (fun hc3 => ?_) (fun hc3 => ?_)
  ·(try simp only [zq8] at hc3)
   refine iO hG cA [] [] (.c (cI 35)) [(0, y25 a n), (1, mBQ es)] (by kernel_rfl) aC ?_ ?_
   ·rw [(aAZ (by simpa using hc3)).1]
   ·rw [(aAZ (by simpa using hc3)).2]
    all_goals (first | rfl | (funext i; simp only [aO, upd]; ((repeat' split) <;> first | rfl | (exfalso; omega))))
  ·(try simp only [zq8] at hc3)
   refine zc hG [] [1, 1, 0, 1, 1, 1, 1, 1] ((lkM (itT i) es).isSome) aC (fun hc4 => ?_) (fun hc4 => ?_)
   ·(try simp only [zq8] at hc4)
    refine iO hG cA [] [] (.c (cI 33)) [(0, y25 a n), (1, mBQ es)] (by kernel_rfl) aC ?_ ?_
    ·rw [(iF (by simpa using hc3) hc4).1]
    ·rw [(iF (by simpa using hc3) hc4).2]
     all_goals (first | rfl | (funext i; simp only [aO, upd]; ((repeat' split) <;> first | rfl | (exfalso; omega))))
   ·(try simp only [zq8] at hc4)
    refine aLC (i := 1) rfl fun ents clock hM => ?_
    refine zL hG [] [0, 1, 0, 1, 1, 1, 1, 1, 1, 1] (fun (zz : RS × Array Nat × Int) => match zz with | (vis, seen, c) => (es.length - vis.length, ⟨[zX 0 0 0, zI 4 0, zS 5 (S (itT i)), zI 8 c, zX 39 1304 0], [(0, y25 a n), (1, .box ⟨.raw (.map ents clock), none⟩ []), (1304, .box ⟨.itr clock seen clock, none⟩ [.mp 1])]⟩, RngB ents vis seen /\ c = (lY a vis : Int) /\ vis.length <= es.length)) ([], #[], 0) aC ?_ ?_
    ·exact ⟨RngB.nil ents, rfl, Nat.zero_le _⟩
    rintro ⟨vis, seen, c⟩ ⟨hrg, hc, hvl⟩
    have hco := aLB a vis
    have hle := hes.len
    refine zF cA 1 (pos' := [0]) (by kernel_rfl) ?_
    refine aLJ (it := 39) (nx := 40) (more := 41) (i := 1) (j := 1304) (ents := ents) (clock := clock) (by kernel_rfl) (by kernel_rfl) (by kernel_rfl) (by kernel_rfl) rfl rfl (fun x hx => hM.lt x hx) (Nat.le_refl _) (fun hall => ?_) (fun ev hev hnew => ?_)
    ·have hful := RngB.full hM hrg hall
     refine aKH (i := 1) (q := none) (cells := []) (ents := ents) (clock := clock) (es := es) rfl hM ?_
     refine zC hG [] [0, 1] (false) (⟨[zX 0 0 0, zI 4 0, zS 5 (S (itT i)), zI 8 c, zX 39 1304 0], [(0, y25 a n), (1, mBQ es), (1304, .box ⟨.itr clock seen clock, none⟩ [.mp 1])]⟩) aC (fun hc6 => absurd hc6 (by decide)) (fun _ => ?_)
     refine zE hG [] (.exit 0) (⟨[zX 0 0 0, zI 4 0, zS 5 (S (itT i)), zI 8 c], [(0, y25 a n), (1, mBQ es)]⟩) aC rfl ?_
     refine zC hG [] [1, 0, 1, 1, 1, 1, 1, 1, 1, 1] (decide ((c : Int) >= 30)) (⟨[zX 0 0 0, zI 4 0, zS 5 (S (itT i))], [(0, y25 a n), (1, mBQ es)]⟩) aC (fun hc7 => ?_) (fun hc7 => ?_)
     ·(try simp only [zq8] at hc7)
      refine iO hG cA [] [] (.c (cI 2)) [(0, y25 a n), (1, mBQ es)] (by kernel_rfl) aC ?_ ?_
      ·rw [(uE (by simpa using hc3) (by simpa using hc4) (by rw [<- lX hful, <- hc]; omega)).1]
      ·rw [(uE (by simpa using hc3) (by simpa using hc4) (by rw [<- lX hful, <- hc]; omega)).2]
       all_goals (first | rfl | (funext i; simp only [aO, upd]; ((repeat' split) <;> first | rfl | (exfalso; omega))))
     ·(try simp only [zq8] at hc7)
      refine iO hG cA [] [] (.c (cI 0)) [(1, mBQ (bV ltS (itT i) false es)), (0, y25 a n)] (by kernel_rfl) aC ?_ ?_
      ·rw [(jA (by simpa using hc3) (by simpa using hc4) (by rw [<- lX hful, <- hc]; omega)).1]
      ·rw [(jA (by simpa using hc3) (by simpa using hc4) (by rw [<- lX hful, <- hc]; omega)).2]
       all_goals (first | rfl | (funext i; simp only [aO, upd]; ((repeat' split) <;> first | rfl | (exfalso; omega))))
    ·obtain ⟨ek, eb, hek, hev2, hin, hrg2, hln2, hent⟩ := RngB.step hM hrg hev hnew
     refine zC hG [] [0, 1] (true) (⟨[zX 0 0 0, zI 4 0, zS 5 (S (itT i)), zI 8 c, zX 39 1304 0], [(0, y25 a n), (1, .box ⟨.raw (.map ents clock), none⟩ []), (1304, .box ⟨.itr clock (seen.push ev.born) clock, none⟩ [.mp 1])]⟩) aC (fun _ => ?_) (fun hc8 => absurd hc8 (by decide))
     refine zc hG [(14, 0, .elem [.v (.string (S ek)), .v (.bool eb)]), (15, 1, kC (.tup [(true, [cI ((aF (ek)).id), cI ((aF (ek)).author), cI ((aF (ek)).rank), cI ((aF (ek)).time), cI ((aF (ek)).kind), cM 7 (aI ((aF (ek)).input)), cI (tvK ((aF (ek)).output)), cS (S (tvS ((aF (ek)).output))), cI 0, cI 0, cI 0, cM 1 ([] : LD), cM 1 ([] : LD), cS (S (aF (ek)).prop), cS (S (aF (ek)).param), cM 1 (intsD ((aF (ek)).program))]), (false, [cB true])]))] [1, 1, 1, 0, 1, 1] (decide (((aF (ek)).author : Int) = a)) (aA (hent) (cS1 g (nJ (t := ek) (by exact hes.it _ hin)))) (fun hc9 => ?_) (fun hc9 => ?_)
     ·(try simp only [zq8] at hc9)
      refine zD hG [] (vis ++ [(ek, eb)], seen.push ev.born, c + 1) (aB (by intros; (try simp only [inR]); omega : inR (c + 1))) ?_ ?_
      ·(try dsimp only); rw [List.length_append, List.length_cons, List.length_nil] at *; omega
      ·exact ⟨hrg2, by rw [aAD, if_pos (by simpa using hc9), hc], hln2⟩
     ·(try simp only [zq8] at hc9)
      refine zD hG [] (vis ++ [(ek, eb)], seen.push ev.born, c) aC ?_ ?_
      ·(try dsimp only); rw [List.length_append, List.length_cons, List.length_nil] at *; omega
      ·exact ⟨hrg2, by rw [aAD, if_neg (by simpa using hc9), hc], hln2⟩
end Go.Proofs.YtclaplngjmgnoaaGreatDoor
namespace Go.Proofs.YtclaplngjmgnoaaGreatDoor
open Go.RowKit Go.V
open Go.Eng (inR byteAt u8 dS)
variable {g : Gv}
def sgn (b : Bool) : UInt8 := if b then 45 else 43
def hdT (t : List UInt8) (b : Bool) : List UInt8 := sgn b :: Lib.itoa (t.length : Int)
theorem aL1 (t : List UInt8) (b : Bool) (r : List UInt8) : aP t b ++ r = hdT t b ++ 58 :: (t ++ 10 :: r) := by simp [aP, hdT, sgn]
theorem aM7 (t : List UInt8) (b : Bool) (r : List UInt8) (h : (aP t b ++ r).length < 4294967281) : SpG g 67 [.c (cS (S (aP t b ++ r))), .c (cS (S [58]))] [] (y12 (S (hdT t b)) (S (t ++ 10 :: r))) [] := by
 have hc := xU (g := g) (aP t b ++ r) [58] h
 have e : Lib.cut (aP t b ++ r) [58] = (hdT t b, t ++ 10 :: r, true) := by
  rw [aL1]
  refine lB fun x hx => ?_
  rcases List.mem_cons.1 hx with rfl | hx
  unfold sgn; split <;> decide
  exact eH (.inr (.inl rfl)) x hx
 rw [e] at hc
 exact hc
theorem atoi_hd {t : List UInt8} (b : Bool) (h : t.length <= 200000) : SpG g 68 [.c (cS ((S (hdT t b)).extract 1 (S (hdT t b)).size))] [] (.tup [(false, [cI (t.length : Int)]), (false, [.d (.v .nilIface)])]) [] := by
 rw [jM]
 exact jJ (t.length : Int) (gC (by omega))
theorem vX (t r : List UInt8) : (S (t ++ 10 :: r)).extract 0 ((t.length : Int)).toNat = S t := by rw [fY, Int.toNat_natCast]; simp
theorem tl_drop (t r : List UInt8) : (S (t ++ 10 :: r)).extract ((t.length : Int) + 1).toNat (S (t ++ 10 :: r)).size = S r := by
 have e : ((t.length : Int) + 1).toNat = t.length + 1 := by omega
 rw [e, jM, <- List.drop_drop, List.drop_left]; rfl
theorem aMK (t : List UInt8) (b : Bool) : decide (byteAt (S (hdT t b)) 0 = 45) = b := by cases b <;> rfl
theorem ln_take (t : List UInt8) (b : Bool) (r : List UInt8) : (S (aP t b ++ r)).extract 0 (((((S (hdT t b)).size : Int) + 1) + (t.length : Int)) + 1).toNat = S (aP t b) := by
 have e : (((((S (hdT t b)).size : Int) + 1) + (t.length : Int)) + 1).toNat = (aP t b).length := by
  rw [aH]; simp only [zq1, hdT, aP]; omega
 rw [e, fY]; simp
theorem line_tl {t r : List UInt8} {b : Bool} (h : t.length <= 200000) : SpG g 35 [.c (cS ((S (t ++ 10 :: r)).extract 0 (t.length : Int).toNat)), .c (cB (decide (byteAt (S (hdT t b)) 0 = 45)))] [] (.c (cS (S (aP t b)))) [] := by
 rw [vX, aMK]; exact iD t b h
theorem enc_ne {es : RS} : aJ es = [] ↔ es = [] := by
 cases es with
 | nil => simp [aJ]
 | cons x r => simp [aJ, aP]
theorem aM2 {es : RS} {k : Nat} (h : k < es.length) : aJ (es.drop k) = aP (es.getD k ([], false)).1 (es.getD k ([], false)).2 ++ aJ (es.drop (k + 1)) := by
 have e : es.drop k = es.getD k ([], false) :: es.drop (k + 1) := by
  rw [List.getD_eq_getElem?_getD, List.getElem?_eq_getElem h]; exact List.drop_eq_getElem_cons h
 rw [e]; simp [aJ]
theorem aM3 {n : Int} {es : RS} (h : RsOk n es) (k : Nat) : (aJ (es.drop k)).length <= 800400000 := by
 have := xM (f := fun x : List UInt8 × Bool => aP x.1 x.2) (l := es.drop k) (c := 200100) fun x hx => mA (h.tlen (List.mem_of_mem_drop hx)) x.2
 have h2 := h.len
 have h3 : (es.drop k).length <= es.length := by rw [List.length_drop]; omega
 unfold aJ
 omega
def aBQ (ms : RS) (k : Nat) (tl : RS) : Prop := ∀ s, (lkM s tl).getD false = decide (s ∈ (ms.take k).map fun x => aP x.1 x.2)
theorem tl_step {ms tl : RS} {k : Nat} (h : aBQ ms k tl) (hk : k < ms.length) : aBQ ms (k + 1) (bV ltS (aP (ms.getD k ([], false)).1 (ms.getD k ([], false)).2) true tl) := by
 intro s
 rw [jV, bY ([], false) hk, List.map_append]
 by_cases hs : s = aP (ms.getD k ([], false)).1 (ms.getD k ([], false)).2
 rw [if_pos hs, hs]; simp
 rw [if_neg hs, h s]
 have : (s ∈ List.map (fun x : List UInt8 × Bool => aP x.1 x.2) (ms.take k)) ↔ s ∈ List.map (fun x : List UInt8 × Bool => aP x.1 x.2) (ms.take k) ++ List.map (fun x => aP x.1 x.2) [ms.getD k ([], false)] := by
  rw [List.mem_append, List.map_singleton, List.mem_singleton]
  constructor
  exact .inl
  rintro (h | h)
  exact h
  exact absurd h hs
 exact decide_eq_decide.2 this
theorem aFN {k : List UInt8} {v : Bool} : ∀ {es : RS}, (∀ x, x ∈ es.map (·.1) -> x < k) -> kX ltS k v es = es ++ [(k, v)]
 | [], _ => rfl
 | y :: r, h => by
  have hy : ¬ ltS k y.1 = true := by
   have := h y.1 (by simp)
   simp only [ltS, decide_eq_true_eq]
   intro h2
   exact List.lt_irrefl _ (List.lt_trans this h2)
  simp only [kX, if_neg hy, List.cons_append]
  rw [aFN fun x hx => h x (by simp only [List.map_cons, List.mem_cons]; exact .inr hx)]
theorem aDU {ms : RS} (hs : kSort ms) {k : Nat} (hk : k < ms.length) : lkM (ms.getD k ([], false)).1 (ms.take k) = none /\ bV ltS (ms.getD k ([], false)).1 (ms.getD k ([], false)).2 (ms.take k) = ms.take (k + 1) := by
 have hlt : ∀ x, x ∈ (ms.take k).map (·.1) -> x < (ms.getD k ([], false)).1 := by
  intro x hx
  have h2 : (ms.map (·.1)).Pairwise (· < ·) := hs
  have e : ms.map (·.1) = (ms.take k).map (·.1) ++ (ms.drop k).map (·.1) := by rw [<- List.map_append, List.take_append_drop]
  rw [e, List.pairwise_append] at h2
  refine h2.2.2 x hx _ ?_
  have hd : ms.drop k = ms.getD k ([], false) :: ms.drop (k + 1) := by
   rw [List.getD_eq_getElem?_getD, List.getElem?_eq_getElem hk]; exact List.drop_eq_getElem_cons hk
  rw [hd]; simp
 have hn : lkM (ms.getD k ([], false)).1 (ms.take k) = none := by
  cases hl : lkM (ms.getD k ([], false)).1 (ms.take k) with
  | none => rfl
  | some b =>
   have := lk_some_mem.1 (show (lkM (ms.getD k ([], false)).1 (ms.take k)).isSome = true by rw [hl]; rfl)
   exact absurd (hlt _ this) (List.lt_irrefl _)
 refine ⟨hn, ?_⟩
 rw [bV, if_neg (by rw [hn]; decide), aFN hlt, bY ([], false) hk]
def jnV (es vis : RS) : RS := vis.foldl (fun e x => bV ltS x.1 ((lkM x.1 e).getD false || x.2) e) es
theorem xA (es vis : RS) (x : List UInt8 × Bool) : jnV es (vis ++ [x]) = bV ltS x.1 ((lkM x.1 (jnV es vis)).getD false || x.2) (jnV es vis) := by simp [jnV, List.foldl_append]
def orO : Option Bool -> Option Bool -> Option Bool
 | none, y => y
 | x, none => x
 | some a, some b => some (a || b)
theorem rev_all {α : Type} {p : List α -> Prop} (h0 : p []) (h1 : ∀ l x, p l -> p (l ++ [x])) (l : List α) : p l := by
 rw [<- List.reverse_reverse l]
 induction l.reverse with
 | nil => exact h0
 | cons x r ih => rw [List.reverse_cons]; exact h1 _ x ih
theorem aL7 {es : RS} (hs : kSort es) : ∀ (vis : RS), (vis.map (·.1)).Nodup -> kSort (jnV es vis) /\ (∀ n, lkM n (jnV es vis) = orO (lkM n es) (lkM n vis)) /\ (jnV es vis).length <= es.length + vis.length := by
 intro vis
 induction vis using rev_all with
 | h0 => intro _; exact ⟨hs, fun n => by simp only [jnV, List.foldl_nil, lkM]; cases lkM n es <;> rfl, by simp [jnV]⟩
 | h1 vis x ih =>
  intro hn
  rw [List.map_append, List.nodup_append] at hn
  obtain ⟨h1, _, h3⟩ := hn
  obtain ⟨g1, g2, g3⟩ := ih h1
  have hx : lkM x.1 vis = none := by
   cases hl : lkM x.1 vis with
   | none => rfl
   | some b =>
    have := lk_some_mem.1 (show (lkM x.1 vis).isSome = true by rw [hl]; rfl)
    exact absurd rfl (h3 _ this x.1 (by simp))
  have hap : ∀ n, lkM n (vis ++ [x]) = if n = x.1 then some x.2 else lkM n vis := by
   intro n
   have go : ∀ (l : RS), lkM n (l ++ [x]) = match lkM n l with
    | some b => some b
    | none => if n = x.1 then some x.2 else none := by
    intro l
    induction l with
    | nil =>
     simp only [List.nil_append, lkM]
     by_cases h : n = x.1
     ·rw [if_pos h.symm, if_pos h]
     ·rw [if_neg (fun e => h e.symm), if_neg h]
    | cons y r ihr =>
     simp only [List.cons_append, lkM]
     by_cases h : y.1 = n
     ·rw [if_pos h, if_pos h]
     ·rw [if_neg h, if_neg h, ihr]
   rw [go vis]
   by_cases h : n = x.1
   ·rw [if_pos h, h, hx, if_pos rfl]
   ·cases lkM n vis with
    | none => simp [h]
    | some b => simp [h]
  obtain ⟨u1, _, u3, _⟩ := qA (k := x.1) (v := (lkM x.1 (jnV es vis)).getD false || x.2) g1
  rw [xA]
  refine ⟨u1, fun n => ?_, by rw [List.length_append, List.length_cons, List.length_nil]; omega⟩
  rw [jV, hap n]
  by_cases h : n = x.1
  ·rw [if_pos h, if_pos h, h, g2, hx]
   cases lkM x.1 es <;> simp [orO]
  ·rw [if_neg h, if_neg h, g2]
theorem aFG {es ms vis : RS} (hs : kSort es) (hm : kSort ms) (hp : vis.Perm ms) : jnV es vis = jnV es ms := by
 have hv : (vis.map (·.1)).Nodup := ((hp.map (·.1)).nodup_iff).2 hm.nodup
 obtain ⟨a1, a2, _⟩ := aL7 hs vis hv
 obtain ⟨b1, b2, _⟩ := aL7 hs ms hm.nodup
 refine k_ext a1 b1 fun n => ?_
 rw [a2, b2, rC hp hm.nodup n]
def iX (es ms : RS) : Bool := (jnV es ms).any fun x => !decide (aP x.1 x.2 ∈ ms.map fun x => aP x.1 x.2)
theorem jn_rs {n : Int} {es ms : RS} (hes : RsOk n es) (hms : RsOk n ms) (hl : es.length + ms.length <= 4000) : RsOk n (jnV es ms) := by
 obtain ⟨a1, a2, a3⟩ := aL7 hes.sort ms hms.sort.nodup
 have hk : ∀ x, x ∈ jnV es ms -> (∃ y, y ∈ es /\ y.1 = x.1) \/ ∃ y, y ∈ ms /\ y.1 = x.1 := by
  intro x hx
  have h1 := (lk_some_mem (k := x.1)).2 (List.mem_map_of_mem hx)
  rw [a2] at h1
  cases h2 : lkM x.1 es with
  | some b => exact .inl ⟨_, l9 h2, rfl⟩
  | none =>
   rw [h2] at h1
   cases h3 : lkM x.1 ms with
   | some b => exact .inr ⟨_, l9 h3, rfl⟩
   | none => rw [h3] at h1; simp [orO] at h1
 refine ⟨a1, by omega, fun x hx => ?_, fun x hx => ?_⟩
 rcases hk x hx with ⟨y, hy, e⟩ | ⟨y, hy, e⟩
 rw [<- e]; exact hes.it y hy
 rw [<- e]; exact hms.it y hy
 rcases hk x hx with ⟨y, hy, e⟩ | ⟨y, hy, e⟩
 rw [<- e]; exact hes.au y hy
 rw [<- e]; exact hms.au y hy
theorem ln_no {t r : List UInt8} {b : Bool} (h : (!((S (aP t b ++ r)).extract 0 (((((S (hdT t b)).size : Int) + 1) + (t.length : Int)) + 1).toNat).toList == (S (aP t b)).toList) = true) : False := by
 rw [ln_take] at h; simp at h
theorem aHH {t r : List UInt8} (h : j9 t) : SpG g 38 [.c (cS ((S (t ++ 10 :: r)).extract 0 t.length))] [] (.tup [(true, [cI ((aF t).id), cI ((aF t).author), cI ((aF t).rank), cI ((aF t).time), cI ((aF t).kind), cM 7 (aI ((aF t).input)), cI (tvK ((aF t).output)), cS (S (tvS ((aF t).output))), cI 0, cI 0, cI 0, cM 1 ([] : LD), cM 1 ([] : LD), cS (S (aF t).prop), cS (S (aF t).param), cM 1 (intsD ((aF t).program))]), (false, [cB true])]) [] := by
 rw [show (S (t ++ 10 :: r)).extract 0 t.length = S t from vX t r]; exact nJ h
abbrev y28 (a0 : ByteArray) (a1 : Int) : Ob := .box 102 [cS a0, cI a1]
abbrev y29 (a0 : ByteArray) (a1 : Bool) : SV := .tup [(false, [cS a0]), (false, [cB a1]), (false, [cB true])]
theorem next_ok (t : List UInt8) (b : Bool) (r : List UInt8) (n : Int) (ht : j9 t) (h1 : 1 <= (aF t).author) (h2 : (aF t).author <= n) (hr : (aP t b ++ r).length < 4294967281) :
  SpG g 39 [.c (.bx 0 0)] [(0, y28 (S (aP t b ++ r)) n)] (y29 (S t) b) [(0, y28 (S r) n)] := by
 have htl := aL9 ht
 have htr : (t ++ 10 :: r).length = t.length + 1 + r.length := by simp only [zq0]; omega
 have hhl : (hdT t b).length + t.length + 2 + r.length = (aP t b ++ r).length := by simp only [zq1, hdT, aP]; omega
 have hhd : 1 <= (hdT t b).length := by simp [hdT]
 refine aQ 95 Tryz.func39 (by kernel_rfl) fun fr hG => ?_
 refine zC hG [(1, 4, kC (y12 (S (hdT t b)) (S (t ++ 10 :: r))))] [1, 0, 1, 1] ((S (hdT t b)).toList == (S []).toList) (⟨[zX 0 0 0, zS 2 (S []), zB 3 false, zB 4 false, zS 5 (S (hdT t b)), zS 6 (S (t ++ 10 :: r))], [(0, y28 (S (aP t b ++ r)) n)]⟩) (cS1 g (aM7 t b r hr)) (fun hc1 => ?_) (fun hc1 => ?_)
 (try simp only [zq6] at hc1)
 simp [hdT] at hc1
 (try simp only [zq6] at hc1)
 refine zC hG [(4, 2, kC (y4 (t.length : Int)))] [1, 0, 1, 1, 1, 1] ((decide (((t.length : Int) : Int) < 0)) || (decide (((t.length : Int) : Int) >= ((S (t ++ 10 :: r)).size : Int)))) (⟨[zX 0 0 0, zS 2 (S []), zB 3 false, zB 4 false, zS 5 (S (hdT t b)), zS 6 (S (t ++ 10 :: r)), zI 8 (t.length : Int)], [(0, y28 (S (aP t b ++ r)) n)]⟩) (aA (by intros; (try simp only [pJ] at *); omega : (0 : Int) <= 1 /\ (1 : Int) <= ((S (hdT t b)).size : Int) /\ ((S (hdT t b)).size : Int) <= ((S (hdT t b)).size : Int)) (cS1 g (atoi_hd b htl))) (fun hc2 => ?_) (fun hc2 => ?_)
 (try simp only [zq6] at hc2)
 exfalso; omega
 (try simp only [zq6] at hc2)
 refine zC hG [(8, 13, kS (S (aP t b)))] [1, 0, 1, 1, 1, 1, 1, 1] (!(((S (aP t b ++ r)).extract 0 (((((S (hdT t b)).size : Int) + 1) + (t.length : Int)) + 1 : Int).toNat).toList == (S (aP t b)).toList)) (⟨[zX 0 0 0, zS 2 ((S (t ++ 10 :: r)).extract 0 t.length), zB 3 (decide ((byteAt (S (hdT t b)) 0 : Int) = 45)), zB 4 false, zS 6 (S (t ++ 10 :: r)), zI 8 (t.length : Int)], [(0, y28 (S (aP t b ++ r)) n)]⟩) (aA (by intros; (try simp only [pJ] at *); omega : (0 : Int) <= 0 /\ (0 : Int) <= (t.length : Int) /\ (t.length : Int) <= ((S (t ++ 10 :: r)).size : Int)) (aA (by intros; (try simp only [pJ] at *); omega : (0 : Int) <= 0 /\ 0 < ((S (hdT t b)).size : Int)) (aA (by intros; (try simp only [pJ] at *); omega : inR (((S (hdT t b)).size : Int) + 1)) (aA (by intros; (try simp only [pJ] at *); omega : inR ((((S (hdT t b)).size : Int) + 1) + (t.length : Int))) (aA (by intros; (try simp only [pJ] at *); omega : inR (((((S (hdT t b)).size : Int) + 1) + (t.length : Int)) + 1)) (aA (by intros; (try simp only [pJ] at *); omega : (0 : Int) <= 0 /\ (0 : Int) <= (((((S (hdT t b)).size : Int) + 1) + (t.length : Int)) + 1) /\ (((((S (hdT t b)).size : Int) + 1) + (t.length : Int)) + 1) <= ((S (aP t b ++ r)).size : Int)) (cS1 g (line_tl (t := t) (r := r) (b := b) htl)))))))) (fun hc3 => ?_) (fun hc3 => ?_)
 (try simp only [zq6] at hc3)
 exact (ln_no (t := t) (r := r) (b := b) (by simpa [aH] using hc3)).elim
 (try simp only [zq6] at hc3)
 refine zC hG [(10, 1, kC (.tup [(true, [cI ((aF t).id), cI ((aF t).author), cI ((aF t).rank), cI ((aF t).time), cI ((aF t).kind), cM 7 (aI ((aF t).input)), cI (tvK ((aF t).output)), cS (S (tvS ((aF t).output))), cI 0, cI 0, cI 0, cM 1 ([] : LD), cM 1 ([] : LD), cS (S (aF t).prop), cS (S (aF t).param), cM 1 (intsD ((aF t).program))]), (false, [cB true])]))] [1, 0, 1, 1, 1, 1, 1, 1, 1, 1] ((decide (((aF t).author : Int) < 1)) || (decide (((aF t).author : Int) > n))) (⟨[zX 0 0 0, zS 2 ((S (t ++ 10 :: r)).extract 0 t.length), zB 3 (decide ((byteAt (S (hdT t b)) 0 : Int) = 45)), zB 4 true, zS 6 (S (t ++ 10 :: r)), zI 8 (t.length : Int)], [(0, y28 (S (aP t b ++ r)) n)]⟩) (cS1 g (aHH (r := r) ht)) (fun hc4 => ?_) (fun hc4 => ?_)
 (try simp only [zq6] at hc4)
 exfalso; omega
 (try simp only [zq6] at hc4)
 refine zR hG [] [] (y29 ((S (t ++ 10 :: r)).extract 0 t.length) (decide ((byteAt (S (hdT t b)) 0 : Int) = 45))) [(0, y28 ((S (t ++ 10 :: r)).extract ((t.length : Int) + 1 : Int).toNat (S (t ++ 10 :: r)).size) n)] (aA (by intros; (try simp only [pJ] at *); omega : inR ((t.length : Int) + 1)) (aB (by intros; (try simp only [pJ] at *); omega : (0 : Int) <= ((t.length : Int) + 1) /\ ((t.length : Int) + 1 : Int) <= ((S (t ++ 10 :: r)).size : Int) /\ ((S (t ++ 10 :: r)).size : Int) <= ((S (t ++ 10 :: r)).size : Int)))) ?_ ?_
 rw [show (S (t ++ 10 :: r)).extract 0 t.length = S t from vX t r, aMK]
 rw [show (S (t ++ 10 :: r)).extract ((t.length : Int) + 1).toNat (S (t ++ 10 :: r)).size = S r from tl_drop t r]
end Go.Proofs.YtclaplngjmgnoaaGreatDoor
namespace Go.Proofs.YtclaplngjmgnoaaGreatDoor
open Go.RowKit Go.V
open Go.Eng (inR byteAt u8 dS)
variable {g : Gv}
theorem aE6 {n : Int} {ms : RS} (hms : RsOk n ms) {k : Nat} (hk : k < ms.length) :
  SpG g 39 [.c (.bx 0 0)] [(0, y28 (S (aJ (ms.drop k))) n)] (.tup [(false, [cS (S (ms.getD k ([], false)).1)]), (false, [.d (.b (ms.getD k ([], false)).2)]), (false, [cB true])]) [(0, y28 (S (aJ (ms.drop (k + 1)))) n)] := by
 have hm := a8 (z := (([], false) : List UInt8 × Bool)) hk
 have hl := aM3 hms k
 rw [aM2 hk] at hl ⊢
 exact next_ok _ _ _ n (hms.it _ hm) (hms.au _ hm).1 (hms.au _ hm).2 (by omega)
theorem aEH {n : Int} {ms tl fd : RS} (hms : RsOk n ms) {k : Nat} (hk : k < ms.length) (h1 : aBQ ms k tl) (h2 : fd = ms.take k) :
  k + 1 <= ms.length /\ aBQ ms (k + 1) (bV ltS (aP (ms.getD k ([], false)).1 (ms.getD k ([], false)).2) true tl) /\ bV ltS (ms.getD k ([], false)).1 ((lkM (ms.getD k ([], false)).1 fd).getD false || (ms.getD k ([], false)).2) fd = ms.take (k + 1) := by
 subst h2
 obtain ⟨g1, g2⟩ := aDU hms.sort hk
 refine ⟨by omega, tl_step h1 hk, ?_⟩
 rw [g1]; exact g2
theorem aJQ {es ms tl em : RS} {n : Int} (hem : em = jnV es ms) (h1 : aBQ ms ms.length tl) (hk : kSort em) (h : iX es ms = false) : ∀ k, k < em.length -> (lkM (aP ((em.map (·.1)).getD k []) ((lkM ((em.map (·.1)).getD k []) em).getD false)) tl).getD false = true := by
 intro k hkl
 rw [nQ hkl, aFB hk hkl, h1, List.take_length]
 have hm := a8 (z := (([], false) : List UInt8 × Bool)) hkl
 unfold iX at h
 rw [List.any_eq_false, <- hem] at h
 have h5 := h _ hm
 simp only [Bool.not_eq_true, Bool.not_eq_false'] at h5
 exact h5
theorem aJP {es ms tl em : RS} {n : Int} (hem : em = jnV es ms) (h1 : aBQ ms ms.length tl) (hk : kSort em) (h : iX es ms = true) : ∃ q, q < em.length /\ (∀ k, k < q -> (lkM (aP ((em.map (·.1)).getD k []) ((lkM ((em.map (·.1)).getD k []) em).getD false)) tl).getD false = true) /\ (lkM (aP ((em.map (·.1)).getD q []) ((lkM ((em.map (·.1)).getD q []) em).getD false)) tl).getD false = false := by
 have hex : ∃ q, q < em.length /\ (lkM (aP ((em.map (·.1)).getD q []) ((lkM ((em.map (·.1)).getD q []) em).getD false)) tl).getD false = false := by
  unfold iX at h
  rw [List.any_eq_true] at h
  obtain ⟨x, hx, hx2⟩ := h
  rw [<- hem] at hx
  obtain ⟨q, hq, rfl⟩ := List.mem_iff_getElem.1 hx
  refine ⟨q, hq, ?_⟩
  rw [nQ hq, aFB hk hq, h1, List.take_length]
  have e : em.getD q ([], false) = em[q] := by rw [List.getD_eq_getElem?_getD, List.getElem?_eq_getElem hq]; rfl
  rw [e]
  simpa using hx2
 obtain ⟨q, hq1, hq2⟩ := hex
 induction q using Nat.strongRecOn with
 | ind q ih =>
  by_cases hb : ∀ k, k < q -> (lkM (aP ((em.map (·.1)).getD k []) ((lkM ((em.map (·.1)).getD k []) em).getD false)) tl).getD false = true
  ·exact ⟨q, hq1, hb, hq2⟩
  ·obtain ⟨k, hk2⟩ := Classical.not_forall.1 hb
   obtain ⟨hkq, hkf⟩ := Classical.not_imp.1 hk2
   exact ih k hkq (by omega) (by simpa using hkf)
theorem tkGo (b2 b3 b4 b5 D l : Nat) (fn : FuncId) (tm : Array Value) (h2 : tm.getD 2 undef = .pointer (some ⟨b2, 0, none⟩)) (h3 : tm.getD 3 undef = .pointer (some ⟨b3, 0, none⟩)) (h4 : tm.getD 4 undef = .pointer (some ⟨b4, 0, none⟩)) (h5 : tm.getD 5 undef = .pointer (some ⟨b5, 0, none⟩)) (hn : tm.size = 124) (a n f : Int) (em ms tl : RS) (hem : RsOk n em) (t : List UInt8) (w : Bool) (ht : t.length <= 200000) (hc : (lkM (aP t w) tl).getD false = true) :
  eC Tryz.prog (Gl g) l [.c (cS (S t)), .c (cB w)] [(0, zK Tryz.f19 [0, 1, 0, 1, 1, 1, 1, 1, 1, 1, 1] fn tm D l), (1, .box ⟨.c 35, some b2⟩ [.bx 5 0]), (2, .box ⟨.c 43, some b3⟩ [cI f, cI a, cS (S (aJ ms))]), (3, .box ⟨.c 32, some b4⟩ [cN]), (4, .box ⟨.c 47, some b5⟩ [.mp 7]), (5, y27 a n), (6, mBQ em), (7, mBQ tl)] (.c (cB true)) [(0, zK Tryz.f19 [0, 1, 0, 1, 1, 1, 1, 1, 1, 1, 1] fn tm D l), (1, .box ⟨.c 35, some b2⟩ [.bx 5 0]), (2, .box ⟨.c 43, some b3⟩ [cI f, cI a, cS (S (aJ ms))]), (3, .box ⟨.c 32, some b4⟩ [cN]), (4, .box ⟨.c 47, some b5⟩ [.mp 7]), (5, y27 a n), (6, mBQ em), (7, mBQ tl)] := by
 refine gE (iL := 0) (p := 106) (p2 := 107) (env0 := [zX 2 1 0, zX 3 2 0, zX 4 3 0, zX 5 4 0]) (n := 124) (r := (bB (aN Tryz.f19) [0, 1, 0, 1, 1, 1, 1, 1, 1, 1, 1] fn tm D)) rfl (by kernel_rfl) hn (by decide) (by decide) (by decide) ⟨rfl, ⟨_, _, _, rfl, rfl, h2⟩, ⟨rfl, ⟨_, _, _, rfl, rfl, h3⟩, ⟨rfl, ⟨_, _, _, rfl, rfl, h4⟩, ⟨rfl, ⟨_, _, _, rfl, rfl, h5⟩, trivial⟩⟩⟩⟩ fun fr hG => ?_
 refine oR hG cA [] (⟨[zX 2 1 0, zX 3 2 0, zX 4 3 0, zX 5 4 0, zS 14 (S t), zB 15 w], [(0, zK Tryz.f19 [0, 1, 0, 1, 1, 1, 1, 1, 1, 1, 1] fn tm D l), (1, .box ⟨.c 35, some b2⟩ [.bx 5 0]), (2, .box ⟨.c 43, some b3⟩ [cI f, cI a, cS (S (aJ ms))]), (3, .box ⟨.c 32, some b4⟩ [cN]), (4, .box ⟨.c 47, some b5⟩ [.mp 7]), (5, y27 a n), (6, mBQ em), (7, mBQ tl)]⟩) 0 (r := (bB (aN Tryz.f19) [0, 1, 0, 1, 1, 1, 1, 1, 1, 1, 1] fn tm D)) (by kernel_rfl) aC rfl rfl ?_
 refine iP hG (⟨[zX 2 1 0, zX 3 2 0, zX 4 3 0, zX 5 4 0, zS 14 (S t), zB 15 w], [(0, .box ⟨.raw (.loop { (bB (aN Tryz.f19) [0, 1, 0, 1, 1, 1, 1, 1, 1, 1, 1] fn tm D) with state := .busy }), some l⟩ []), (1, .box ⟨.c 35, some b2⟩ [.bx 5 0]), (2, .box ⟨.c 43, some b3⟩ [cI f, cI a, cS (S (aJ ms))]), (3, .box ⟨.c 32, some b4⟩ [cN]), (4, .box ⟨.c 47, some b5⟩ [.mp 7]), (5, y27 a n), (6, mBQ em), (7, mBQ tl)]⟩) (by kernel_rfl) ?_
 refine zC hG [(20, 3, kS (S (aP (t) w)))] [1, 0] (!((lkM (aP (t) w) tl).getD false)) (⟨[zX 2 1 0, zX 3 2 0, zX 4 3 0], [(0, .box ⟨.raw (.loop { (bB (aN Tryz.f19) [0, 1, 0, 1, 1, 1, 1, 1, 1, 1, 1] fn tm D) with state := .busy }), some l⟩ []), (1, .box ⟨.c 35, some b2⟩ [.bx 5 0]), (2, .box ⟨.c 43, some b3⟩ [cI f, cI a, cS (S (aJ ms))]), (3, .box ⟨.c 32, some b4⟩ [cN]), (4, .box ⟨.c 47, some b5⟩ [.mp 7]), (5, y27 a n), (6, mBQ em), (7, mBQ tl)]⟩) (cS1 g (iD (t) w (by exact ht))) (fun hc1 => ?_) (fun hc1 => ?_)
 (try simp only [blS] at hc1)
 rw [hc] at hc1; cases hc1
 (try simp only [blS] at hc1)
 refine oP hG cA [] [] 0 .normal [(0, .box ⟨.raw (mJ { (bB (aN Tryz.f19) [0, 1, 0, 1, 1, 1, 1, 1, 1, 1, 1] fn tm D) with state := .busy } .normal), some l⟩ []), (1, .box ⟨.c 35, some b2⟩ [.bx 5 0]), (2, .box ⟨.c 43, some b3⟩ [cI f, cI a, cS (S (aJ ms))]), (3, .box ⟨.c 32, some b4⟩ [cN]), (4, .box ⟨.c 47, some b5⟩ [.mp 7]), (5, y27 a n), (6, mBQ em), (7, mBQ tl)] (by kernel_rfl) aC ?_ ?_
 rfl
 rfl
theorem tkStop (b2 b3 b4 b5 D l : Nat) (fn : FuncId) (tm : Array Value) (h2 : tm.getD 2 undef = .pointer (some ⟨b2, 0, none⟩)) (h3 : tm.getD 3 undef = .pointer (some ⟨b3, 0, none⟩)) (h4 : tm.getD 4 undef = .pointer (some ⟨b4, 0, none⟩)) (h5 : tm.getD 5 undef = .pointer (some ⟨b5, 0, none⟩)) (hn : tm.size = 124) (a n f : Int) (em ms tl : RS) (hem : RsOk n em) (t : List UInt8) (w : Bool) (ht : t.length <= 200000) (hc : (lkM (aP t w) tl).getD false = false) :
  eC Tryz.prog (Gl g) l [.c (cS (S t)), .c (cB w)] [(0, zK Tryz.f19 [0, 1, 0, 1, 1, 1, 1, 1, 1, 1, 1] fn tm D l), (1, .box ⟨.c 35, some b2⟩ [.bx 5 0]), (2, .box ⟨.c 43, some b3⟩ [cI f, cI a, cS (S (aJ ms))]), (3, .box ⟨.c 32, some b4⟩ [cN]), (4, .box ⟨.c 47, some b5⟩ [.mp 7]), (5, y27 a n), (6, mBQ em), (7, mBQ tl)] (.c (cB false)) [(0, .box ⟨.raw (.loop { (bB (aN Tryz.f19) [0, 1, 0, 1, 1, 1, 1, 1, 1, 1, 1] fn tm D) with state := .done, pending := some .ret }), some l⟩ []), (1, .box ⟨.c 35, some b2⟩ [.bx 5 0]), (2, .box ⟨.c 43, some b3⟩ [cI f, cI a, cS (S (aJ ms))]), (3, .box ⟨.c 32, some b4⟩ [.ar 100 0]), (4, .box ⟨.c 47, some b5⟩ [.mp 7]), (5, y27 a n), (6, mBQ em), (7, mBQ tl), (100, .arr 0 43 3 ([msD a (aJ em) f] : LD))] := by
 refine gE (iL := 0) (p := 106) (p2 := 107) (env0 := [zX 2 1 0, zX 3 2 0, zX 4 3 0, zX 5 4 0]) (n := 124) (r := (bB (aN Tryz.f19) [0, 1, 0, 1, 1, 1, 1, 1, 1, 1, 1] fn tm D)) rfl (by kernel_rfl) hn (by decide) (by decide) (by decide) ⟨rfl, ⟨_, _, _, rfl, rfl, h2⟩, ⟨rfl, ⟨_, _, _, rfl, rfl, h3⟩, ⟨rfl, ⟨_, _, _, rfl, rfl, h4⟩, ⟨rfl, ⟨_, _, _, rfl, rfl, h5⟩, trivial⟩⟩⟩⟩ fun fr hG => ?_
 refine oR hG cA [] (⟨[zX 2 1 0, zX 3 2 0, zX 4 3 0, zX 5 4 0, zS 14 (S t), zB 15 w], [(0, zK Tryz.f19 [0, 1, 0, 1, 1, 1, 1, 1, 1, 1, 1] fn tm D l), (1, .box ⟨.c 35, some b2⟩ [.bx 5 0]), (2, .box ⟨.c 43, some b3⟩ [cI f, cI a, cS (S (aJ ms))]), (3, .box ⟨.c 32, some b4⟩ [cN]), (4, .box ⟨.c 47, some b5⟩ [.mp 7]), (5, y27 a n), (6, mBQ em), (7, mBQ tl)]⟩) 0 (r := (bB (aN Tryz.f19) [0, 1, 0, 1, 1, 1, 1, 1, 1, 1, 1] fn tm D)) (by kernel_rfl) aC rfl rfl ?_
 refine iP hG (⟨[zX 2 1 0, zX 3 2 0, zX 4 3 0, zX 5 4 0, zS 14 (S t), zB 15 w], [(0, .box ⟨.raw (.loop { (bB (aN Tryz.f19) [0, 1, 0, 1, 1, 1, 1, 1, 1, 1, 1] fn tm D) with state := .busy }), some l⟩ []), (1, .box ⟨.c 35, some b2⟩ [.bx 5 0]), (2, .box ⟨.c 43, some b3⟩ [cI f, cI a, cS (S (aJ ms))]), (3, .box ⟨.c 32, some b4⟩ [cN]), (4, .box ⟨.c 47, some b5⟩ [.mp 7]), (5, y27 a n), (6, mBQ em), (7, mBQ tl)]⟩) (by kernel_rfl) ?_
 refine zC hG [(20, 3, kS (S (aP (t) w)))] [1, 0] (!((lkM (aP (t) w) tl).getD false)) (⟨[zX 2 1 0, zX 3 2 0, zX 4 3 0], [(0, .box ⟨.raw (.loop { (bB (aN Tryz.f19) [0, 1, 0, 1, 1, 1, 1, 1, 1, 1, 1] fn tm D) with state := .busy }), some l⟩ []), (1, .box ⟨.c 35, some b2⟩ [.bx 5 0]), (2, .box ⟨.c 43, some b3⟩ [cI f, cI a, cS (S (aJ ms))]), (3, .box ⟨.c 32, some b4⟩ [cN]), (4, .box ⟨.c 47, some b5⟩ [.mp 7]), (5, y27 a n), (6, mBQ em), (7, mBQ tl)]⟩) (cS1 g (iD (t) w (by exact ht))) (fun hc1 => ?_) (fun hc1 => ?_)
 (try simp only [blS] at hc1)
 refine oP hG cA [(21, 7, .callG (.c (cS (S (aJ em)))) [5, 6] ((99999, .box 0 []) :: [(0, y25 a n), (1, mBQ em)]))] [2209] 0 .ret [(0, .box ⟨.raw (mJ { (bB (aN Tryz.f19) [0, 1, 0, 1, 1, 1, 1, 1, 1, 1, 1] fn tm D) with state := .busy } .ret), some l⟩ []), (3, .box ⟨.c 32, some b4⟩ [.ar 100 0]), (100, .arr 0 43 3 ([[.i a, .i f, .s (S (aJ em))]] : LD)), (1, .box ⟨.c 35, some b2⟩ [.bx 5 0]), (2, .box ⟨.c 43, some b3⟩ [cI f, cI a, cS (S (aJ ms))]), (4, .box ⟨.c 47, some b5⟩ [.mp 7]), (5, y27 a n), (6, mBQ em), (7, mBQ tl)] (by kernel_rfl) (aA (And.intro (And.intro (rfl : (some (y27 a n) : Option Ob) = some (y27 a n)) (And.intro (rfl : (some (mBQ em) : Option Ob) = some (mBQ em)) (trivial))) (rfl : true = true)) (cS1 g (gW a n em (by exact hem)))) ?_ ?_
 rfl
 funext i; simp only [aO, upd]; (repeat' split) <;> first | rfl | (exfalso; omega)
 (try simp only [blS] at hc1)
 rw [hc] at hc1; cases hc1
abbrev y30 (a0 : Int) (a1 : Int) : Ob := .box 73 [cI a0, cI a1, .mp 7]
theorem tkItA (b0 b6 b7 b8 : Nat) (b2 b3 b4 b5 D l : Nat) (fn : FuncId) (tm : Array Value) (h2 : tm.getD 2 undef = .pointer (some ⟨b2, 0, none⟩)) (h3 : tm.getD 3 undef = .pointer (some ⟨b3, 0, none⟩)) (h4 : tm.getD 4 undef = .pointer (some ⟨b4, 0, none⟩)) (h5 : tm.getD 5 undef = .pointer (some ⟨b5, 0, none⟩)) (hn : tm.size = 124) (a n f : Int) (em ms tl : RS) (hem : RsOk n em) (hq2 : ∀ k, k < em.length -> (lkM (aP ((em.map (·.1)).getD k []) ((lkM ((em.map (·.1)).getD k []) em).getD false)) tl).getD false = true) :
  SpG g 58 [.c (.d (.v (.func (.yield l) #[] #[]))), .c (.bx 0 0)] [(0, .box ⟨.c 35, some b0⟩ [.bx 6 0]), (1, zK Tryz.f19 [0, 1, 0, 1, 1, 1, 1, 1, 1, 1, 1] fn tm D l), (2, .box ⟨.c 35, some b2⟩ [.bx 6 0]), (3, .box ⟨.c 43, some b3⟩ [cI f, cI a, cS (S (aJ ms))]), (4, .box ⟨.c 32, some b4⟩ [cN]), (5, .box ⟨.c 47, some b5⟩ [.mp 8]), (6, .box ⟨.c 73, some b6⟩ [cI a, cI n, .mp 7]), (7, .box ⟨.mpb (em), some b7⟩ []), (8, .box ⟨.mpb (tl), some b8⟩ [])] (.tup []) [(0, .box ⟨.c 35, some b0⟩ [.bx 6 0]), (1, zK Tryz.f19 [0, 1, 0, 1, 1, 1, 1, 1, 1, 1, 1] fn tm D l), (2, .box ⟨.c 35, some b2⟩ [.bx 6 0]), (3, .box ⟨.c 43, some b3⟩ [cI f, cI a, cS (S (aJ ms))]), (4, .box ⟨.c 32, some b4⟩ [cN]), (5, .box ⟨.c 47, some b5⟩ [.mp 8]), (6, y30 a n), (7, mBQ em), (8, mBQ tl)] := by
 have hle := hem.len
 have hsl : (strs (em.map (·.1))).length = em.length := by rw [strs, List.length_map, List.length_map]
 refine aQ 27 Tryz.func58 (by kernel_rfl) fun fr hG => ?_
 refine iJ [6, 7, 8] (⟨[(0, [], .c (.d (.v (.func (.yield l) #[] #[])))), zX 1 0 0], [(0, .box ⟨.c 35, some b0⟩ [.bx 6 0]), (1, zK Tryz.f19 [0, 1, 0, 1, 1, 1, 1, 1, 1, 1, 1] fn tm D l), (2, .box ⟨.c 35, some b2⟩ [.bx 6 0]), (3, .box ⟨.c 43, some b3⟩ [cI f, cI a, cS (S (aJ ms))]), (4, .box ⟨.c 32, some b4⟩ [cN]), (5, .box ⟨.c 47, some b5⟩ [.mp 8]), (6, y30 a n), (7, mBQ em), (8, mBQ tl)]⟩) (by kernel_rfl) ?_
 refine zL hG [(0, 4, .callG (.c (.fn 113 [] [(100, 0)])) [7] [(0, mBQ em), (100, .box 47 [.mp 0])]), (0, 5, .callG (.c (cM 1 (strs (em.map (·.1))))) [104, 7] [(0, .box 47 [.mp 1]), (1, mBQ em)])] [0, 1] (fun (zz : Nat) => match zz with | k => (em.length - k, ⟨[(0, [], .c (.d (.v (.func (.yield l) #[] #[])))), zX 1 0 0, zM 10 1 (strs (em.map (·.1))), zI 11 ((strs (em.map (·.1))).length : Int), zI 12 (k : Int)], [(0, .box ⟨.c 35, some b0⟩ [.bx 6 0]), (1, zK Tryz.f19 [0, 1, 0, 1, 1, 1, 1, 1, 1, 1, 1] fn tm D l), (2, .box ⟨.c 35, some b2⟩ [.bx 6 0]), (3, .box ⟨.c 43, some b3⟩ [cI f, cI a, cS (S (aJ ms))]), (4, .box ⟨.c 32, some b4⟩ [cN]), (5, .box ⟨.c 47, some b5⟩ [.mp 8]), (6, y30 a n), (7, mBQ em), (8, mBQ tl)]⟩, k <= em.length)) 0 (cS2 g (jX em) (cS1 g (dB em (by exact hem.sort) (by have := hem.len; omega) (by intro x hx; have := hem.tlen hx; omega)))) ?_ ?_
 ·exact Nat.zero_le _
 rintro k hk
 refine zc hG [] [0, 1] (decide (((k : Int) : Int) < ((strs (em.map (·.1))).length : Int))) aC (fun hc2 => ?_) (fun hc2 => ?_)
 ·(try simp only [pI] at hc2)
  refine zc hG [(2, 0, .elem (dQ ((em.map (·.1)).getD k []))), (3, 8, .callG (.c (cB true)) [1, 2, 3, 4, 5, 6, 7, 8] [(0, zK Tryz.f19 [0, 1, 0, 1, 1, 1, 1, 1, 1, 1, 1] fn tm D l), (1, .box ⟨.c 35, some b2⟩ [.bx 5 0]), (2, .box ⟨.c 43, some b3⟩ [cI f, cI a, cS (S (aJ ms))]), (3, .box ⟨.c 32, some b4⟩ [cN]), (4, .box ⟨.c 47, some b5⟩ [.mp 7]), (5, y27 a n), (6, mBQ em), (7, mBQ tl)])] [1, 1, 0, 0, 1, 1] (false) (aA (by intros; exact cH (f := dQ) [] (by omega) (by (try simp only [zq4] at *); omega) : (0 : Int) <= (k : Int) /\ (strs (em.map (·.1)))[k]? = some (dQ ((em.map (·.1)).getD k []))) (aB (tkGo b2 b3 b4 b5 D l fn tm h2 h3 h4 h5 hn a n f em ms tl hem ((em.map (·.1)).getD k []) ((lkM ((em.map (·.1)).getD k []) em).getD false) (mB hem (by omega)) (hq2 k (by omega)) : eC Tryz.prog (Gl g) _ _ _ _ _))) (fun hc3 => absurd hc3 (by decide)) (fun _ => ?_)
  refine zD hG [] (k + 1) (aB (by intros; (try simp only [aJD] at *); omega : inR ((k : Int) + 1))) ?_ ?_
  ·(try dsimp only); omega
  ·show k + 1 <= em.length; omega
 ·(try simp only [pI] at hc2)
  refine zE hG [] (.exit 0) (⟨[], [(0, .box ⟨.c 35, some b0⟩ [.bx 6 0]), (1, zK Tryz.f19 [0, 1, 0, 1, 1, 1, 1, 1, 1, 1, 1] fn tm D l), (2, .box ⟨.c 35, some b2⟩ [.bx 6 0]), (3, .box ⟨.c 43, some b3⟩ [cI f, cI a, cS (S (aJ ms))]), (4, .box ⟨.c 32, some b4⟩ [cN]), (5, .box ⟨.c 47, some b5⟩ [.mp 8]), (6, y30 a n), (7, mBQ em), (8, mBQ tl)]⟩) aC rfl ?_
  refine iO hG cA [] [] (.tup []) [(0, .box ⟨.c 35, some b0⟩ [.bx 6 0]), (1, zK Tryz.f19 [0, 1, 0, 1, 1, 1, 1, 1, 1, 1, 1] fn tm D l), (2, .box ⟨.c 35, some b2⟩ [.bx 6 0]), (3, .box ⟨.c 43, some b3⟩ [cI f, cI a, cS (S (aJ ms))]), (4, .box ⟨.c 32, some b4⟩ [cN]), (5, .box ⟨.c 47, some b5⟩ [.mp 8]), (6, y30 a n), (7, mBQ em), (8, mBQ tl)] (by kernel_rfl) aC ?_ ?_
  ·rfl
  ·first | rfl | (funext i; simp only [aO, upd]; ((repeat' split) <;> first | rfl | (exfalso; omega)))
theorem tkItB (b0 b6 b7 b8 : Nat) (b2 b3 b4 b5 D l : Nat) (fn : FuncId) (tm : Array Value) (h2 : tm.getD 2 undef = .pointer (some ⟨b2, 0, none⟩)) (h3 : tm.getD 3 undef = .pointer (some ⟨b3, 0, none⟩)) (h4 : tm.getD 4 undef = .pointer (some ⟨b4, 0, none⟩)) (h5 : tm.getD 5 undef = .pointer (some ⟨b5, 0, none⟩)) (hn : tm.size = 124) (a n f : Int) (em ms tl : RS) (hem : RsOk n em) (q : Nat) (hq1 : q < em.length) (hq2 : ∀ k, k < q -> (lkM (aP ((em.map (·.1)).getD k []) ((lkM ((em.map (·.1)).getD k []) em).getD false)) tl).getD false = true) (hq3 : (lkM (aP ((em.map (·.1)).getD q []) ((lkM ((em.map (·.1)).getD q []) em).getD false)) tl).getD false = false) :
  SpG g 58 [.c (.d (.v (.func (.yield l) #[] #[]))), .c (.bx 0 0)] [(0, .box ⟨.c 35, some b0⟩ [.bx 6 0]), (1, zK Tryz.f19 [0, 1, 0, 1, 1, 1, 1, 1, 1, 1, 1] fn tm D l), (2, .box ⟨.c 35, some b2⟩ [.bx 6 0]), (3, .box ⟨.c 43, some b3⟩ [cI f, cI a, cS (S (aJ ms))]), (4, .box ⟨.c 32, some b4⟩ [cN]), (5, .box ⟨.c 47, some b5⟩ [.mp 8]), (6, .box ⟨.c 73, some b6⟩ [cI a, cI n, .mp 7]), (7, .box ⟨.mpb (em), some b7⟩ []), (8, .box ⟨.mpb (tl), some b8⟩ [])] (.tup []) [(0, .box ⟨.c 35, some b0⟩ [.bx 6 0]), (1, .box ⟨.raw (.loop { (bB (aN Tryz.f19) [0, 1, 0, 1, 1, 1, 1, 1, 1, 1, 1] fn tm D) with state := .done, pending := some .ret }), some l⟩ []), (2, .box ⟨.c 35, some b2⟩ [.bx 6 0]), (3, .box ⟨.c 43, some b3⟩ [cI f, cI a, cS (S (aJ ms))]), (4, .box ⟨.c 32, some b4⟩ [.ar 100 0]), (5, .box ⟨.c 47, some b5⟩ [.mp 8]), (6, y30 a n), (7, mBQ em), (8, mBQ tl), (100, .arr 0 43 3 ([msD a (aJ em) f] : LD))] := by
 have hle := hem.len
 have hsl : (strs (em.map (·.1))).length = em.length := by rw [strs, List.length_map, List.length_map]
 refine aQ 27 Tryz.func58 (by kernel_rfl) fun fr hG => ?_
 refine iJ [6, 7, 8] (⟨[(0, [], .c (.d (.v (.func (.yield l) #[] #[])))), zX 1 0 0], [(0, .box ⟨.c 35, some b0⟩ [.bx 6 0]), (1, zK Tryz.f19 [0, 1, 0, 1, 1, 1, 1, 1, 1, 1, 1] fn tm D l), (2, .box ⟨.c 35, some b2⟩ [.bx 6 0]), (3, .box ⟨.c 43, some b3⟩ [cI f, cI a, cS (S (aJ ms))]), (4, .box ⟨.c 32, some b4⟩ [cN]), (5, .box ⟨.c 47, some b5⟩ [.mp 8]), (6, y30 a n), (7, mBQ em), (8, mBQ tl)]⟩) (by kernel_rfl) ?_
 refine zL hG [(0, 4, .callG (.c (.fn 113 [] [(100, 0)])) [7] [(0, mBQ em), (100, .box 47 [.mp 0])]), (0, 5, .callG (.c (cM 1 (strs (em.map (·.1))))) [104, 7] [(0, .box 47 [.mp 1]), (1, mBQ em)])] [0, 1] (fun (zz : Nat) => match zz with | k => (q - k, ⟨[(0, [], .c (.d (.v (.func (.yield l) #[] #[])))), zX 1 0 0, zM 10 1 (strs (em.map (·.1))), zI 11 ((strs (em.map (·.1))).length : Int), zI 12 (k : Int)], [(0, .box ⟨.c 35, some b0⟩ [.bx 6 0]), (1, zK Tryz.f19 [0, 1, 0, 1, 1, 1, 1, 1, 1, 1, 1] fn tm D l), (2, .box ⟨.c 35, some b2⟩ [.bx 6 0]), (3, .box ⟨.c 43, some b3⟩ [cI f, cI a, cS (S (aJ ms))]), (4, .box ⟨.c 32, some b4⟩ [cN]), (5, .box ⟨.c 47, some b5⟩ [.mp 8]), (6, y30 a n), (7, mBQ em), (8, mBQ tl)]⟩, k <= q)) 0 (cS2 g (jX em) (cS1 g (dB em (by exact hem.sort) (by have := hem.len; omega) (by intro x hx; have := hem.tlen hx; omega)))) ?_ ?_
 ·exact Nat.zero_le _
 rintro k hk
 refine zc hG [] [0, 1] (decide (((k : Int) : Int) < ((strs (em.map (·.1))).length : Int))) aC (fun hc2 => ?_) (fun hc2 => ?_)
 ·(try simp only [pI] at hc2)
  rcases (by omega : k < q \/ k = q) with hkq | hkq
  ·skip
   refine zc hG [(2, 0, .elem (dQ ((em.map (·.1)).getD k []))), (3, 8, .callG (.c (cB true)) [1, 2, 3, 4, 5, 6, 7, 8] [(0, zK Tryz.f19 [0, 1, 0, 1, 1, 1, 1, 1, 1, 1, 1] fn tm D l), (1, .box ⟨.c 35, some b2⟩ [.bx 5 0]), (2, .box ⟨.c 43, some b3⟩ [cI f, cI a, cS (S (aJ ms))]), (3, .box ⟨.c 32, some b4⟩ [cN]), (4, .box ⟨.c 47, some b5⟩ [.mp 7]), (5, y27 a n), (6, mBQ em), (7, mBQ tl)])] [1, 1, 0, 0, 1, 1] (false) (aA (by intros; exact cH (f := dQ) [] (by omega) (by (try simp only [zq4] at *); omega) : (0 : Int) <= (k : Int) /\ (strs (em.map (·.1)))[k]? = some (dQ ((em.map (·.1)).getD k []))) (aB (tkGo b2 b3 b4 b5 D l fn tm h2 h3 h4 h5 hn a n f em ms tl hem ((em.map (·.1)).getD k []) ((lkM ((em.map (·.1)).getD k []) em).getD false) (mB hem (by omega)) (hq2 k (by omega)) : eC Tryz.prog (Gl g) _ _ _ _ _))) (fun hc3 => absurd hc3 (by decide)) (fun _ => ?_)
   refine zD hG [] (k + 1) (aB (by intros; (try simp only [aJD] at *); omega : inR ((k : Int) + 1))) ?_ ?_
   ·(try dsimp only); omega
   ·show k + 1 <= q; omega
  ·skip
   refine zC hG [(2, 0, .elem (dQ ((em.map (·.1)).getD k []))), (3, 8, .callG (.c (cB false)) [1, 2, 3, 4, 5, 6, 7, 8] [(0, .box ⟨.raw (.loop { (bB (aN Tryz.f19) [0, 1, 0, 1, 1, 1, 1, 1, 1, 1, 1] fn tm D) with state := .done, pending := some .ret }), some l⟩ []), (1, .box ⟨.c 35, some b2⟩ [.bx 5 0]), (2, .box ⟨.c 43, some b3⟩ [cI f, cI a, cS (S (aJ ms))]), (3, .box ⟨.c 32, some b4⟩ [.ar 100 0]), (4, .box ⟨.c 47, some b5⟩ [.mp 7]), (5, y27 a n), (6, mBQ em), (7, mBQ tl), (100, .arr 0 43 3 ([msD a (aJ em) f] : LD))])] [1, 1, 0, 0, 1, 1] (true) (⟨[(0, [], .c (.d (.v (.func (.yield l) #[] #[])))), zX 1 0 0, zM 10 1 (strs (em.map (·.1))), zI 11 ((strs (em.map (·.1))).length : Int), zI 12 (k : Int)], [(0, .box ⟨.c 35, some b0⟩ [.bx 6 0]), (1, .box ⟨.raw (.loop { (bB (aN Tryz.f19) [0, 1, 0, 1, 1, 1, 1, 1, 1, 1, 1] fn tm D) with state := .done, pending := some .ret }), some l⟩ []), (2, .box ⟨.c 35, some b2⟩ [.bx 6 0]), (3, .box ⟨.c 43, some b3⟩ [cI f, cI a, cS (S (aJ ms))]), (4, .box ⟨.c 32, some b4⟩ [.ar 408 0]), (5, .box ⟨.c 47, some b5⟩ [.mp 8]), (6, y30 a n), (7, mBQ em), (8, mBQ tl), (408, .arr 0 43 3 ([msD a (aJ em) f] : LD))]⟩) (aA (by intros; exact cH (f := dQ) [] (by omega) (by (try simp only [zq4] at *); omega) : (0 : Int) <= (k : Int) /\ (strs (em.map (·.1)))[k]? = some (dQ ((em.map (·.1)).getD k []))) (aB (tkStop b2 b3 b4 b5 D l fn tm h2 h3 h4 h5 hn a n f em ms tl hem ((em.map (·.1)).getD k []) ((lkM ((em.map (·.1)).getD k []) em).getD false) (mB hem (by omega)) (hkq ▸ hq3) : eC Tryz.prog (Gl g) _ _ _ _ _))) (fun _ => ?_) (fun hc4 => absurd hc4 (by decide))
   refine zE hG [] .ret (⟨[], [(0, .box ⟨.c 35, some b0⟩ [.bx 6 0]), (1, .box ⟨.raw (.loop { (bB (aN Tryz.f19) [0, 1, 0, 1, 1, 1, 1, 1, 1, 1, 1] fn tm D) with state := .done, pending := some .ret }), some l⟩ []), (2, .box ⟨.c 35, some b2⟩ [.bx 6 0]), (3, .box ⟨.c 43, some b3⟩ [cI f, cI a, cS (S (aJ ms))]), (4, .box ⟨.c 32, some b4⟩ [.ar 408 0]), (5, .box ⟨.c 47, some b5⟩ [.mp 8]), (6, y30 a n), (7, mBQ em), (8, mBQ tl), (408, .arr 0 43 3 ([msD a (aJ em) f] : LD))]⟩) aC rfl ?_
   refine iO hG cA [] [408] (.tup []) [(0, .box ⟨.c 35, some b0⟩ [.bx 6 0]), (1, .box ⟨.raw (.loop { (bB (aN Tryz.f19) [0, 1, 0, 1, 1, 1, 1, 1, 1, 1, 1] fn tm D) with state := .done, pending := some .ret }), some l⟩ []), (2, .box ⟨.c 35, some b2⟩ [.bx 6 0]), (3, .box ⟨.c 43, some b3⟩ [cI f, cI a, cS (S (aJ ms))]), (4, .box ⟨.c 32, some b4⟩ [.ar 100 0]), (5, .box ⟨.c 47, some b5⟩ [.mp 8]), (6, y30 a n), (7, mBQ em), (8, mBQ tl), (100, .arr 0 43 3 ([msD a (aJ em) f] : LD))] (by kernel_rfl) aC ?_ ?_
   ·rfl
   ·first | rfl | (funext i; simp only [aO, upd]; ((repeat' split) <;> first | rfl | (exfalso; omega)))
 ·(try simp only [pI] at hc2)
  exfalso; omega
abbrev y31 (a0 : Int) (a1 : Int) (a2 : ByteArray) : Ob := .box 43 [cI a0, cI a1, cS a2]
theorem aGR (a n f : Int) (es ms : RS) (hes : RsOk n es) (hms : RsOk n ms) (hl : es.length + ms.length <= 4000) (hf1 : 1 <= f) (hf2 : f <= n) (hfa : ¬ f = a) (hmo : iX es ms = false) :
  SpG g 19 [.c (.bx 0 0), .agg [cI f, cI a, cS (S (aJ ms))]] [(0, y25 a n), (1, mBQ es)] (.c (cN)) [(0, y25 a n), (1, mBQ (jnV es ms))] := by
 refine r3 124 Tryz.func19 (by kernel_rfl) fun fr hG => ?_
 refine zC hG [(1, 1, .callG (.c (cB false)) [0, 1] [(0, y25 a n), (1, mBQ es)])] [1, 0, 1] ((((!decide ((a : Int) = a)) || (decide ((f : Int) = a))) || (decide ((f : Int) < 1))) || (decide ((f : Int) > n))) (⟨[zX 2 100 0, zX 3 101 0, zX 4 102 0], [(0, y25 a n), (1, mBQ es), (100, .box 35 [.bx 0 0]), (101, y31 f a (S (aJ ms))), (102, .box 32 [cN])]⟩) (cS1 g (eM a n es)) (fun hc1 => ?_) (fun hc1 => ?_)
 ·(try simp only [zq8] at hc1)
  exfalso; simp at hc1; omega
 ·(try simp only [zq8] at hc1)
  refine zL hG [(3, 0, .mask []), (4, 0, .mask [])] [0, 0, 1, 1, 1, 1, 1, 1] (fun (zz : Nat × RS × RS) => match zz with | (k, tl, fd) => (ms.length - k, ⟨[zX 2 100 0, zX 3 101 0, zX 4 102 0, zX 5 401 0, (6, [], .c (.mp 500)), zX 7 607 0, (8, [], .c (.fn 39 [(607, 0)] []))], [(0, y25 a n), (1, mBQ es), (100, .box 35 [.bx 0 0]), (101, y31 f a (S (aJ ms))), (102, .box 32 [cN]), (400, mBQ tl), (401, .box 47 [.mp 400]), (500, mBQ fd), (607, y28 (S (aJ (ms.drop k))) n)]⟩, k <= ms.length /\ aBQ ms k tl /\ fd = ms.take k)) (0, [], []) aC ?_ ?_
  ·exact ⟨Nat.zero_le _, fun s => by simp [lkM], rfl⟩
  rintro ⟨k, tl, fd⟩ ⟨hk, htl, hfd⟩
  refine zc hG [] [1, 0] (!((S (aJ (ms.drop k))).toList == (S []).toList)) aC (fun hc3 => ?_) (fun hc3 => ?_)
  ·(try simp only [zq8] at hc3)
   have hkm : k < ms.length := by
    rcases Nat.lt_or_ge k ms.length with h | h
    ·exact h
    ·exact absurd (enc_ne.2 (List.drop_eq_nil_of_le h)) hc3
   refine zC hG [(8, 1, .call (y29 (S (ms.getD k ([], false)).1) ((ms.getD k ([], false)).2)) [] [[.s (S (aJ (ms.drop (k + 1)))), .i n]])] [1, 0, 1, 0, 1] (false) (⟨[zX 2 100 0, zX 3 101 0, zX 4 102 0, zX 5 401 0, (6, [], .c (.mp 500)), zX 7 607 0, (8, [], .c (.fn 39 [(607, 0)] [])), zS 9 (S (ms.getD k ([], false)).1), zB 10 ((ms.getD k ([], false)).2)], [(0, y25 a n), (1, mBQ es), (100, .box 35 [.bx 0 0]), (101, y31 f a (S (aJ ms))), (102, .box 32 [cN]), (400, mBQ tl), (401, .box 47 [.mp 400]), (500, mBQ fd), (607, y28 (S (aJ (ms.drop (k + 1)))) n)]⟩) (cS1 g (aE6 hms hkm)) (fun hc4 => absurd hc4 (by decide)) (fun _ => ?_)
   refine zD hG [(11, 3, kS (S (aP ((ms.getD k ([], false)).1) ((ms.getD k ([], false)).2))))] (k + 1, bV ltS (aP ((ms.getD k ([], false)).1) ((ms.getD k ([], false)).2)) true tl, bV ltS ((ms.getD k ([], false)).1) (((lkM ((ms.getD k ([], false)).1) fd).getD false) || ((ms.getD k ([], false)).2)) fd) (cS1 g (iD ((ms.getD k ([], false)).1) ((ms.getD k ([], false)).2) (by exact hms.tlen (a8 hkm)))) ?_ ?_
   ·(try dsimp only); omega
   ·exact aEH hms hkm htl hfd
  ·(try simp only [zq8] at hc3)
   have hkm : k = ms.length := by
    have h0 := enc_ne.1 hc3
    have := congrArg List.length h0
    rw [List.length_drop, List.length_nil] at this; omega
   subst hkm
   rw [List.take_length] at hfd
   refine zE hG [] (.exit 0) (⟨[zX 2 100 0, zX 3 101 0, zX 4 102 0, zX 5 401 0, (6, [], .c (.mp 500))], [(0, y25 a n), (1, mBQ es), (100, .box 35 [.bx 0 0]), (101, y31 f a (S (aJ ms))), (102, .box 32 [cN]), (400, mBQ tl), (401, .box 47 [.mp 400]), (500, mBQ fd)]⟩) aC rfl ?_
   refine aLC (i := 500) rfl fun ents clock hM => ?_
   refine zL hG [] [0, 1, 0, 1, 1, 1, 1, 1, 1, 1] (fun (zz : RS × Array Nat × RS) => match zz with | (vis, seen, em) => (fd.length - vis.length, ⟨[zX 2 100 0, zX 3 101 0, zX 4 102 0, zX 5 401 0, zX 84 1401 0], [(0, y25 a n), (1, mBQ em), (100, .box 35 [.bx 0 0]), (101, y31 f a (S (aJ ms))), (102, .box 32 [cN]), (400, mBQ tl), (401, .box 47 [.mp 400]), (500, .box ⟨.raw (.map ents clock), none⟩ []), (1401, .box ⟨.itr clock seen clock, none⟩ [.mp 500])]⟩, RngB ents vis seen /\ em = jnV es vis /\ vis.length <= fd.length)) ([], #[], es) aC ?_ ?_
   ·exact ⟨RngB.nil ents, rfl, Nat.zero_le _⟩
   rintro ⟨vis, seen, em⟩ ⟨hrg, hem, hvl⟩
   refine zF cA 1 (pos' := [0]) (by kernel_rfl) ?_
   refine aLJ (it := 84) (nx := 85) (more := 86) (i := 500) (j := 1401) (ents := ents) (clock := clock) (by kernel_rfl) (by kernel_rfl) (by kernel_rfl) (by kernel_rfl) rfl rfl (fun x hx => hM.lt x hx) (Nat.le_refl _) (fun hall => ?_) (fun ev hev hnew => ?_)
   ·have hful := RngB.full hM hrg hall
    have hemj : em = jnV es ms := by rw [hem]; exact hfd ▸ aFG hes.sort (hfd ▸ hms.sort) hful
    have hemr : RsOk n em := by rw [hemj]; exact jn_rs hes hms hl
    refine aKH (i := 500) (q := none) (cells := []) (ents := ents) (clock := clock) (es := fd) rfl hM ?_
    refine zC hG [] [0, 1] (false) (⟨[zX 2 100 0, zX 3 101 0, zX 4 102 0, zX 5 401 0, zX 84 1401 0], [(0, y25 a n), (1, mBQ em), (100, .box 35 [.bx 0 0]), (101, y31 f a (S (aJ ms))), (102, .box 32 [cN]), (400, mBQ tl), (401, .box 47 [.mp 400]), (500, mBQ fd), (1401, .box ⟨.itr clock seen clock, none⟩ [.mp 500])]⟩) aC (fun hc6 => absurd hc6 (by decide)) (fun _ => ?_)
    refine zE hG [] (.exit 2) (⟨[zX 2 100 0, zX 3 101 0, zX 4 102 0, zX 5 401 0], [(0, y25 a n), (1, mBQ em), (100, .box 35 [.bx 0 0]), (101, y31 f a (S (aJ ms))), (102, .box 32 [cN]), (400, mBQ tl), (401, .box 47 [.mp 400])]⟩) aC rfl ?_
    refine oQ hG cA [(17, 1, .callG (.c (.fn 58 [] [(100, 0)])) [0, 1] [(0, y25 a n), (1, mBQ em), (100, .box 35 [.bx 0 0])])] [0, 1, 0, 1, 1, 1, 1, 1, 1, 1, 1] (⟨[zX 2 100 0, zX 3 101 0, zX 4 102 0, zX 5 401 0, (105, [], .c (.fn 58 [] [(1801, 0)]))], [(0, y25 a n), (1, mBQ em), (100, .box 35 [.bx 0 0]), (101, y31 f a (S (aJ ms))), (102, .box 32 [cN]), (400, mBQ tl), (401, .box 47 [.mp 400]), (1801, .box 35 [.bx 0 0])]⟩) _ (by kernel_rfl) (cS1 g (fS a n em)) ?_
    refine qS (g := 105) (ps := rgP (aN Tryz.f19) [0, 1, 0, 1, 1, 1, 1, 1, 1, 1, 1]) (assign := rgA (aN Tryz.f19) [0, 1, 0, 1, 1, 1, 1, 1, 1, 1, 1]) (body := rgB (aN Tryz.f19) [0, 1, 0, 1, 1, 1, 1, 1, 1, 1, 1]) hG (by kernel_rfl) 9900 9901 9910 (by kernel_rfl) rfl (by kernel_rfl) fun b D l fn tm hT hn => ?_
    refine ⟨.tup [], [1801, 9901, 100, 101, 102, 401, 0, 1, 400], [(0, .box ⟨.c 35, some (b 1801)⟩ [.bx 6 0]), (1, zK Tryz.f19 [0, 1, 0, 1, 1, 1, 1, 1, 1, 1, 1] fn tm D l), (2, .box ⟨.c 35, some (b 100)⟩ [.bx 6 0]), (3, .box ⟨.c 43, some (b 101)⟩ [cI f, cI a, cS (S (aJ ms))]), (4, .box ⟨.c 32, some (b 102)⟩ [cN]), (5, .box ⟨.c 47, some (b 401)⟩ [.mp 8]), (6, y30 a n), (7, mBQ em), (8, mBQ tl)], none, ⟨[zX 4 102 0], [(0, y25 a n), (1, mBQ em), (102, .box ⟨.c 32, some (b 102)⟩ [cN]), (9900, .box ⟨.raw (.deferred (some [])), some D⟩ [])]⟩, _, .normal, by kernel_rfl, cS1 g (tkItA (b 1801) (b 0) (b 1) (b 400) (b 100) (b 101) (b 102) (b 401) D l fn tm (hT.bx 2 100 0 rfl) (hT.bx 3 101 0 rfl) (hT.bx 4 102 0 rfl) (hT.bx 5 401 0 rfl) hn a n f em ms tl hemr (aJQ (n := n) hemj htl hemr.sort hmo)), rfl, ?_⟩
    have hG0 := hG
    replace hG := fI (D := D) hG
    refine iJ [0, 1, 102] (⟨[zX 4 102 0], [(0, y25 a n), (1, mBQ em), (102, .box 32 [cN]), (9900, .box ⟨.raw (.deferred (some [])), some D⟩ [])]⟩) (by kernel_rfl) ?_
    refine m0 hG0 cA [] [] 9900 (.c (cN)) [(0, y25 a n), (1, mBQ em)] (by kernel_rfl) aC ?_ ?_
    ·rfl
    ·rw [<- hemj]
     all_goals (first | rfl | (funext i; simp only [aO, upd]; ((repeat' split) <;> first | rfl | (exfalso; omega))))
   ·obtain ⟨ek, eb, hek, hev2, hin, hrg2, hln2, hent⟩ := RngB.step hM hrg hev hnew
    refine zC hG [] [0, 1] (true) (⟨[zX 2 100 0, zX 3 101 0, zX 4 102 0, zX 5 401 0, zX 84 1401 0], [(0, y25 a n), (1, mBQ em), (100, .box 35 [.bx 0 0]), (101, y31 f a (S (aJ ms))), (102, .box 32 [cN]), (400, mBQ tl), (401, .box 47 [.mp 400]), (500, .box ⟨.raw (.map ents clock), none⟩ []), (1401, .box ⟨.itr clock (seen.push ev.born) clock, none⟩ [.mp 500])]⟩) aC (fun _ => ?_) (fun hc7 => absurd hc7 (by decide))
    refine zD hG [(15, 0, .elem [.v (.string (S ek)), .v (.bool eb)])] (vis ++ [(ek, eb)], seen.push ev.born, bV ltS ek (((lkM ek em).getD false) || eb) em) (aB (hent)) ?_ ?_
    ·(try dsimp only); rw [List.length_append, List.length_cons, List.length_nil] at *; omega
    ·exact ⟨hrg2, by rw [xA, hem], hln2⟩
theorem aGQ (a n f : Int) (es ms : RS) (hes : RsOk n es) (hms : RsOk n ms) (hl : es.length + ms.length <= 4000) (hf1 : 1 <= f) (hf2 : f <= n) (hfa : ¬ f = a) (hmo : iX es ms = true) :
  SpG g 19 [.c (.bx 0 0), .agg [cI f, cI a, cS (S (aJ ms))]] [(0, y25 a n), (1, mBQ es)] (.c (cM 3 ([msD a (aJ (jnV es ms)) f] : LD))) [(0, y25 a n), (1, mBQ (jnV es ms))] := by
 refine r3 124 Tryz.func19 (by kernel_rfl) fun fr hG => ?_
 refine zC hG [(1, 1, .callG (.c (cB false)) [0, 1] [(0, y25 a n), (1, mBQ es)])] [1, 0, 1] ((((!decide ((a : Int) = a)) || (decide ((f : Int) = a))) || (decide ((f : Int) < 1))) || (decide ((f : Int) > n))) (⟨[zX 2 100 0, zX 3 101 0, zX 4 102 0], [(0, y25 a n), (1, mBQ es), (100, .box 35 [.bx 0 0]), (101, y31 f a (S (aJ ms))), (102, .box 32 [cN])]⟩) (cS1 g (eM a n es)) (fun hc1 => ?_) (fun hc1 => ?_)
 ·(try simp only [zq8] at hc1)
  exfalso; simp at hc1; omega
 ·(try simp only [zq8] at hc1)
  refine zL hG [(3, 0, .mask []), (4, 0, .mask [])] [0, 0, 1, 1, 1, 1, 1, 1] (fun (zz : Nat × RS × RS) => match zz with | (k, tl, fd) => (ms.length - k, ⟨[zX 2 100 0, zX 3 101 0, zX 4 102 0, zX 5 401 0, (6, [], .c (.mp 500)), zX 7 607 0, (8, [], .c (.fn 39 [(607, 0)] []))], [(0, y25 a n), (1, mBQ es), (100, .box 35 [.bx 0 0]), (101, y31 f a (S (aJ ms))), (102, .box 32 [cN]), (400, mBQ tl), (401, .box 47 [.mp 400]), (500, mBQ fd), (607, y28 (S (aJ (ms.drop k))) n)]⟩, k <= ms.length /\ aBQ ms k tl /\ fd = ms.take k)) (0, [], []) aC ?_ ?_
  ·exact ⟨Nat.zero_le _, fun s => by simp [lkM], rfl⟩
  rintro ⟨k, tl, fd⟩ ⟨hk, htl, hfd⟩
  refine zc hG [] [1, 0] (!((S (aJ (ms.drop k))).toList == (S []).toList)) aC (fun hc3 => ?_) (fun hc3 => ?_)
  ·(try simp only [zq8] at hc3)
   have hkm : k < ms.length := by
    rcases Nat.lt_or_ge k ms.length with h | h
    ·exact h
    ·exact absurd (enc_ne.2 (List.drop_eq_nil_of_le h)) hc3
   refine zC hG [(8, 1, .call (y29 (S (ms.getD k ([], false)).1) ((ms.getD k ([], false)).2)) [] [[.s (S (aJ (ms.drop (k + 1)))), .i n]])] [1, 0, 1, 0, 1] (false) (⟨[zX 2 100 0, zX 3 101 0, zX 4 102 0, zX 5 401 0, (6, [], .c (.mp 500)), zX 7 607 0, (8, [], .c (.fn 39 [(607, 0)] [])), zS 9 (S (ms.getD k ([], false)).1), zB 10 ((ms.getD k ([], false)).2)], [(0, y25 a n), (1, mBQ es), (100, .box 35 [.bx 0 0]), (101, y31 f a (S (aJ ms))), (102, .box 32 [cN]), (400, mBQ tl), (401, .box 47 [.mp 400]), (500, mBQ fd), (607, y28 (S (aJ (ms.drop (k + 1)))) n)]⟩) (cS1 g (aE6 hms hkm)) (fun hc4 => absurd hc4 (by decide)) (fun _ => ?_)
   refine zD hG [(11, 3, kS (S (aP ((ms.getD k ([], false)).1) ((ms.getD k ([], false)).2))))] (k + 1, bV ltS (aP ((ms.getD k ([], false)).1) ((ms.getD k ([], false)).2)) true tl, bV ltS ((ms.getD k ([], false)).1) (((lkM ((ms.getD k ([], false)).1) fd).getD false) || ((ms.getD k ([], false)).2)) fd) (cS1 g (iD ((ms.getD k ([], false)).1) ((ms.getD k ([], false)).2) (by exact hms.tlen (a8 hkm)))) ?_ ?_
   ·(try dsimp only); omega
   ·exact aEH hms hkm htl hfd
  ·(try simp only [zq8] at hc3)
   have hkm : k = ms.length := by
    have h0 := enc_ne.1 hc3
    have := congrArg List.length h0
    rw [List.length_drop, List.length_nil] at this; omega
   subst hkm
   rw [List.take_length] at hfd
   refine zE hG [] (.exit 0) (⟨[zX 2 100 0, zX 3 101 0, zX 4 102 0, zX 5 401 0, (6, [], .c (.mp 500))], [(0, y25 a n), (1, mBQ es), (100, .box 35 [.bx 0 0]), (101, y31 f a (S (aJ ms))), (102, .box 32 [cN]), (400, mBQ tl), (401, .box 47 [.mp 400]), (500, mBQ fd)]⟩) aC rfl ?_
   refine aLC (i := 500) rfl fun ents clock hM => ?_
   refine zL hG [] [0, 1, 0, 1, 1, 1, 1, 1, 1, 1] (fun (zz : RS × Array Nat × RS) => match zz with | (vis, seen, em) => (fd.length - vis.length, ⟨[zX 2 100 0, zX 3 101 0, zX 4 102 0, zX 5 401 0, zX 84 1401 0], [(0, y25 a n), (1, mBQ em), (100, .box 35 [.bx 0 0]), (101, y31 f a (S (aJ ms))), (102, .box 32 [cN]), (400, mBQ tl), (401, .box 47 [.mp 400]), (500, .box ⟨.raw (.map ents clock), none⟩ []), (1401, .box ⟨.itr clock seen clock, none⟩ [.mp 500])]⟩, RngB ents vis seen /\ em = jnV es vis /\ vis.length <= fd.length)) ([], #[], es) aC ?_ ?_
   ·exact ⟨RngB.nil ents, rfl, Nat.zero_le _⟩
   rintro ⟨vis, seen, em⟩ ⟨hrg, hem, hvl⟩
   refine zF cA 1 (pos' := [0]) (by kernel_rfl) ?_
   refine aLJ (it := 84) (nx := 85) (more := 86) (i := 500) (j := 1401) (ents := ents) (clock := clock) (by kernel_rfl) (by kernel_rfl) (by kernel_rfl) (by kernel_rfl) rfl rfl (fun x hx => hM.lt x hx) (Nat.le_refl _) (fun hall => ?_) (fun ev hev hnew => ?_)
   ·have hful := RngB.full hM hrg hall
    have hemj : em = jnV es ms := by rw [hem]; exact hfd ▸ aFG hes.sort (hfd ▸ hms.sort) hful
    have hemr : RsOk n em := by rw [hemj]; exact jn_rs hes hms hl
    obtain ⟨q, hq1, hq2, hq3⟩ := aJP (n := n) hemj htl hemr.sort hmo
    refine aKH (i := 500) (q := none) (cells := []) (ents := ents) (clock := clock) (es := fd) rfl hM ?_
    refine zC hG [] [0, 1] (false) (⟨[zX 2 100 0, zX 3 101 0, zX 4 102 0, zX 5 401 0, zX 84 1401 0], [(0, y25 a n), (1, mBQ em), (100, .box 35 [.bx 0 0]), (101, y31 f a (S (aJ ms))), (102, .box 32 [cN]), (400, mBQ tl), (401, .box 47 [.mp 400]), (500, mBQ fd), (1401, .box ⟨.itr clock seen clock, none⟩ [.mp 500])]⟩) aC (fun hc6 => absurd hc6 (by decide)) (fun _ => ?_)
    refine zE hG [] (.exit 2) (⟨[zX 2 100 0, zX 3 101 0, zX 4 102 0, zX 5 401 0], [(0, y25 a n), (1, mBQ em), (100, .box 35 [.bx 0 0]), (101, y31 f a (S (aJ ms))), (102, .box 32 [cN]), (400, mBQ tl), (401, .box 47 [.mp 400])]⟩) aC rfl ?_
    refine oQ hG cA [(17, 1, .callG (.c (.fn 58 [] [(100, 0)])) [0, 1] [(0, y25 a n), (1, mBQ em), (100, .box 35 [.bx 0 0])])] [0, 1, 0, 1, 1, 1, 1, 1, 1, 1, 1] (⟨[zX 2 100 0, zX 3 101 0, zX 4 102 0, zX 5 401 0, (105, [], .c (.fn 58 [] [(1801, 0)]))], [(0, y25 a n), (1, mBQ em), (100, .box 35 [.bx 0 0]), (101, y31 f a (S (aJ ms))), (102, .box 32 [cN]), (400, mBQ tl), (401, .box 47 [.mp 400]), (1801, .box 35 [.bx 0 0])]⟩) _ (by kernel_rfl) (cS1 g (fS a n em)) ?_
    refine qS (g := 105) (ps := rgP (aN Tryz.f19) [0, 1, 0, 1, 1, 1, 1, 1, 1, 1, 1]) (assign := rgA (aN Tryz.f19) [0, 1, 0, 1, 1, 1, 1, 1, 1, 1, 1]) (body := rgB (aN Tryz.f19) [0, 1, 0, 1, 1, 1, 1, 1, 1, 1, 1]) hG (by kernel_rfl) 9900 9901 9910 (by kernel_rfl) rfl (by kernel_rfl) fun b D l fn tm hT hn => ?_
    refine ⟨.tup [], [1801, 9901, 100, 101, 102, 401, 0, 1, 400], [(0, .box ⟨.c 35, some (b 1801)⟩ [.bx 6 0]), (1, .box ⟨.raw (.loop { (bB (aN Tryz.f19) [0, 1, 0, 1, 1, 1, 1, 1, 1, 1, 1] fn tm D) with state := .done, pending := some .ret }), some l⟩ []), (2, .box ⟨.c 35, some (b 100)⟩ [.bx 6 0]), (3, .box ⟨.c 43, some (b 101)⟩ [cI f, cI a, cS (S (aJ ms))]), (4, .box ⟨.c 32, some (b 102)⟩ [.ar 100 0]), (5, .box ⟨.c 47, some (b 401)⟩ [.mp 8]), (6, y30 a n), (7, mBQ em), (8, mBQ tl), (100, .arr 0 43 3 ([msD a (aJ em) f] : LD))], (some .ret), ⟨[zX 4 102 0], [(0, y25 a n), (1, mBQ em), (102, .box ⟨.c 32, some (b 102)⟩ [.ar 9910 0]), (9900, .box ⟨.raw (.deferred (some [])), some D⟩ []), (9910, .arr 0 43 3 ([msD a (aJ em) f] : LD))]⟩, _, .ret, by kernel_rfl, cS1 g (tkItB (b 1801) (b 0) (b 1) (b 400) (b 100) (b 101) (b 102) (b 401) D l fn tm (hT.bx 2 100 0 rfl) (hT.bx 3 101 0 rfl) (hT.bx 4 102 0 rfl) (hT.bx 5 401 0 rfl) hn a n f em ms tl hemr q hq1 hq2 hq3), rfl, ?_⟩
    have hG0 := hG
    replace hG := fI (D := D) hG
    refine iJ [0, 1, 102] (⟨[zX 4 102 0], [(0, y25 a n), (1, mBQ em), (102, .box 32 [.ar 9910 0]), (9900, .box ⟨.raw (.deferred (some [])), some D⟩ []), (9910, .arr 0 43 3 ([msD a (aJ em) f] : LD))]⟩) (by kernel_rfl) ?_
    refine m0 hG0 cA [] [] 9900 (.c (cM 3 ([msD a (aJ em) f] : LD))) [(0, y25 a n), (1, mBQ em)] (by kernel_rfl) aC ?_ ?_
    ·rw [hemj]
    ·rw [<- hemj]
     all_goals (first | rfl | (funext i; simp only [aO, upd]; ((repeat' split) <;> first | rfl | (exfalso; omega))))
   ·obtain ⟨ek, eb, hek, hev2, hin, hrg2, hln2, hent⟩ := RngB.step hM hrg hev hnew
    refine zC hG [] [0, 1] (true) (⟨[zX 2 100 0, zX 3 101 0, zX 4 102 0, zX 5 401 0, zX 84 1401 0], [(0, y25 a n), (1, mBQ em), (100, .box 35 [.bx 0 0]), (101, y31 f a (S (aJ ms))), (102, .box 32 [cN]), (400, mBQ tl), (401, .box 47 [.mp 400]), (500, .box ⟨.raw (.map ents clock), none⟩ []), (1401, .box ⟨.itr clock (seen.push ev.born) clock, none⟩ [.mp 500])]⟩) aC (fun _ => ?_) (fun hc7 => absurd hc7 (by decide))
    refine zD hG [(15, 0, .elem [.v (.string (S ek)), .v (.bool eb)])] (vis ++ [(ek, eb)], seen.push ev.born, bV ltS ek (((lkM ek em).getD false) || eb) em) (aB (hent)) ?_ ?_
    ·(try dsimp only); rw [List.length_append, List.length_cons, List.length_nil] at *; omega
    ·exact ⟨hrg2, by rw [xA, hem], hln2⟩
end Go.Proofs.YtclaplngjmgnoaaGreatDoor
namespace Go.Proofs.YtclaplngjmgnoaaGreatDoor
open Go.RowKit Go.V
open Go.Eng (inR byteAt u8 dS)
variable {g : Gv}
def itW (id a t : Int) : It := ⟨id, a, 0, t, 4, [], none, [], [], [0]⟩
theorem l4 {n : Int} (h : decide (-1000000 <= n) && decide (n <= 1000000) = true) : nOk n := by
 simp only [bIQ, decide_eq_true_eq] at h
 exact ⟨by omega, by omega⟩
theorem aMA {id a t : Int} (h1 : nOk id) (h2 : nOk a) (h3 : nOk t) : ItOk (itW id a t) :=
 ⟨h1, h2, l4 (n := 0) (by decide), h3, l4 (n := 4) (by decide), by simp [itW], by simp [itW], (by show cL (S []) = true; decide), by simp [itW], by simp [itW], by simp [itW], by intro n hn; simp [itW] at hn; subst hn; exact l4 (by decide)⟩
def one : It := itW 5 1 1
def two : It := itW 5 2 3
def tx1 : List UInt8 := itT one
def tx2 : List UInt8 := itT two
def sA : RS := [(tx1, false)]
def sB : RS := [(tx2, false)]
def sC : RS := [(tx1, false), (tx2, false)]
def sD : RS := [(tx1, true), (tx2, true)]
theorem wS : ItOk one := aMA (l4 (by decide)) (l4 (by decide)) (l4 (by decide))
theorem vV : ItOk two := aMA (l4 (by decide)) (l4 (by decide)) (l4 (by decide))
theorem of1 : aF tx1 = one := fF wS
theorem of2 : aF tx2 = two := fF vV
theorem tx12 : tx1 < tx2 := by decide +kernel
theorem it1 : j9 tx1 := ⟨one, wS, rfl⟩
theorem it2 : j9 tx2 := ⟨two, vV, rfl⟩
theorem wJ {es : RS} (h1 : kSort es) (hl : es.length <= 4000) (h : ∀ x, x ∈ es -> x.1 = tx1 \/ x.1 = tx2) : RsOk 2 es :=
 ⟨h1, hl, fun x hx => by
  rcases h x hx with e | e
  rw [e]; exact it1
  rw [e]; exact it2, fun x hx => by
  rcases h x hx with e | e
  rw [e, of1]; decide
  rw [e, of2]; decide⟩
theorem k1 (x : List UInt8) (b : Bool) : kSort [(x, b)] := List.pairwise_singleton _ _
theorem k2 (b c : Bool) : kSort [(tx1, b), (tx2, c)] := by
 show List.Pairwise _ [tx1, tx2]
 rw [List.pairwise_cons]
 exact ⟨fun x hx => by rw [List.mem_singleton.1 hx]; exact tx12, List.pairwise_singleton _ _⟩
theorem rs0 (n : Int) : RsOk n [] := ⟨List.Pairwise.nil, by simp, by simp, by simp⟩
theorem rsA : RsOk 2 sA := wJ (k1 _ _) (by simp [sA]) (by intro x hx; simp [sA] at hx; subst hx; exact .inl rfl)
theorem rsB : RsOk 2 sB := wJ (k1 _ _) (by simp [sB]) (by intro x hx; simp [sB] at hx; subst hx; exact .inr rfl)
theorem rsC : RsOk 2 sC := wJ (k2 _ _) (by simp [sC]) (by intro x hx; simp [sC] at hx; rcases hx with rfl | rfl <;> simp)
theorem rsD : RsOk 2 sD := wJ (k2 _ _) (by simp [sD]) (by intro x hx; simp [sD] at hx; rcases hx with rfl | rfl <;> simp)
theorem gA : cV 1 [] one = 0 /\ dY 1 [] one = sA := by
 have := jA (a := 1) (es := []) (i := one) rfl rfl (by simp [lY])
 exact ⟨this.1, this.2.trans rfl⟩
theorem gB : cV 2 [] two = 0 /\ dY 2 [] two = sB := by
 have := jA (a := 2) (es := []) (i := two) rfl rfl (by simp [lY])
 exact ⟨this.1, this.2.trans rfl⟩
theorem gD : cV 1 sD one = 33 /\ dY 1 sD one = sD := iF (a := 1) (es := sD) (i := one) rfl (by simp [sD, lkM, tx1])
theorem jBA : jnV sB sA = sC /\ iX sB sA = true := by decide +kernel
theorem jAB : jnV sA sB = sC /\ iX sA sB = true := by decide +kernel
theorem jCD : jnV sC sD = sD /\ iX sC sD = false := by decide +kernel
theorem liC : bA sC = [one, two] := by simp [bA, sC, of1, of2, List.filter]
theorem liD : bA sD = [] := by simp [bA, sD, List.filter]
theorem inC : inF (bA sC) = [two] := by rw [liC]; decide +kernel
theorem inD : inF (bA sD) = [] := by rw [liD]; decide +kernel
theorem wdC : wdR 5 sC = sD /\ wdE 5 sC = 0 := by
 have h1 : (aF tx1).id = 5 := by rw [of1]; rfl
 have h2 : (aF tx2).id = 5 := by rw [of2]; rfl
 have e1 : wdS 5 sC 1 = ([(tx1, true), (tx2, false)], true) := by
  have : (lkM tx1 sC).getD false = false := by decide +kernel
  show (bif decide ((aF tx1).id = 5) && !((lkM tx1 sC).getD false) then _ else _) = _
  rw [h1, this]
  show (bV ltS tx1 true sC, true) = _
  exact congrArg (·, true) (by decide +kernel)
 have e2 : wdS 5 sC 2 = (sD, true) := by
  have : (lkM tx2 [(tx1, true), (tx2, false)]).getD false = false := by decide +kernel
  show (bif decide ((aF tx2).id = 5) && !((lkM tx2 (wdS 5 sC 1).1).getD false) then _ else _) = _
  rw [h2, e1, this]
  show (bV ltS tx2 true [(tx1, true), (tx2, false)], true) = _
  exact congrArg (·, true) (by decide +kernel)
 exact ⟨congrArg (·.1) e2, by show (bif (wdS 5 sC 2).2 then _ else _) = _; rw [e2]; rfl⟩
theorem encD_sz : (0 : Int) <= 0 /\ (0 : Int) <= 1 /\ (1 : Int) <= ((S (aJ sD)).size : Int) := by
 rw [aH]; simp [aJ, sD, aP]; omega
theorem lA : ((S (aJ sD)).toList == (S (aJ sD)).toList) = true := by simp
theorem k7 : (((S (aJ sD)).extract 0 1).toList == (S [45]).toList) = true := by
 have e : (S (aJ sD)).extract 0 1 = S [45] := by
  have := fY (aJ sD) 0 1
  rw [this]; simp [aJ, sD, aP]
 rw [e]; simp
theorem len2 : decide (((S (itT two)).size : Int) > 0) = true := by
 rw [aH, gU]; simp; omega
theorem aDR (a n : Int) (es es' : RS) (id b t e : Int) (hes : RsOk n es) (hi : ItOk (itW id b t)) (h : cV a es (itW id b t) = e /\ dY a es (itW id b t) = es') :
  SpG g 22 [.c (.bx 0 0), .agg [cI id, cI b, cI 0, cI t, cI 4, .d .nil, cI 0, cS (S []), cI 0, cI 0, cI 0, .d .nil, .d .nil, cS (S []), cS (S []), cM 1 [[.i 0]]]] [(0, y25 a n), (1, mBQ es)] (.c (cI e)) [(0, y25 a n), (1, mBQ (es'))] := by
 obtain ⟨h1, h2⟩ := h
 subst h1 h2
 exact m9 [[none], [none, none, none, none, none, some 7, none, none, none, none, none, some 1, some 1, none, none, none]] (aFS a n es (itW id b t) hes hi)
theorem vY (a n : Int) (es : RS) (l : LD) (hes : RsOk n es) (h0 : 0 <= n) (h8 : n <= 8) (h : aIE a (aJ es) (tkL a n.toNat) = l) :
  SpG g 25 [.c (.bx 0 0)] [(0, y25 a n), (1, mBQ es)] (.c (cM 3 l)) [(0, y25 a n), (1, mBQ es)] := by
 subst h; exact tick_ok a n es hes h0 h8
theorem aJT (a n f : Int) (es ms fs : RS) (hes : RsOk n es) (hms : RsOk n ms) (hl : es.length + ms.length <= 4000) (hf1 : 1 <= f) (hf2 : f <= n) (hfa : ¬ f = a) (h : jnV es ms = fs /\ iX es ms = true) :
  SpG g 19 [.c (.bx 0 0), .agg [cI f, cI a, cS (S (aJ ms))]] [(0, y25 a n), (1, mBQ es)] (.c (cM 3 [msD a (aJ fs) f])) [(0, y25 a n), (1, mBQ fs)] := by
 obtain ⟨h1, h2⟩ := h
 subst h1; exact aGQ a n f es ms hes hms hl hf1 hf2 hfa h2
theorem take_l (a n f : Int) (es ms fs : RS) (hes : RsOk n es) (hms : RsOk n ms) (hl : es.length + ms.length <= 4000) (hf1 : 1 <= f) (hf2 : f <= n) (hfa : ¬ f = a) (h : jnV es ms = fs /\ iX es ms = false) :
  SpG g 19 [.c (.bx 0 0), .agg [cI f, cI a, cS (S (aJ ms))]] [(0, y25 a n), (1, mBQ es)] (.c (.d .nil)) [(0, y25 a n), (1, mBQ fs)] := by
 obtain ⟨h1, h2⟩ := h
 subst h1; exact aGR a n f es ms hes hms hl hf1 hf2 hfa h2
theorem xK (a n : Int) (es : RS) (l : List It) (hes : RsOk n es) (h : inF (bA es) = l) :
  SpG g 16 [.c (.bx 0 0)] [(0, y25 a n), (1, mBQ es)] (.c (cM 16 (aK l))) [(0, y25 a n), (1, mBQ es)] := by
 subst h; exact rI a n es hes
theorem aBV (a n id e : Int) (es fs : RS) (hes : RsOk n es) (h : wdR id es = fs /\ wdE id es = e) :
  SpG g 23 [.c (.bx 0 0), .c (cI id)] [(0, y25 a n), (1, mBQ es)] (.c (cI e)) [(0, y25 a n), (1, mBQ fs)] := by
 obtain ⟨h1, h2⟩ := h
 subst h1 h2; exact oK a n id es hes
abbrev y32 : Ob := mBQ ([])
theorem aLK (a n : Int) (h : aK7 a n = true) :
  SpG g 17 [.c (cI a), .c (cI n)] [] (.c (.bx 100 0)) [(100, .box 73 [cI a, cI n, .mp 102]), (102, y32)] := by
 simp only [aK7, bIQ, decide_eq_true_eq] at h
 refine aQ 25 Tryz.func17 (by kernel_rfl) fun fr hG => ?_
 refine zC hG [] [1, 0, 1] ((((decide ((n : Int) < 1)) || (decide ((n : Int) > 8))) || (decide ((a : Int) < 1))) || (decide ((a : Int) > n))) (⟨[zI 0 a, zI 1 n, (4, [], .c (.d (.v (.pointer none))))], []⟩) aC (fun hc1 => ?_) (fun hc1 => ?_)
 (try simp only [blS] at hc1)
 exfalso; omega
 (try simp only [blS] at hc1)
 exact zr hG [(3, 2, .mask [])] [404, 77777, 402] aC
theorem wY (a n : Int) (h : aK7 a n = true) :
  SpG g 17 [.c (cI a), .c (cI n)] [] (.c (.bx 100 0)) [(100, .box 73 [cI a, cI n, .mp 102]), (102, y32)] := by
 refine bO (aLK a n h) ?_
 first | rfl | (funext i; simp only [aO, upd]; ((repeat' split) <;> first | rfl | (exfalso; omega)))
abbrev y33 : Ob := .box 73 [cI 1, cI 2, .mp 202]
abbrev y34 : Ob := .box 73 [cI 2, cI 2, .mp 203]
abbrev y35 : Ob := .box 73 [cI 1, cI 2, .mp 1]
abbrev y36 : Ob := .box 73 [cI 2, cI 2, .mp 1]
abbrev y37 : Ob := .box 63 [cI 5, cI 1, cI 0, cI 1, cI 4, cN, cI 0, cS (S []), cI 0, cI 0, cI 0, cN, cN, cS (S []), cS (S []), .ar 500 0]
abbrev y38 : Ob := .box 63 [cI 5, cI 2, cI 0, cI 3, cI 4, cN, cI 0, cS (S []), cI 0, cI 0, cI 0, cN, cN, cS (S []), cS (S []), .ar 500 0]
abbrev y39 : Ob := mBQ sC
abbrev y40 : Ob := mBQ sD
theorem aG9  :
  SpG g 10 [] [] (.c (cB true)) [] := by
 refine aQ 141 Tryz.func10 (by kernel_rfl) fun fr hG => ?_
 refine zC hG [(1, 0, .callG (.c (.bx 100 0)) [] [(100, .box 73 [cI 1, cI 2, .mp 102]), (102, y32)]), (1, 1, .callG (.c (.bx 100 0)) [] [(100, .box 73 [cI 2, cI 2, .mp 102]), (102, y32)])] [1, 0, 1, 1] (false) (⟨[zB 0 false, zX 1 200 0, zX 2 201 0], [(200, y33), (201, y34), (202, y32), (203, y32)]⟩) (cS2 g (wY 1 2 (by decide)) (cS1 g (wY 2 2 (by decide)))) (fun hc1 => absurd hc1 (by decide)) (fun _ => ?_)
 refine zC hG [(7, 2, .callG (.c (cI 0)) [200, 202] [(0, y35), (1, mBQ sA)]), (7, 7, .callG (.c (cI 0)) [201, 203] [(0, y36), (1, mBQ sB)])] [1, 0, 1, 1, 1, 1, 1, 1] (false) (⟨[zB 0 false, zX 1 200 0, zX 2 201 0, zX 3 502 0, zX 4 601 0], [(200, y33), (201, y34), (202, mBQ sA), (203, mBQ sB), (500, .arr 0 3 1 ([[.i 0]] : LD)), (502, y37), (601, y38)]⟩) (cS2 g (aDR 1 2 [] sA 5 1 1 0 (rs0 2) wS gA) (aA (by simp [lA, k7]; done : false = false /\ True) (aB (fun (hg1 : false = false) => (aDR 2 2 [] sB 5 2 3 0 (rs0 2) vV gB : SpG g _ _ _ _ _))))) (fun hc2 => absurd hc2 (by decide)) (fun _ => ?_)
 refine zC hG [(9, 1, .callG (.c (cM 3 ([[.i 1, .i 2, .s (S (aJ sA))]] : LD))) [200, 202] ((99999, .box 0 []) :: [(0, y35), (1, mBQ sA)])), (9, 3, .callG (.c (cM 3 ([[.i 2, .i 1, .s (S (aJ sB))]] : LD))) [201, 203] ((99999, .box 0 []) :: [(0, y36), (1, mBQ sB)])), (10, 11, .elem ([.i 1, .i 2, .s (S (aJ sA))])), (10, 13, .callG (.c (cM 3 ([[.i 2, .i 1, .s (S (aJ sC))]] : LD))) [201, 203] [(0, y36), (1, y39)]), (10, 20, .elem ([.i 2, .i 1, .s (S (aJ sB))])), (10, 22, .callG (.c (cM 3 ([[.i 1, .i 2, .s (S (aJ sC))]] : LD))) [200, 202] [(0, y35), (1, y39)])] [1, 0, 1, 1, 1, 1, 1, 1, 1, 1] (false) (⟨[zB 0 false, zX 1 200 0, zX 2 201 0, zX 3 502 0, zX 4 601 0], [(200, y33), (201, y34), (202, y39), (203, y39), (500, .arr 0 3 1 ([[.i 0]] : LD)), (502, y37), (601, y38)]⟩) (aA (And.intro (And.intro (rfl : (some (y33) : Option Ob) = some (y33)) (And.intro (rfl : (some (mBQ sA) : Option Ob) = some (mBQ sA)) (trivial))) (rfl : true = true)) (cS2 g (vY 1 2 sA _ rsA (by decide) (by decide) rfl) (aA (And.intro (And.intro (rfl : (some (y34) : Option Ob) = some (y34)) (And.intro (rfl : (some (mBQ sB) : Option Ob) = some (mBQ sB)) (trivial))) (rfl : true = true)) (cS2 g (vY 2 2 sB _ rsB (by decide) (by decide) rfl) (aA (by intros; exact ⟨by decide, rfl⟩ : false = false -> (0 : Int) <= 0 /\ ([[.i 1, .i 2, .s (S (aJ sA))]] : LD)[0]? = some ([.i 1, .i 2, .s (S (aJ sA))])) (aA (by simp [lA, k7]; done : false = false /\ True) (aA (fun (hg1 : false = false) => (aJT 2 2 1 sB sA sC rsB rsA (by decide) (by decide) (by decide) (by decide) jBA : SpG g _ _ _ _ _)) (aA (by intros; exact ⟨by decide, rfl⟩ : false = false -> (0 : Int) <= 0 /\ ([[.i 2, .i 1, .s (S (aJ sB))]] : LD)[0]? = some ([.i 2, .i 1, .s (S (aJ sB))])) (aA (by simp [lA, k7]; done : false = false /\ True) (aB (fun (hg1 : false = false) => (aJT 1 2 2 sA sB sC rsA rsB (by decide) (by decide) (by decide) (by decide) jAB : SpG g _ _ _ _ _)))))))))))) (fun hc3 => absurd hc3 (by decide)) (fun _ => ?_)
 refine zC hG [(12, 1, .callG (.c (cM 16 (aK ([two])))) [200, 202] ((99999, .box 0 []) :: [(0, y35), (1, y39)])), (12, 3, .callG (.c (cM 16 (aK ([two])))) [201, 203] ((99999, .box 0 []) :: [(0, y36), (1, y39)])), (13, 10, .elem (ItD two)), (13, 17, .elem (ItD two)), (13, 24, .callG (.c (cI 0)) [200, 202] [(0, y35), (1, y40)])] [1, 0, 1, 1, 1, 1, 1, 1, 1, 1, 1, 1] (false) (⟨[zB 0 false, zX 1 200 0, zX 2 201 0, zX 3 502 0, zX 4 601 0], [(200, y33), (201, y34), (202, y40), (203, y39), (500, .arr 0 3 1 ([[.i 0]] : LD)), (502, y37), (601, y38)]⟩) (aA (And.intro (And.intro (rfl : (some (y33) : Option Ob) = some (y33)) (And.intro (rfl : (some (y39) : Option Ob) = some (y39)) (trivial))) (rfl : true = true)) (cS2 g (xK 1 2 sC [two] rsC inC) (aA (And.intro (And.intro (rfl : (some (y34) : Option Ob) = some (y34)) (And.intro (rfl : (some (y39) : Option Ob) = some (y39)) (trivial))) (rfl : true = true)) (cS2 g (xK 2 2 sC [two] rsC inC) (aA (by intros; exact ⟨by decide, rfl⟩ : false = false -> (0 : Int) <= 0 /\ (aK ([two]))[0]? = some (ItD two)) (aA (by intros; exact ⟨by decide, rfl⟩ : false = false -> (0 : Int) <= 0 /\ (aK ([two]))[0]? = some (ItD two)) (aA (by simp [lA, k7]; done : false = false /\ True) (aB (fun (hg1 : false = false) => (aBV 1 2 5 0 sC sD rsC wdC : SpG g _ _ _ _ _)))))))))) (fun hc4 => absurd hc4 (by decide)) (fun _ => ?_)
 refine iO hG cA [(15, 1, .callG (.c (cM 3 ([[.i 1, .i 2, .s (S (aJ sD))]] : LD))) [200, 202] ((99999, .box 0 []) :: [(0, y35), (1, y40)])), (16, 1, kS (S (itT two))), (17, 6, .elem ([.i 1, .i 2, .s (S (aJ sD))])), (17, 8, .callG (.c (cN)) [201, 203] [(0, y36), (1, y40)]), (17, 14, .callG (.c (cM 16 (aK ([])))) [201, 203] ((99999, .box 0 []) :: [(0, y36), (1, y40)])), (17, 20, .callG (.c (cS (S (aJ sD)))) [200, 202] ((99999, .box 0 []) :: [(0, y35), (1, y40)])), (17, 22, .callG (.c (cS (S (aJ sD)))) [201, 203] ((99999, .box 0 []) :: [(0, y36), (1, y40)])), (17, 27, .callG (.c (cS (S (aJ sD)))) [201, 203] ((99999, .box 0 []) :: [(0, y36), (1, y40)])), (17, 34, .callG (.c (cI 33)) [200, 202] [(0, y35), (1, y40)])] [] (.c (cB (((((S (aJ sD)).toList == (S (aJ sD)).toList) && (((S (aJ sD)).extract 0 1).toList == (S [45]).toList)) && true) && (decide ((((S (itT two)).size : Int) : Int) > 0))))) [] (by kernel_rfl) (aA (And.intro (And.intro (rfl : (some (y33) : Option Ob) = some (y33)) (And.intro (rfl : (some (y40) : Option Ob) = some (y40)) (trivial))) (rfl : true = true)) (cS2 g (vY 1 2 sD _ rsD (by decide) (by decide) rfl) (cS2 g (m9 (ins := [.agg [cI 5, cI 2, cI 0, cI 3, cI 4, cN, cI 0, cS (S []), cI 0, cI 0, cI 0, cN, cN, cS (S []), cS (S []), cM 1 ([[.i 0]] : LD)]]) [[none, none, none, none, none, some 7, none, none, none, none, none, some 1, some 1, none, none, none]] (nR (itW 5 2 3) vV)) (aA (by intros; exact ⟨by decide, rfl⟩ : true = true -> (0 : Int) <= 0 /\ ([[.i 1, .i 2, .s (S (aJ sD))]] : LD)[0]? = some ([.i 1, .i 2, .s (S (aJ sD))])) (aA (by simp [lA, k7]; done : true = true /\ True) (aA (fun (hg1 : true = true) => (take_l 2 2 1 sC sD sD rsC rsD (by decide) (by decide) (by decide) (by decide) jCD : SpG g _ _ _ _ _)) (aA (fun (hg1 : true = true) => (And.intro (And.intro (rfl : (some (y34) : Option Ob) = some (y34)) (And.intro (rfl : (some (y40) : Option Ob) = some (y40)) (trivial))) (rfl : true = true))) (aA (fun (hg1 : true = true) => (xK 2 2 sD [] rsD inD : SpG g _ _ _ _ _)) (aA (fun (hg1 : true = true) => (And.intro (And.intro (rfl : (some (y33) : Option Ob) = some (y33)) (And.intro (rfl : (some (y40) : Option Ob) = some (y40)) (trivial))) (rfl : true = true))) (aA (fun (hg1 : true = true) => (gW 1 2 sD rsD : SpG g _ _ _ _ _)) (aA (fun (hg1 : true = true) => (And.intro (And.intro (rfl : (some (y34) : Option Ob) = some (y34)) (And.intro (rfl : (some (y40) : Option Ob) = some (y40)) (trivial))) (rfl : true = true))) (aA (fun (hg1 : true = true) => (gW 2 2 sD rsD : SpG g _ _ _ _ _)) (aA (fun (hg1 : ((S (aJ sD)).toList == (S (aJ sD)).toList) = true) => (And.intro (And.intro (rfl : (some (y34) : Option Ob) = some (y34)) (And.intro (rfl : (some (y40) : Option Ob) = some (y40)) (trivial))) (rfl : true = true))) (aA (fun (hg1 : ((S (aJ sD)).toList == (S (aJ sD)).toList) = true) => (gW 2 2 sD rsD : SpG g _ _ _ _ _)) (aA (show ((S (aJ sD)).toList == (S (aJ sD)).toList) = true -> (0 : Int) <= 0 /\ (0 : Int) <= 1 /\ 1 <= ((S (aJ sD)).size : Int) from (fun _ => encD_sz)) (aA (by simp [lA, k7]; done : (((S (aJ sD)).toList == (S (aJ sD)).toList) && (((S (aJ sD)).extract 0 1).toList == (S [45]).toList)) = true /\ True) (aB (fun (hg1 : (((S (aJ sD)).toList == (S (aJ sD)).toList) && (((S (aJ sD)).extract 0 1).toList == (S [45]).toList)) = true) => (aDR 1 2 sD sD 5 1 1 33 rsD wS gD : SpG g _ _ _ _ _))))))))))))))))))) ?_ ?_
 simp only [lA, k7, len2, Bool.and_self, Bool.and_true, Bool.true_and]
 first | rfl | (funext i; simp only [aO, upd]; ((repeat' split) <;> first | rfl | (exfalso; omega)))
end Go.Proofs.YtclaplngjmgnoaaGreatDoor
namespace Go.Proofs.YtclaplngjmgnoaaGreatDoor
open Go.RowKit Go.V
theorem key_mem {es : RS} {k : Nat} (h : k < es.length) : (es.map (·.1)).getD k [] ∈ es.map (·.1) := a8 (by simpa using h)
theorem aBW {n : Int} {es : RS} (hes : RsOk n es) (id : Int) : ∀ k, k <= es.length ->
  (∀ t, lkM t (wdS id es k).1 = if t ∈ (es.map (·.1)).take k /\ (aF t).id = id then some true else lkM t es) /\
  ((wdS id es k).2 = true ↔ ∃ t, t ∈ (es.map (·.1)).take k /\ (aF t).id = id /\ lkM t es = some false)
 | 0, _ => ⟨fun t => by simp [wdS], by simp [wdS]⟩
 | k + 1, h => by
  obtain ⟨h1, h2⟩ := aBW hes id k (by omega)
  have hm := key_mem (es := es) (k := k) (by omega)
  have hnd := hes.sort.nodup
  have htk : (es.map (·.1)).take (k + 1) = (es.map (·.1)).take k ++ [(es.map (·.1)).getD k []] := bY [] (by rw [List.length_map]; omega)
  generalize hT : (es.map (·.1)).getD k [] = T at *
  have hn : ¬ T ∈ (es.map (·.1)).take k := by
   intro hc
   have hnd2 : ((es.map (·.1)).take (k + 1)).Nodup := hnd.sublist (List.take_sublist _ _)
   rw [htk, List.nodup_append] at hnd2
   exact hnd2.2.2 T hc T (by simp) rfl
  have hlT : lkM T (wdS id es k).1 = lkM T es := by rw [h1 T, if_neg (fun hc => hn hc.1)]
  have hs : (lkM T es).isSome = true := lk_some_mem.2 hm
  obtain ⟨w, hw⟩ := Option.isSome_iff_exists.1 hs
  simp only [wdS, hT, hlT, hw, htk]
  have hmem : ∀ t, t ∈ (es.map (·.1)).take k ++ [T] ↔ t ∈ (es.map (·.1)).take k \/ t = T := by intro t; simp
  by_cases hi : (aF T).id = id
  ·cases w with
   | false =>
    simp only [hi, decide_true, Option.getD_some, Bool.not_false, Bool.and_self, cond_true]
    refine ⟨fun t => ?_, ⟨fun _ => ⟨T, (hmem T).2 (.inr rfl), hi, hw⟩, fun _ => trivial⟩⟩
    rw [jV]
    by_cases ht : t = T
    ·subst ht; rw [if_pos rfl, if_pos ⟨(hmem t).2 (.inr rfl), hi⟩]
    ·rw [if_neg ht, h1 t]
     simp only [hmem, ht, or_false]
   | true =>
    simp only [hi, decide_true, Option.getD_some, Bool.not_true, Bool.and_false, cond_false]
    refine ⟨fun t => ?_, ?_⟩
    ·rw [h1 t]
     by_cases ht : t = T
     ·subst ht; rw [if_neg (fun hc => hn hc.1), if_pos ⟨(hmem t).2 (.inr rfl), hi⟩, hw]
     ·simp only [hmem, ht, or_false]
    ·rw [h2]
     constructor
     ·rintro ⟨t, a, b, c⟩; exact ⟨t, (hmem t).2 (.inl a), b, c⟩
     ·rintro ⟨t, a, b, c⟩
      rcases (hmem t).1 a with a | rfl
      ·exact ⟨t, a, b, c⟩
      ·rw [hw] at c; simp at c
  ·simp only [hi, decide_false, Bool.false_and, cond_false]
   refine ⟨fun t => ?_, ?_⟩
   ·rw [h1 t]
    by_cases ht : t = T
    ·subst ht; rw [if_neg (fun hc => hi hc.2), if_neg (fun hc => hi hc.2)]
    ·simp only [hmem, ht, or_false]
   ·rw [h2]
    constructor
    ·rintro ⟨t, a, b, c⟩; exact ⟨t, (hmem t).2 (.inl a), b, c⟩
    ·rintro ⟨t, a, b, c⟩
     rcases (hmem t).1 a with a | rfl
     ·exact ⟨t, a, b, c⟩
     ·exact absurd b hi
theorem wdR_lk {n : Int} {es : RS} (hes : RsOk n es) (id : Int) (t : List UInt8) : lkM t (wdR id es) = if (lkM t es).isSome = true /\ (aF t).id = id then some true else lkM t es := by
 have h := (aBW hes id es.length (Nat.le_refl _)).1 t
 rw [List.take_of_length_le (by simp)] at h
 rw [wdR, h]
 simp only [lk_some_mem]
theorem wdE_lk {n : Int} {es : RS} (hes : RsOk n es) (id : Int) : (wdE id es = 0 /\ ∃ t, (aF t).id = id /\ lkM t es = some false) \/ (wdE id es = 34 /\ ∀ t, lkM t es = some false -> ¬ (aF t).id = id) := by
 have h := (aBW hes id es.length (Nat.le_refl _)).2
 rw [List.take_of_length_le (by simp)] at h
 rw [wdE]
 cases hc : (wdS id es es.length).2 with
 | true =>
  obtain ⟨t, _, b, c⟩ := h.1 hc
  exact .inl ⟨rfl, t, b, c⟩
 | false =>
  refine .inr ⟨rfl, fun t ht hi => ?_⟩
  have := h.2 ⟨t, lk_some_mem.1 (by rw [ht]; rfl), hi, ht⟩
  rw [hc] at this; cases this
theorem getD_at {l : List It} {j : Nat} (h : j < l.length) : l.getD j It.z ∈ l := a8 h
theorem aL3 {a b : It} (h : dK a b = true) : b.time <= a.time := by
 unfold dK at h
 split at h
 omega
 simp at h; omega
theorem aIJ {a b : It} (h : ¬ dK a b = true) : a.time <= b.time := by
 unfold dK at h
 split at h
 omega
 simp at h; omega
theorem xE (l : List It) : ∀ (k : Nat), k <= l.length -> ∀ n, ((lkM n (inS l k).1).isSome = true ↔ ∃ j, j < k /\ (l.getD j It.z).id = n) /\ ∀ o, lkM n (inS l k).1 = some o -> ∀ j, j < k -> (l.getD j It.z).id = n -> (l.getD j It.z).time <= (l.getD o.toNat It.z).time
 | 0, _, n => ⟨by simp [inS, lkM], fun o h => by simp [inS, lkM] at h⟩
 | k + 1, hk, n => by
  obtain ⟨h1, h2⟩ := xE l k (by omega) n
  have hl : ∀ n, lkM n (inS l (k + 1)).1 = if (lkM (l.getD k It.z).id (inS l k).1).isSome = true /\ dK (l.getD ((lkM (l.getD k It.z).id (inS l k).1).getD 0).toNat It.z) (l.getD k It.z) = true then lkM n (inS l k).1 else if n = (l.getD k It.z).id then some (k : Int) else lkM n (inS l k).1 := by
   intro n
   simp only [inS]
   split
   rfl
   exact jV
  generalize hi : l.getD k It.z = i at *
  rw [hl n]
  have lt : ∀ j, j < k + 1 -> j < k \/ j = k := fun j h => by omega
  split
  rename_i hc
  refine ⟨?_, fun o ho j hj hn => ?_⟩
  rw [h1]
  constructor
  rintro ⟨j, a, b⟩; exact ⟨j, by omega, b⟩
  rintro ⟨j, a, b⟩
  rcases lt j a with a | rfl
  exact ⟨j, a, b⟩
  rw [hi] at b; subst b
  exact h1.1 hc.1
  rcases lt j hj with a | rfl
  exact h2 o ho j a hn
  rw [hi] at hn ⊢; subst hn
  have hle := aL3 hc.2
  rw [ho] at hle
  simpa using hle
  rename_i hc
  by_cases hn : n = i.id
  rw [if_pos hn]
  refine ⟨⟨fun _ => ⟨k, by omega, by rw [hi]; exact hn.symm⟩, fun _ => rfl⟩, fun o ho j hj hjn => ?_⟩
  simp only [oIQ] at ho
  subst ho
  rw [Int.toNat_natCast, hi]
  rcases lt j hj with a | rfl
  subst hn
  have hs : (lkM i.id (inS l k).1).isSome = true := h1.2 ⟨j, a, hjn⟩
  obtain ⟨o, ho⟩ := Option.isSome_iff_exists.1 hs
  have e1 := h2 o ho j a hjn
  have e2 : ¬ dK (l.getD o.toNat It.z) i = true := fun hx => hc ⟨hs, by rw [ho]; exact hx⟩
  have := aIJ e2
  omega
  rw [hi]; omega
  rw [if_neg hn]
  refine ⟨?_, fun o ho j hj hjn => ?_⟩
  rw [h1]
  constructor
  rintro ⟨j, a, b⟩; exact ⟨j, by omega, b⟩
  rintro ⟨j, a, b⟩
  rcases lt j a with a | rfl
  exact ⟨j, a, b⟩
  rw [hi] at b; exact absurd b.symm hn
  rcases lt j hj with a | rfl
  exact h2 o ho j a hjn
  rw [hi] at hjn; exact absurd hjn.symm hn
theorem srt_id {l : List It} {n : Int} : n ∈ a7 l ↔ ∃ i, i ∈ l /\ i.id = n := by
 rw [srt_mem, (xE l l.length (Nat.le_refl _) n).1]
 constructor
 rintro ⟨j, a, b⟩; exact ⟨_, getD_at a, b⟩
 rintro ⟨i, a, b⟩
 obtain ⟨j, hj, rfl⟩ := List.getElem_of_mem a
 exact ⟨j, hj, by rw [List.getD_eq_getElem?_getD, List.getElem?_eq_getElem hj]; exact b⟩
theorem aMG {l : List It} {n : Int} (h : n ∈ a7 l) : inP l n ∈ l /\ (inP l n).id = n /\ ∀ i, i ∈ l -> i.id = n -> i.time <= (inP l n).time := by
 obtain ⟨o, ho⟩ := Option.isSome_iff_exists.1 (srt_mem.1 h)
 have h1 := (iE l l.length).1 n o ho
 have h2 := (xE l l.length (Nat.le_refl _) n).2 o ho
 have e : inP l n = l.getD o.toNat It.z := by rw [inP, ho]; rfl
 rw [e]
 refine ⟨getD_at (by omega), h1.2.2, fun i hi hn => ?_⟩
 obtain ⟨j, hj, rfl⟩ := List.getElem_of_mem hi
 have := h2 j hj (by rw [List.getD_eq_getElem?_getD, List.getElem?_eq_getElem hj]; exact hn)
 rwa [List.getD_eq_getElem?_getD, List.getElem?_eq_getElem hj] at this
theorem qD (l : List It) : (a7 l).Pairwise (· <= ·) := by
 have := List.pairwise_mergeSort (le := fun x y : Int => decide (x <= y)) (fun a b c => by simp; omega) (fun a b => by simp; omega) (inS l l.length).2
 exact this.imp fun h => by simpa using h
theorem tC (l : List It) : (a7 l).Nodup := ((List.mergeSort_perm _ _).nodup_iff).2 (iE l l.length).2.2.2
theorem aJ4 {a b : List It} (h : ∀ i, i ∈ a ↔ i ∈ b) : a7 a = a7 b := by
 have hp : (a7 a).Perm (a7 b) := iA (tC a) (tC b) fun n => by simp only [srt_id, h]
 exact List.Perm.eq_of_pairwise (fun x y _ _ h3 h4 => by omega) (qD a) (qD b) hp
theorem aMI {a b : List It} (h : ∀ i, i ∈ a ↔ i ∈ b) : (inF a).length = (inF b).length /\ ∀ k, ((inF a).getD k It.z).id = ((inF b).getD k It.z).id /\ ((inF a).getD k It.z).time = ((inF b).getD k It.z).time := by
 have hs := aJ4 h
 refine ⟨by rw [inF, inF, List.length_map, List.length_map, hs], fun k => ?_⟩
 by_cases hk : k < (a7 b).length
 obtain ⟨n, hn⟩ : ∃ n, (a7 b)[k]? = some n := ⟨_, List.getElem?_eq_getElem hk⟩
 have hm : n ∈ a7 b := List.mem_of_getElem? hn
 have e1 : (inF a).getD k It.z = inP a n := by rw [inF, hs]; simp [hn]
 have e2 : (inF b).getD k It.z = inP b n := by rw [inF]; simp [hn]
 rw [e1, e2]
 obtain ⟨b1, b2, b3⟩ := aMG hm
 obtain ⟨a1, a2, a3⟩ := aMG (l := a) (n := n) (by rw [hs]; exact hm)
 refine ⟨by rw [a2, b2], ?_⟩
 have l1 := a3 _ ((h _).2 b1) b2
 have l2 := b3 _ ((h _).1 a1) a2
 omega
 have e1 : (inF a).getD k It.z = It.z := by rw [inF, hs]; simp [hk]
 have e2 : (inF b).getD k It.z = It.z := by rw [inF]; simp [hk]
 rw [e1, e2]; exact ⟨rfl, rfl⟩
theorem aL0 {es : RS} (h : kSort es) {t : List UInt8} {w : Bool} : lkM t es = some w ↔ (t, w) ∈ es := by
 constructor
 intro hl
 have hm := lk_some_mem.1 (show (lkM t es).isSome = true by rw [hl]; rfl)
 obtain ⟨x, hx, rfl⟩ := List.mem_map.1 hm
 have := d5 h.nodup hx
 rw [hl] at this
 simp only [oIQ] at this
 rw [this]; exact hx
 intro hm; exact d5 h.nodup hm
structure AlOk (k : Nat) (li : List It) (es : RS) : Prop where
 rs : RsOk 1 es
 len : es.length <= k
 ll : li.length <= k
 ok : ∀ i, i ∈ li -> ItOk i
 live : ∀ t, lkM t es = some false ↔ ∃ i, i ∈ li /\ itT i = t
theorem al_0 : AlOk 0 [] [] := ⟨rs0 1, by simp, by simp, by simp, by simp [lkM]⟩
theorem AlOk.up {k : Nat} {li : List It} {es : RS} (h : AlOk k li es) : AlOk (k + 1) li es := ⟨h.rs, by have := h.len; omega, by have := h.ll; omega, h.ok, h.live⟩
theorem AlOk.own {k : Nat} {li : List It} {es : RS} (h : AlOk k li es) (hk : k < 30) : ¬ (lY 1 es : Int) >= 30 := by
 have := aLB 1 es; have := h.len; omega
theorem pX {k : Nat} {li : List It} {es : RS} {i : It} (h : AlOk k li es) (hk : k < 30) (hi : ItOk i) (ha : i.author = 1) :
  (cV 1 es i = 0 /\ AlOk (k + 1) (li ++ [i]) (dY 1 es i)) \/ (cV 1 es i = 33 /\ AlOk (k + 1) li (dY 1 es i)) := by
 cases hl : (lkM (itT i) es).isSome with
 | true =>
  obtain ⟨e1, e2⟩ := iF ha hl
  exact .inr ⟨e1, by rw [e2]; exact h.up⟩
 | false =>
  obtain ⟨e1, e2⟩ := jA ha hl (h.own hk)
  refine .inl ⟨e1, ?_⟩
  rw [e2]
  obtain ⟨u1, u2, u3, u4⟩ := qA (k := itT i) (v := false) h.rs.sort
  have hk2 : ∀ x, x ∈ bV ltS (itT i) false es -> x.1 = itT i \/ ∃ y, y ∈ es /\ y.1 = x.1 := by
   intro x hx
   rcases (u2 x.1).1 (List.mem_map_of_mem hx) with e | hm
   exact .inl e
   obtain ⟨y, hy, e⟩ := List.mem_map.1 hm
   exact .inr ⟨y, hy, e⟩
  have hlen := h.len
  refine ⟨⟨u1, by omega, fun x hx => ?_, fun x hx => ?_⟩, by omega, by have := h.ll; simp; omega, fun j hj => ?_, fun t => ?_⟩
  rcases hk2 x hx with e | ⟨y, hy, e⟩
  rw [e]; exact ⟨i, hi, rfl⟩
  rw [<- e]; exact h.rs.it y hy
  rcases hk2 x hx with e | ⟨y, hy, e⟩
  rw [e, fF hi]; omega
  rw [<- e]; exact h.rs.au y hy
  rcases List.mem_append.1 hj with hj | hj
  exact h.ok j hj
  simp at hj; subst hj; exact hi
  rw [jV]
  by_cases ht : t = itT i
  rw [if_pos ht]; exact ⟨fun _ => ⟨i, by simp, ht.symm⟩, fun _ => rfl⟩
  rw [if_neg ht, h.live t]
  constructor
  rintro ⟨j, a, b⟩; exact ⟨j, List.mem_append_left _ a, b⟩
  rintro ⟨j, a, b⟩
  rcases List.mem_append.1 a with a | a
  exact ⟨j, a, b⟩
  simp at a; subst a; exact absurd b.symm ht
def kA (id : Int) (l : List It) : List It := l.filter fun x => !decide (x.id = id)
def oS (id : Int) (l : List It) : Bool := l.any fun x => decide (x.id = id)
theorem tM {id : Int} {l : List It} {k : Nat} (h : k < l.length) : kA id (l.take (k + 1)) = if (l.getD k It.z).id = id then kA id (l.take k) else kA id (l.take k) ++ [l.getD k It.z] := by
 rw [bY It.z h, kA, List.filter_append]
 split <;> rename_i hc <;> simp [kA, List.filter, hc, -List.getD_eq_getElem?_getD]
theorem tE {id : Int} {l : List It} {k : Nat} (h : k < l.length) : oS id (l.take (k + 1)) = if (l.getD k It.z).id = id then true else oS id (l.take k) := by
 rw [bY It.z h, oS, List.any_append]
 split <;> rename_i hc <;> simp [oS, hc, -List.getD_eq_getElem?_getD]
theorem wd_al {k : Nat} {li : List It} {es : RS} (id : Int) (h : AlOk k li es) : decide (wdE id es = 0) = oS id li /\ AlOk (k + 1) (kA id li) (wdR id es) := by
 constructor
 rcases wdE_lk h.rs id with ⟨e, t, a, b⟩ | ⟨e, a⟩
 obtain ⟨i, hi, rfl⟩ := (h.live t).1 b
 rw [fF (h.ok i hi)] at a
 rw [e]
 symm
 simp only [oS, decide_true, List.any_eq_true, decide_eq_true_eq]
 exact ⟨i, hi, a⟩
 rw [e]
 symm
 simp only [oS, show decide ((34 : Int) = 0) = false from rfl, List.any_eq_false, decide_eq_true_eq]
 intro i hi hid
 exact a _ ((h.live (itT i)).2 ⟨i, hi, rfl⟩) (by rw [fF (h.ok i hi)]; exact hid)
 refine ⟨wdR_ok h.rs id, Nat.le_succ_of_le (Nat.le_trans (aJH h.rs id _ (Nat.le_refl _)).2.2 h.len), ?_, fun i hi => h.ok i (List.mem_filter.1 hi).1, fun t => ?_⟩
 have := List.length_filter_le (fun x => !decide (x.id = id)) li
 have := h.ll
 unfold kA; omega
 rw [wdR_lk h.rs]
 constructor
 intro hc
 split at hc
 cases hc
 rename_i hn
 obtain ⟨i, hi, rfl⟩ := (h.live t).1 hc
 refine ⟨i, List.mem_filter.2 ⟨hi, ?_⟩, rfl⟩
 simp only [Bool.not_eq_true', decide_eq_false_iff_not]
 intro hid
 exact hn ⟨by rw [hc]; rfl, by rw [fF (h.ok i hi)]; exact hid⟩
 rintro ⟨i, hi, rfl⟩
 obtain ⟨hi, hid⟩ := List.mem_filter.1 hi
 simp only [Bool.not_eq_true', decide_eq_false_iff_not] at hid
 rw [if_neg (fun hc => hid (by rw [<- fF (h.ok i hi)]; exact hc.2))]
 exact (h.live _).2 ⟨i, hi, rfl⟩
theorem al_live {k : Nat} {li : List It} {es : RS} (h : AlOk k li es) : ∀ i, i ∈ li ↔ i ∈ bA es := by
 intro i
 constructor
 intro hi
 have := (aL0 h.rs.sort).1 ((h.live (itT i)).2 ⟨i, hi, rfl⟩)
 exact List.mem_map.2 ⟨(itT i, false), List.mem_filter.2 ⟨this, rfl⟩, fF (h.ok i hi)⟩
 intro hi
 obtain ⟨⟨t, w⟩, hx, rfl⟩ := List.mem_map.1 hi
 obtain ⟨hx, hw⟩ := List.mem_filter.1 hx
 have : w = false := by simpa using hw
 subst this
 obtain ⟨j, hj, rfl⟩ := (h.live t).1 ((aL0 h.rs.sort).2 hx)
 rw [fF (h.ok j hj)]; exact hj
theorem aD8 {k : Nat} {li : List It} {es : RS} (h : AlOk k li es) : (inF li).length = (inF (bA es)).length /\ ∀ q, ((inF li).getD q It.z).id = ((inF (bA es)).getD q It.z).id /\ ((inF li).getD q It.z).time = ((inF (bA es)).getD q It.z).time := aMI (al_live h)
end Go.Proofs.YtclaplngjmgnoaaGreatDoor
