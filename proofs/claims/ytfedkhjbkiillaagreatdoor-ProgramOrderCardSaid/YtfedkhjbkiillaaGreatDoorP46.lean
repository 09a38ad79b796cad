/- Part 46 of the proof: texts K14. -/
import Derived.Test.YtfedkhjbkiillaaGreatDoorP38
import Derived.Test.YtfedkhjbkiillaaGreatDoorP45
set_option linter.all false
namespace Go.Proofs.YtfedkhjbkiillaaGreatDoor
open Go.RowKit Go.V
def f4 (x : Int) : Int := IntKind.wrap .i64 (x.tmod 4)
def l6 (a : List Int) : List Int := (a.take 6).map f4
def i8e (x : Int) : List D := [.v (.int .i8 x)]
def i8D (l : List Int) : List (List D) := l.map i8e
variable {m : Int}
set_option maxRecDepth 100000 in
theorem list_0 (m : Int) : V.Spec Tryz.prog (Gl (gT m)) 43 [.c (.d (.sl 1 []))] [] (.c (.d .nil)) [] :=
 specX (fun _ => none) (fun _ => none) (T := []) (ne := []) (df := []) (F := 10000) (d := 20) (cs := []) (by kernel_rfl) (by kernel_rfl) trivial
set_option maxRecDepth 100000 in
theorem list_1 (m : Int) (x0 : Int) : V.Spec Tryz.prog (Gl (gT m)) 43 [.c (.d (.sl 1 [i8e x0]))] [] (.c (.d (.sl 1 [[.i (f4 x0)]]))) [] :=
 specX (fun _ => none) (fun _ => none) (T := []) (ne := []) (df := []) (F := 10000) (d := 20) (cs := []) (by kernel_rfl) (by kernel_rfl) trivial
set_option maxRecDepth 100000 in
theorem list_2 (m : Int) (x0 x1 : Int) : V.Spec Tryz.prog (Gl (gT m)) 43 [.c (.d (.sl 1 [i8e x0, i8e x1]))] [] (.c (.d (.sl 1 [[.i (f4 x0)], [.i (f4 x1)]]))) [] :=
 specX (fun _ => none) (fun _ => none) (T := []) (ne := []) (df := []) (F := 10000) (d := 20) (cs := []) (by kernel_rfl) (by kernel_rfl) trivial
set_option maxRecDepth 100000 in
theorem list_3 (m : Int) (x0 x1 x2 : Int) : V.Spec Tryz.prog (Gl (gT m)) 43 [.c (.d (.sl 1 [i8e x0, i8e x1, i8e x2]))] [] (.c (.d (.sl 1 [[.i (f4 x0)], [.i (f4 x1)], [.i (f4 x2)]]))) [] :=
 specX (fun _ => none) (fun _ => none) (T := []) (ne := []) (df := []) (F := 10000) (d := 20) (cs := []) (by kernel_rfl) (by kernel_rfl) trivial
set_option maxRecDepth 100000 in
theorem list_4 (m : Int) (x0 x1 x2 x3 : Int) : V.Spec Tryz.prog (Gl (gT m)) 43 [.c (.d (.sl 1 [i8e x0, i8e x1, i8e x2, i8e x3]))] [] (.c (.d (.sl 1 [[.i (f4 x0)], [.i (f4 x1)], [.i (f4 x2)], [.i (f4 x3)]]))) [] :=
 specX (fun _ => none) (fun _ => none) (T := []) (ne := []) (df := []) (F := 10000) (d := 20) (cs := []) (by kernel_rfl) (by kernel_rfl) trivial
set_option maxRecDepth 100000 in
theorem list_5 (m : Int) (x0 x1 x2 x3 x4 : Int) : V.Spec Tryz.prog (Gl (gT m)) 43 [.c (.d (.sl 1 [i8e x0, i8e x1, i8e x2, i8e x3, i8e x4]))] [] (.c (.d (.sl 1 [[.i (f4 x0)], [.i (f4 x1)], [.i (f4 x2)], [.i (f4 x3)], [.i (f4 x4)]]))) [] :=
 specX (fun _ => none) (fun _ => none) (T := []) (ne := []) (df := []) (F := 10000) (d := 20) (cs := []) (by kernel_rfl) (by kernel_rfl) trivial
set_option maxRecDepth 100000 in
theorem list_6 (m : Int) (x0 x1 x2 x3 x4 x5 : Int) : V.Spec Tryz.prog (Gl (gT m)) 43 [.c (.d (.sl 1 [i8e x0, i8e x1, i8e x2, i8e x3, i8e x4, i8e x5]))] [] (.c (.d (.sl 1 [[.i (f4 x0)], [.i (f4 x1)], [.i (f4 x2)], [.i (f4 x3)], [.i (f4 x4)], [.i (f4 x5)]]))) [] :=
 specX (fun _ => none) (fun _ => none) (T := []) (ne := []) (df := []) (F := 10000) (d := 20) (cs := []) (by kernel_rfl) (by kernel_rfl) trivial
set_option maxRecDepth 100000 in
theorem list_7 (m : Int) (x0 x1 x2 x3 x4 x5 x6 : Int) (r : List Int) : V.Spec Tryz.prog (Gl (gT m)) 43 [.c (.d (.sl 1 (i8e x0 :: i8e x1 :: i8e x2 :: i8e x3 :: i8e x4 :: i8e x5 :: i8e x6 :: i8D r)))] [] (.c (.d (.sl 1 [[.i (f4 x0)], [.i (f4 x1)], [.i (f4 x2)], [.i (f4 x3)], [.i (f4 x4)], [.i (f4 x5)]]))) [] :=
 specX (fun _ => none) (fun k => bif [106, 127, 148, 169, 190, 211, 232].any (Nat.beq k) then some (.bool true) else none) (T := []) (ne := []) (df := []) (F := 10000) (d := 20) (cs := ([6, 5, 4, 3, 2, 1, 0] : List Int).map fun i => Value.bool (decide (i < ((i8e x0 :: i8e x1 :: i8e x2 :: i8e x3 :: i8e x4 :: i8e x5 :: i8e x6 :: i8D r).length : Int))) = .bool true) (by kernel_rfl) (by kernel_rfl) (by simp only [List.map_cons, List.map_nil, V.conj, List.length_cons, Value.bool.injEq, decide_eq_true_eq]; refine ⟨?_, ?_, ?_, ?_, ?_, ?_, ?_⟩ <;> omega)
theorem list_nil (m : Int) : V.Spec Tryz.prog (Gl (gT m)) 43 [.c (.d (.sl 1 []))] [] (.c (.d (.sl 1 []))) [] := by
 intro fr w pl args hw hG mm ha
 refine Calls.mono (list_0 m fr w pl args hw hG mm ha) ?_
 rintro e w' ⟨v, pl', h1, h2, h3⟩
 refine ⟨v, pl', h1, h2, ?_⟩
 have h3 : Rd _ _ _ _ := h3
 have := Rd.exact h3
 subst this
 exact Rd.nil 1
theorem list_ok (m : Int) : ∀ a : List Int, V.Spec Tryz.prog (Gl (gT m)) 43 [.c (.d (.sl 1 (i8D a)))] [] (.c (.d (.sl 1 (intsD (l6 a))))) []
 | [] => list_nil m
 | [x0] => list_1 m x0
 | [x0, x1] => list_2 m x0 x1
 | [x0, x1, x2] => list_3 m x0 x1 x2
 | [x0, x1, x2, x3] => list_4 m x0 x1 x2 x3
 | [x0, x1, x2, x3, x4] => list_5 m x0 x1 x2 x3 x4
 | [x0, x1, x2, x3, x4, x5] => list_6 m x0 x1 x2 x3 x4 x5
 | x0 :: x1 :: x2 :: x3 :: x4 :: x5 :: x6 :: r => list_7 m x0 x1 x2 x3 x4 x5 x6 r
def un8 (es : List (List D)) : List Int := es.map fun
 | [.v (.int .i8 x)] => x
 | _ => 0
def unI (es : List (List D)) : List Int := es.map fun
 | [.v (.int .i64 x)] => x
 | _ => 0
theorem un8_D (l : List Int) : un8 (i8D l) = l := by
 induction l with
 | nil => rfl
 | cons x r ih => exact congrArg (x :: ·) ih
theorem unI_D (l : List Int) : unI (intsD l) = l := by
 induction l with
 | nil => rfl
 | cons x r ih => exact congrArg (x :: ·) ih
def eList : Ent Tryz.prog (Gl (gT m)) where
 f := 43
 ask := fun _ ins refs => match ins, refs with
  | [.c (.d (.sl 1 es))], [] => some (.c (.d (.sl 1 (intsD (l6 (un8 es))))), [], [es = i8D (un8 es)])
  | _, _ => none
 ok := by
  intro k ins refs post out cs h hc
  split at h
  ·rename_i es
   simp only [Option.some.injEq, Prod.mk.injEq] at h
   obtain ⟨rfl, rfl, rfl⟩ := h
   have hc : es = i8D (un8 es) := hc
   have := list_ok m (un8 es)
   rw [← hc] at this
   exact this
  ·cases h
def cLess (a b : List (List D)) (v : Bool) : Prop := a = intsD (unI a) ∧ b = intsD (unI b) ∧ lessI (unI a) (unI b) = v
def cInts (a b : List (List D)) (v : Bool) : Prop := a = intsD (unI a) ∧ b = intsD (unI b) ∧ decide (unI a = unI b) = v
def eLess (v : Nat → Bool) : Ent Tryz.prog (Gl (gT m)) where
 f := 35
 ask := fun k ins refs => match ins, refs with
  | [.c (.d (.sl 1 a)), .c (.d (.sl 1 b))], [] => some (.c (.d (.b (v k))), [], [cLess a b (v k)])
  | _, _ => none
 ok := by
  intro k ins refs post out cs h hc
  split at h
  ·rename_i a b
   simp only [Option.some.injEq, Prod.mk.injEq] at h
   obtain ⟨rfl, rfl, rfl⟩ := h
   have hc : cLess a b (v k) := hc
   obtain ⟨h1, h2, h3⟩ := hc
   have := lessI_ok (g := gT m) (unI a) (unI b)
   rw [← h1, ← h2, h3] at this
   exact this
  ·cases h
def eInts (v : Nat → Bool) : Ent Tryz.prog (Gl (gT m)) where
 f := 18
 ask := fun k ins refs => match ins, refs with
  | [.c (.d (.sl 1 a)), .c (.d (.sl 1 b))], [] => some (.c (.d (.b (v k))), [], [cInts a b (v k)])
  | _, _ => none
 ok := by
  intro k ins refs post out cs h hc
  split at h
  ·rename_i a b
   simp only [Option.some.injEq, Prod.mk.injEq] at h
   obtain ⟨rfl, rfl, rfl⟩ := h
   have hc : cInts a b (v k) := hc
   obtain ⟨h1, h2, h3⟩ := hc
   have := ints_ok (g := gT m) (unI a) (unI b)
   rw [← h1, ← h2, h3] at this
   exact this
  ·cases h
def eSan : Ent Tryz.prog (Gl (gT m)) := eLits 11 [⟨_, _, sanity14 m⟩]
inductive It where
 | li (i : Nat)
 | le (i j : Nat) (v : Bool)
 | eq (i j : Nat) (v : Bool)
 | lt (i j : Nat) (v : Bool)
def X3 (A B C : List (List D)) : Nat → List (List D)
 | 0 => intsD (l6 (un8 A))
 | 1 => intsD (l6 (un8 B))
 | _ => intsD (l6 (un8 C))
def Y3 (A B C : List (List D)) : Nat → List (List D)
 | 0 => A
 | 1 => B
 | _ => C
def It.p (A B C : List (List D)) : It → Prop
 | .li i => Y3 A B C i = i8D (un8 (Y3 A B C i))
 | .le i j v => cLess (X3 A B C i) (X3 A B C j) v
 | .eq i j v => cInts (X3 A B C i) (X3 A B C j) v
 | .lt i j v => Value.bool (decide (((X3 A B C i).length : Int) < ((X3 A B C j).length : Int))) = .bool v
def itAt : List (Nat × It) → Nat → Option It
 | [], _ => none
 | x :: r, k => bif Nat.beq x.1 k then some x.2 else itAt r k
def vAt (l : List (Nat × It)) (k : Nat) : Bool := match itAt l k with
 | some (.le _ _ v) => v
 | some (.eq _ _ v) => v
 | _ => false
def lAt (l : List (Nat × It)) (k : Nat) : Option Value := match itAt l k with
 | some (.lt _ _ v) => some (.bool v)
 | _ => none
def Po (a b : List Int) (o : Nat) : Prop := lessI a b = Nat.blt o 2 ∧ decide (a = b) = Nat.beq o 2 ∧ decide (a.length < b.length) = Nat.beq o 0
def oc (p q s : Nat) : Nat → Nat → Nat
 | 0, 1 => p
 | 0, 2 => q
 | 1, 2 => s
 | 1, 0 => 4 - p
 | 2, 0 => 4 - q
 | 2, 1 => 4 - s
 | _, _ => 2
def It.ok (p q s : Nat) : It → Bool
 | .li i => Nat.blt i 3
 | .le i j v => Nat.blt i 3 && Nat.blt j 3 && (Nat.blt (oc p q s i j) 2 == v)
 | .eq i j v => Nat.blt i 3 && Nat.blt j 3 && (Nat.beq (oc p q s i j) 2 == v)
 | .lt i j v => Nat.blt i 3 && Nat.blt j 3 && (Nat.beq (oc p q s i j) 0 == v)
def L3 (a b c : List Int) : Nat → List Int
 | 0 => l6 a
 | 1 => l6 b
 | _ => l6 c
def Facts (p q s : Nat) (a b c : List Int) : Prop := ∀ i j, i < 3 → j < 3 → Po (L3 a b c i) (L3 a b c j) (oc p q s i j)
theorem X3_eq (a b c : List Int) (i : Nat) : X3 (i8D a) (i8D b) (i8D c) i = intsD (L3 a b c i) := by
 unfold X3 L3
 split <;> simp only [un8_D]
theorem Y3_eq (a b c : List Int) (i : Nat) : Y3 (i8D a) (i8D b) (i8D c) i = i8D (un8 (Y3 (i8D a) (i8D b) (i8D c) i)) := by
 unfold Y3
 split <;> simp only [un8_D]
theorem It.ok_p {p q s : Nat} {a b c : List Int} (hF : Facts p q s a b c) {it : It} (h : it.ok p q s = true) : it.p (i8D a) (i8D b) (i8D c) := by
 cases it with
 | li i => exact Y3_eq a b c i
 | le i j v =>
  simp only [It.ok, Bool.and_eq_true, Nat.blt_eq, beq_iff_eq] at h
  obtain ⟨⟨h1, h2⟩, h3⟩ := h
  obtain ⟨f1, _, _⟩ := hF i j h1 h2
  simp only [It.p, cLess, X3_eq, unI_D, true_and]
  rw [f1, h3]
 | eq i j v =>
  simp only [It.ok, Bool.and_eq_true, Nat.blt_eq, beq_iff_eq] at h
  obtain ⟨⟨h1, h2⟩, h3⟩ := h
  obtain ⟨_, f1, _⟩ := hF i j h1 h2
  simp only [It.p, cInts, X3_eq, unI_D, true_and]
  rw [f1, h3]
 | lt i j v =>
  simp only [It.ok, Bool.and_eq_true, Nat.blt_eq, beq_iff_eq] at h
  obtain ⟨⟨h1, h2⟩, h3⟩ := h
  obtain ⟨_, _, f1⟩ := hF i j h1 h2
  simp only [It.p, X3_eq, Value.bool.injEq]
  rw [← h3, ← f1]
  simp [intsD]
theorem items_ok {p q s : Nat} {a b c : List Int} (hF : Facts p q s a b c) {l : List It} (h : l.all (It.ok p q s) = true) : V.conj (l.map (It.p (i8D a) (i8D b) (i8D c))) :=
 conj_of_all fun x hx => by
  obtain ⟨y, hy, rfl⟩ := List.mem_map.1 hx
  exact It.ok_p hF (List.all_eq_true.1 h y hy)
def insO (A B C : List (List D)) : List SV := [.c (.d (.sl 1 A)), .c (.d (.sl 1 B)), .c (.d (.sl 1 C))]
def okO : SV := .c (.d (.b true))
def Case14 (p q s : Nat) : Prop := ∀ (m : Int) (a b c : List Int), Facts p q s a b c → V.Spec Tryz.prog (Gl (gT m)) 8 (insO (i8D a) (i8D b) (i8D c)) [] okO []
theorem case14 {p q s : Nat} (l : List (Nat × It)) (cs : List It) (h : ∀ (m : Int) (A B C : List (List D)), topX (P := Tryz.prog) (G := Gl (gT m)) [eSan, eList, eLess (vAt l), eInts (vAt l)] [] [] (fun _ => none) (lAt l) 10000 20 8 (insO A B C) = some (okO, cs.map (It.p A B C))) (hk : cs.all (It.ok p q s) = true) : Case14 p q s := fun m a b c hF =>
 specX (fun _ => none) (lAt l) (by kernel_rfl) (h m (i8D a) (i8D b) (i8D c)) (items_ok hF hk)
end Go.Proofs.YtfedkhjbkiillaaGreatDoor
