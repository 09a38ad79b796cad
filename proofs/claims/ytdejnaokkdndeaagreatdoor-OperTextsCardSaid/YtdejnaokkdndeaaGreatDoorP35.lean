/- Part 35 of the proof: texts KT. -/
import Derived.Test.YtdejnaokkdndeaaGreatDoorP34
set_option linter.all false
namespace Go.Proofs.YtdejnaokkdndeaaGreatDoor
open Go.RowKit Go.V
variable {m : Int}
def D0e : List (EntD Tryz.prog) := [⟨265, 3, parseD⟩]
def j9 (op p : List UInt8) : List SV := [.c (cS (S op)), .c (cS (S p)), .c (.d .nil), .c (.d .nil)]
def nD (a : D) (k e : Int) : SV := .tup [(false, [.d a]), (false, [cI k]), (false, [cI e])]
def eqL : List UInt8 → List UInt8 → Bool
 | [], [] => true
 | x :: a, y :: b => bif Nat.beq x.toNat y.toNat then eqL a b else false
 | _, _ => false
theorem aAU : ∀ {a b : List UInt8}, eqL a b = true → a = b
 | [], [], _ => rfl
 | [], _ :: _, h => by cases h
 | _ :: _, [], h => by cases h
 | x :: a, y :: b, h => by
  unfold eqL at h
  cases hb : Nat.beq x.toNat y.toNat with
  | false => rw [hb] at h; cases h
  | true =>
   rw [hb] at h
   rw [UInt8.toNat_inj.1 (Nat.eq_of_beq_eq_true hb), aAU h]
structure TyE (m : Int) where
 op : List UInt8
 p : List UInt8
 out : SV
 ok : V.Spec Tryz.prog (Gl (gT m)) 15 (j9 op p) [] out []
def tyOf : List (TyE m) → List UInt8 → List UInt8 → Option (TyE m)
 | [], _, _ => none
 | e :: r, a, b => bif eqL e.op a && eqL e.p b then some e else tyOf r a b
theorem aBD : ∀ {T : List (TyE m)} {a b : List UInt8} {e : TyE m}, tyOf T a b = some e → e.op = a ∧ e.p = b
 | [], a, b, e, h => by cases h
 | x :: r, a, b, e, h => by
  unfold tyOf at h
  cases hb : (eqL x.op a && eqL x.p b) with
  | false => rw [hb] at h; exact aBD h
  | true =>
   rw [hb] at h
   simp only [cond_true, Option.some.injEq] at h
   subst h
   simp only [Bool.and_eq_true] at hb
   exact ⟨aAU hb.1, aAU hb.2⟩
def eTypes (T : List (TyE m)) : Ent Tryz.prog (Gl (gT m)) where
 f := 15
 ask := fun _ ins refs => match ins, refs with
  | [.c (.d (.v (.string a))), .c (.d (.v (.string b))), .c (.d (.v (.slice none 0 0))), .c (.d (.v (.slice none 0 0)))], [] => match tyOf T a.data.toList b.data.toList with
   | some e => some (e.out, [], [])
   | none => none
  | _, _ => none
 ok := by
  intro k ins refs post out cs h _
  split at h
  rename_i a b
  split at h
  rename_i e he
  simp only [Option.some.injEq, Prod.mk.injEq] at h
  obtain ⟨rfl, rfl, _⟩ := h
  obtain ⟨h1, h2⟩ := aBD he
  have := e.ok
  unfold j9 at this
  rw [h1, h2, aJI, aJI] at this
  exact this
  cases h
  cases h
set_option maxRecDepth 1000000 in
theorem types0 (m : Int) : V.Spec Tryz.prog (Gl (gT m)) 15 (j9 [101, 120, 116, 114, 97, 99, 116] [92, 100, 43, 35, 50]) [] (nD (.sl 1 [[.i 1]]) 1 0) [] :=
 kA (fun _ => none) (fun _ => none) (T := T0) (ne := N0e) (df := D0e) (F := 100000) (d := 60) (cs := []) (by kernel_rfl) (by kernel_rfl) trivial
set_option maxRecDepth 1000000 in
theorem types1 (m : Int) : V.Spec Tryz.prog (Gl (gT m)) 15 (j9 [101, 120, 116, 114, 97, 99, 116] [92, 100, 43]) [] (nD (.nil) 0 11) [] :=
 kA (fun _ => none) (fun _ => none) (T := T0) (ne := N0e) (df := D0e) (F := 100000) (d := 60) (cs := []) (by kernel_rfl) (by kernel_rfl) trivial
set_option maxRecDepth 1000000 in
theorem types2 (m : Int) : V.Spec Tryz.prog (Gl (gT m)) 15 (j9 [110, 111, 116, 104, 105, 110, 103] []) [] (nD (.nil) 0 13) [] :=
 kA (fun _ => none) (fun _ => none) (T := T0) (ne := N0e) (df := D0e) (F := 100000) (d := 60) (cs := []) (by kernel_rfl) (by kernel_rfl) trivial
set_option maxRecDepth 1000000 in
theorem types3 (m : Int) : V.Spec Tryz.prog (Gl (gT m)) 15 (j9 [99, 111, 110, 99, 97, 116] []) [] (nD (.sl 1 [[.i 1], [.i 1]]) 1 0) [] :=
 kA (fun _ => none) (fun _ => none) (T := T0) (ne := N0e) (df := D0e) (F := 100000) (d := 60) (cs := []) (by kernel_rfl) (by kernel_rfl) trivial
set_option maxRecDepth 1000000 in
theorem types4 (m : Int) : V.Spec Tryz.prog (Gl (gT m)) 15 (j9 [105, 102] [110, 117, 109, 98, 101, 114]) [] (nD (.sl 1 [[.i 4], [.i 2], [.i 2]]) 2 0) [] :=
 kA (fun _ => none) (fun _ => none) (T := T0) (ne := N0e) (df := D0e) (F := 100000) (d := 60) (cs := []) (by kernel_rfl) (by kernel_rfl) trivial
set_option maxRecDepth 1000000 in
theorem types5 (m : Int) : V.Spec Tryz.prog (Gl (gT m)) 15 (j9 [100, 97, 121, 115] []) [] (nD (.sl 1 [[.i 3], [.i 2]]) 3 0) [] :=
 kA (fun _ => none) (fun _ => none) (T := T0) (ne := N0e) (df := D0e) (F := 100000) (d := 60) (cs := []) (by kernel_rfl) (by kernel_rfl) trivial
set_option maxRecDepth 1000000 in
theorem types6 (m : Int) : V.Spec Tryz.prog (Gl (gT m)) 15 (j9 [115, 117, 109] [112, 114, 105, 99, 101, 62, 61, 48]) [] (nD (.sl 1 [[.i 5]]) 2 0) [] :=
 kA (fun _ => none) (fun _ => none) (T := T0) (ne := N0e) (df := D0e) (F := 100000) (d := 60) (cs := []) (by kernel_rfl) (by kernel_rfl) trivial
set_option maxRecDepth 1000000 in
theorem types7 (m : Int) : V.Spec Tryz.prog (Gl (gT m)) 15 (j9 [115, 117, 109] [112, 114, 105, 99, 101, 62, 61, 45, 49]) [] (nD (.sl 1 [[.i 5]]) 2 0) [] :=
 kA (fun _ => none) (fun _ => none) (T := T0) (ne := N0e) (df := D0e) (F := 100000) (d := 60) (cs := []) (by kernel_rfl) (by kernel_rfl) trivial
def pieceD : D := .sl 4 [[.i 1, .i 1, .i 200, .s (S [])]]
def uX : List SV := [.c (.d pieceD), .c (cS (S [97, 49, 98, 50, 51])), .c (cI 2)]
set_option maxRecDepth 1000000 in
theorem aH2 (m : Int) : V.Spec Tryz.prog (Gl (gT m)) 199 uX [] (.tup [(false, [cI 3]), (false, [cI 5]), (false, [cB true])]) [] :=
 kA (fun _ => none) (fun _ => none) (T := T0) (ne := N0e) (df := D0e) (F := 100000) (d := 60) (cs := []) (by kernel_rfl) (by kernel_rfl) trivial
def tyT (m : Int) : List (TyE m) := [⟨_, _, _, types0 m⟩, ⟨_, _, _, types1 m⟩, ⟨_, _, _, types2 m⟩, ⟨_, _, _, types3 m⟩, ⟨_, _, _, types4 m⟩, ⟨_, _, _, types5 m⟩, ⟨_, _, _, types6 m⟩, ⟨_, _, _, types7 m⟩]
end Go.Proofs.YtdejnaokkdndeaaGreatDoor
