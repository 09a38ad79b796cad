/- Part 45 of the proof: texts O2e, O3q, O5q, O7w, O8q, O9w, O9q, O6w, O6q, O10q, O11q. -/
import Derived.Test.YtdejnaokkdndeaaGreatDoorP34
import Derived.Test.YtdejnaokkdndeaaGreatDoorP40
import Derived.Test.YtdejnaokkdndeaaGreatDoorP41
import Derived.Test.YtdejnaokkdndeaaGreatDoorP42
import Derived.Test.YtdejnaokkdndeaaGreatDoorP43
import Derived.Test.YtdejnaokkdndeaaGreatDoorP44
import Derived.Lib.TrimByte
import Derived.Lib.Case
set_option linter.all false
namespace Go.Proofs.YtdejnaokkdndeaaGreatDoor
open Go.RowKit Go.V
variable (m : Int)
set_option maxRecDepth 100000
theorem te_all : ∀ i j, i < 8 → j < 4 → TyQ m [101, 120, 116, 114, 97, 99, 116] (prm i j) [1] 1
 | 0, 0, _, _ => te00 m
 | 0, 1, _, _ => te01 m
 | 0, 2, _, _ => te02 m
 | 0, 3, _, _ => te03 m
 | 1, 0, _, _ => te10 m
 | 1, 1, _, _ => te11 m
 | 1, 2, _, _ => te12 m
 | 1, 3, _, _ => te13 m
 | 2, 0, _, _ => te20 m
 | 2, 1, _, _ => te21 m
 | 2, 2, _, _ => te22 m
 | 2, 3, _, _ => te23 m
 | 3, 0, _, _ => te30 m
 | 3, 1, _, _ => te31 m
 | 3, 2, _, _ => te32 m
 | 3, 3, _, _ => te33 m
 | 4, 0, _, _ => te40 m
 | 4, 1, _, _ => te41 m
 | 4, 2, _, _ => te42 m
 | 4, 3, _, _ => te43 m
 | 5, 0, _, _ => te50 m
 | 5, 1, _, _ => te51 m
 | 5, 2, _, _ => te52 m
 | 5, 3, _, _ => te53 m
 | 6, 0, _, _ => te60 m
 | 6, 1, _, _ => te61 m
 | 6, 2, _, _ => te62 m
 | 6, 3, _, _ => te63 m
 | 7, 0, _, _ => te70 m
 | 7, 1, _, _ => te71 m
 | 7, 2, _, _ => te72 m
 | 7, 3, _, _ => te73 m
 | i + 8, _, h, _ => absurd h (by omega)
 | _, j + 4, _, h => absurd h (by omega)
theorem ex_all : ∀ i j, i < 8 → j < 4 → ExQ m i j
 | 0, 0, _, _ => ex00 m
 | 0, 1, _, _ => ex01 m
 | 0, 2, _, _ => ex02 m
 | 0, 3, _, _ => ex03 m
 | 1, 0, _, _ => ex10 m
 | 1, 1, _, _ => ex11 m
 | 1, 2, _, _ => ex12 m
 | 1, 3, _, _ => ex13 m
 | 2, 0, _, _ => ex20 m
 | 2, 1, _, _ => ex21 m
 | 2, 2, _, _ => ex22 m
 | 2, 3, _, _ => ex23 m
 | 3, 0, _, _ => ex30 m
 | 3, 1, _, _ => ex31 m
 | 3, 2, _, _ => ex32 m
 | 3, 3, _, _ => ex33 m
 | 4, 0, _, _ => ex40 m
 | 4, 1, _, _ => ex41 m
 | 4, 2, _, _ => ex42 m
 | 4, 3, _, _ => ex43 m
 | 5, 0, _, _ => ex50 m
 | 5, 1, _, _ => ex51 m
 | 5, 2, _, _ => ex52 m
 | 5, 3, _, _ => ex53 m
 | 6, 0, _, _ => ex60 m
 | 6, 1, _, _ => ex61 m
 | 6, 2, _, _ => ex62 m
 | 6, 3, _, _ => ex63 m
 | 7, 0, _, _ => ex70 m
 | 7, 1, _, _ => ex71 m
 | 7, 2, _, _ => ex72 m
 | 7, 3, _, _ => ex73 m
 | i + 8, _, h, _ => absurd h (by omega)
 | _, j + 4, _, h => absurd h (by omega)
theorem pr_all : ∀ i, i < 8 → PaQ m i ∧ RiQ m i ∧ TyQ m [109, 97, 116, 99, 104] (pat8.getD i []) [1] 4
 | 0, _ => ⟨pa0 m, ri0 m, ty5 m⟩
 | 1, _ => ⟨pa1 m, ri1 m, ty6 m⟩
 | 2, _ => ⟨pa2 m, ri2 m, ty7 m⟩
 | 3, _ => ⟨pa3 m, ri3 m, ty8 m⟩
 | 4, _ => ⟨pa4 m, ri4 m, ty9 m⟩
 | 5, _ => ⟨pa5 m, ri5 m, ty10 m⟩
 | 6, _ => ⟨pa6 m, ri6 m, ty11 m⟩
 | 7, _ => ⟨pa7 m, ri7 m, ty12 m⟩
 | i + 8, h => absurd h (by omega)
end Go.Proofs.YtdejnaokkdndeaaGreatDoor
namespace Go.Proofs.YtdejnaokkdndeaaGreatDoor
open Go.RowKit Go.V
variable {m : Int}
set_option maxRecDepth 100000
def TvQ (m : Int) (t : ByteArray) (v : List C) (e : Int) : Prop := SQ m 188 [sC t] (rE v e)
def RgQ (m : Int) (v : List C) : Prop := SQ m 20 [.agg v] (.c (cB true))
def ApQ (m : Int) (op p : List UInt8) (args : List (List D)) (v : List C) (e : Int) : Prop := SQ m 16 (apI op p args) (rE v e)
theorem tv_yes {t : ByteArray} (h : t.size ≤ 200) : TvQ m t (vTx t) 0 :=
 sQ nO (tV [(104, .bool false)]) nH (T := []) (cs := [Value.bool (decide ((t.size : Int) > 200)) = Value.bool false]) (by kernel_rfl) (by show Value.bool (decide ((t.size : Int) > 200)) = _; rw [decide_eq_false (by omega)])
theorem tv_no {t : ByteArray} (h : 200 < t.size) : TvQ m t vZe 3 :=
 sQ nO (tV [(104, .bool true)]) nH (T := []) (cs := [Value.bool (decide ((t.size : Int) > 200)) = Value.bool true]) (by kernel_rfl) (by show Value.bool (decide ((t.size : Int) > 200)) = _; rw [decide_eq_true (by omega)])
def tRt : Ent Tryz.prog (Gl (gT m)) := bR 20 (.c (cB true))
def tTy (ks : List Int) (k : Int) : Ent Tryz.prog (Gl (gT m)) := bR 15 (tyO ks k)
def tTv (v : List C) (e : Int) : Ent Tryz.prog (Gl (gT m)) := bR 188 (rE v e)
theorem concatY {s t u : ByteArray} (h : conj [(s.size + t.size ≤ Go.maxLen), TvQ m (s ++ t) (vTx u) 0, RgQ m (vTx t), RgQ m (vTx s), TyQ m [99, 111, 110, 99, 97, 116] [] [1, 1] 1]) : ApQ m [99, 111, 110, 99, 97, 116] [] [dTx s, dTx t] (vTx u) 0 :=
 sQ (tO [(313, true)]) nV nH (T := [tTy [1, 1] 1, tRt, tTv (vTx u) 0]) (by kernel_rfl) h
theorem concatN {s t u : ByteArray} (h : conj [(s.size + t.size ≤ Go.maxLen), TvQ m (s ++ t) vZe 3, RgQ m (vTx t), RgQ m (vTx s), TyQ m [99, 111, 110, 99, 97, 116] [] [1, 1] 1]) : ApQ m [99, 111, 110, 99, 97, 116] [] [dTx s, dTx t] vZe 3 :=
 sQ (tO [(313, true)]) nV nH (T := [tTy [1, 1] 1, tRt, tTv vZe 3]) (by kernel_rfl) h
theorem lengthY {t : ByteArray} (h : conj [SQ m 268 [.c (cI (t.size : Int))] (.tup [(true, [cI (t.size : Int), cI 0]), (false, [cB true])]), RgQ m (vTx t), TyQ m [108, 101, 110, 103, 116, 104] [] [1] 2]) : ApQ m [108, 101, 110, 103, 116, 104] [] [dTx t] (vNu (t.size : Int)) 0 :=
 sQ (nO) nV nH (T := [tTy [1] 2, tRt, bR 268 (.tup [(true, [cI (t.size : Int), cI 0]), (false, [cB true])])]) (by kernel_rfl) h
theorem upperY {t u : ByteArray} (h : conj [SQ m 194 [sC t] (sC u), TvQ m u (vTx u) 0, RgQ m (vTx t), TyQ m [117, 112, 112, 101, 114] [] [1] 1]) : ApQ m [117, 112, 112, 101, 114] [] [dTx t] (vTx u) 0 :=
 sQ (nO) nV nH (T := [tTy [1] 1, tRt, bR 194 (sC u), tTv (vTx u) 0]) (by kernel_rfl) h
theorem lowerY {t u : ByteArray} (h : conj [SQ m 195 [sC t] (sC u), TvQ m u (vTx u) 0, RgQ m (vTx t), TyQ m [108, 111, 119, 101, 114] [] [1] 1]) : ApQ m [108, 111, 119, 101, 114] [] [dTx t] (vTx u) 0 :=
 sQ (nO) nV nH (T := [tTy [1] 1, tRt, bR 195 (sC u), tTv (vTx u) 0]) (by kernel_rfl) h
theorem trimY {t u : ByteArray} (h : conj [SQ m 196 [sC t, sC (S [32])] (sC u), TvQ m u (vTx u) 0, RgQ m (vTx t), TyQ m [116, 114, 105, 109] [] [1] 1]) : ApQ m [116, 114, 105, 109] [] [dTx t] (vTx u) 0 :=
 sQ (nO) nV nH (T := [tTy [1] 1, tRt, bR 196 (sC u), tTv (vTx u) 0]) (by kernel_rfl) h
theorem aH4 {t q : ByteArray} {p : List UInt8} {n : Int} {ps : List (List D)} {a b : Int} {u : ByteArray} (h : conj [(0 ≤ a ∧ a ≤ b ∧ b ≤ (t.size : Int)), TvQ m (t.extract a.toNat b.toNat) (vTx u) 0, SQ m 199 [.c (cM 4 ps), sC t, .c (cI n)] (y11 a b), SQ m 198 [sC q] (y14 ps), SQ m 197 [sC (S p)] (y13 q n), RgQ m (vTx t), TyQ m [101, 120, 116, 114, 97, 99, 116] p [1] 1]) : ApQ m [101, 120, 116, 114, 97, 99, 116] p [dTx t] (vTx u) 0 :=
 sQ (tO [(314, true)]) nV nH (T := [tTy [1] 1, tRt, bR 197 (y13 q n), bR 198 (y14 ps), bR 199 (y11 a b), tTv (vTx u) 0]) (by kernel_rfl) h
theorem aH5 {t q : ByteArray} {p : List UInt8} {n : Int} {ps : List (List D)} (h : conj [SQ m 199 [.c (cM 4 ps), sC t, .c (cI n)] (y12), SQ m 198 [sC q] (y14 ps), SQ m 197 [sC (S p)] (y13 q n), RgQ m (vTx t), TyQ m [101, 120, 116, 114, 97, 99, 116] p [1] 1]) : ApQ m [101, 120, 116, 114, 97, 99, 116] p [dTx t] vZe 18 :=
 sQ (nO) nV nH (T := [tTy [1] 1, tRt, bR 197 (y13 q n), bR 198 (y14 ps), bR 199 (y12)]) (by kernel_rfl) h
theorem matchY {t : ByteArray} {p : List UInt8} {ps : List (List D)} (h : conj [SQ m 202 [.c (cM 4 ps), sC t] (.c (cB true)), SQ m 198 [sC (S p)] (y14 ps), RgQ m (vTx t), TyQ m [109, 97, 116, 99, 104] p [1] 4]) : ApQ m [109, 97, 116, 99, 104] p [dTx t] (vBo 1) 0 :=
 sQ (nO) nV nH (T := [tTy [1] 4, tRt, bR 198 (y14 ps), bR 202 (.c (cB true))]) (by kernel_rfl) h
abbrev y15 (a0 : ByteArray) : SV := .tup [(false, [cS a0]), (false, [cB true])]
theorem showY {n : Int} {p : List UInt8} {u : ByteArray} (h : conj [TvQ m u (vTx u) 0, SQ m 209 [sC (S p), .c (cI n)] (y15 u), RgQ m (vDt n), TyQ m [115, 104, 111, 119] p [3] 1]) : ApQ m [115, 104, 111, 119] p [dDt n] (vTx u) 0 :=
 sQ (nO) nV nH (T := [tTy [3] 1, tRt, bR 209 (y15 u), tTv (vTx u) 0]) (by kernel_rfl) h
theorem readY {t : ByteArray} {p : List UInt8} {n : Int} (h : conj [SQ m 210 [sC (S p), sC t] (y1 n), RgQ m (vTx t), TyQ m [114, 101, 97, 100] p [1] 3]) : ApQ m [114, 101, 97, 100] p [dTx t] (vDt n) 0 :=
 sQ (nO) nV nH (T := [tTy [1] 3, tRt, bR 210 (y1 n)]) (by kernel_rfl) h
def vG (k : Int) (s : ByteArray) (a b n : Int) : List C := [cI k, cS s, cI a, cI b, cI n, .d .nil, .d .nil]
def IsQ (m : Int) (op p : ByteArray) (want : List C) (args : List (List D)) : Prop := SQ m 23 [sC op, sC p, .agg want, .c (cM 7 args)] (.c (cB true))
theorem isY {op p s : ByteArray} {k a b n : Int} {args : List (List D)} (h : conj [SQ m 19 [.agg (vG k s a b n), .agg (vG k s a b n)] (.c (cB true)), SQ m 16 [sC op, sC p, .c (cM 7 args), .c (.d .nil), .c (.d .nil), .c (.d .nil)] (rE (vG k s a b n) 0)]) : IsQ m op p (vG k s a b n) args :=
 sQ nO nV nH (T := [bR 16 (rE (vG k s a b n) 0), bR 19 (.c (cB true))]) (by kernel_rfl) h
end Go.Proofs.YtdejnaokkdndeaaGreatDoor
namespace Go.Proofs.YtdejnaokkdndeaaGreatDoor
open Go.RowKit Go.V
variable {m : Int}
set_option maxRecDepth 100000
def NvQ (m : Int) (a : List (List D)) (kd j : Int) (v : List C) : Prop := V.Spec Tryz.prog (Gl (gT m)) 21 [.c (.bx 0 0), .c (cI kd)] [(0, .box 53 [cM 1 a, cI 0])] (.agg v) [(0, .box 53 [cM 1 a, cI j])]
def nvT (v0 v1 v2 : List C) (j0 j1 j2 : Int) : Nat → List (Nat × Ob) → Option (SV × List (Nat × Ob)) := fun k refs => match refs with
 | [(0, .box ty [c0, _])] => match k with
  | 121 => some (.agg v0, [(0, .box ty [c0, cI j0])])
  | 142 => some (.agg v1, [(0, .box ty [c0, cI j1])])
  | 163 => some (.agg v2, [(0, .box ty [c0, cI j2])])
  | _ => none
 | _ => none
def PmQ (m : Int) (op : List UInt8) (q0 q1 : Int) (p : ByteArray) : Prop := SQ m 12 [sC (S op), .agg [cI q0, cI q1, cI 0]] (sC p)
def ApS (m : Int) (op : List UInt8) (p : ByteArray) (args : List (List D)) (v : List C) (e : Int) : Prop := SQ m 16 [sC (S op), sC p, .c (cM 7 args), .c (.d .nil), .c (.d .nil), .c (.d .nil)] (rE v e)
def bEq (b v : Bool) : Prop := Value.bool b = Value.bool v
def chO (P : ByteArray) (i : Int) : Prop := 0 ≤ i ∧ i < (P.size : Int)
theorem law101 {a b c : List (List D)} {q0 q1 q2 n j0 j1 j2 : Int} {t0 t1 sc x0 x1 x2 P pt L w : ByteArray} (h : conj [IsQ m (S [114, 101, 97, 100]) L (vDt n) [dTx w], ApS m [115, 104, 111, 119] L [dDt n] (vTx w) 0, PmQ m [115, 104, 111, 119] q0 q1 L, Go.Eng.inR (((P.size : Int) - 1) - 1), (0 ≤ (0 : Int) ∧ 0 ≤ ((P.size : Int) - 1) - 1 ∧ ((P.size : Int) - 1) - 1 ≤ (P.size : Int)), IsQ m (S [109, 97, 116, 99, 104]) (P.extract 0 (((P.size : Int) - 1) - 1).toNat) (vBo 1) [dTx pt], bEq (decide (((P.size : Int) - 1) > 0)) true, Go.Eng.inR (((P.size : Int) - 1) - 1), chO P (((P.size : Int) - 1) - 1), bEq (!(Go.Eng.byteAt P (((P.size : Int) - 1) - 1) == 35)) false, Go.Eng.inR ((P.size : Int) - 1), bEq (decide ((P.size : Int) > 0)) true, Go.Eng.inR ((P.size : Int) - 1), chO P ((P.size : Int) - 1), bEq (!(Go.Eng.byteAt P ((P.size : Int) - 1) == 35)) true, ApS m [101, 120, 116, 114, 97, 99, 116] P [dTx t0] (vTx pt) 0, PmQ m [101, 120, 116, 114, 97, 99, 116] q0 q1 P, IsQ m (S [116, 114, 105, 109]) (S []) (vTx x2) [dTx x2], bEq (decide ((x2.size : Int) > (t0.size : Int))) false, ApS m [116, 114, 105, 109] (S []) [dTx t0] (vTx x2) 0, IsQ m (S [108, 111, 119, 101, 114]) (S []) (vTx x1) [dTx x1], bEq (decide ((x1.size : Int) > (t0.size : Int))) false, ApS m [108, 111, 119, 101, 114] (S []) [dTx t0] (vTx x1) 0, IsQ m (S [117, 112, 112, 101, 114]) (S []) (vTx x0) [dTx x0], bEq (decide ((x0.size : Int) > (t0.size : Int))) false, ApS m [117, 112, 112, 101, 114] (S []) [dTx t0] (vTx x0) 0, Go.Eng.inR ((t0.size : Int) + (t1.size : Int)), bEq (decide (((t0.size : Int) + (t1.size : Int)) ≤ 200)) true, Go.Eng.inR ((t0.size : Int) + (t1.size : Int)), IsQ m (S [108, 101, 110, 103, 116, 104]) (S []) (vNu ((t0.size : Int) + (t1.size : Int))) [dTx sc], ApS m [99, 111, 110, 99, 97, 116] (S []) [dTx t0, dTx t1] (vTx sc) 0, NvQ m c 3 j2 (vDt n), NvQ m b 1 j1 (vTx t1), NvQ m a 1 j0 (vTx t0), SQ m 10 [] (.c (cB true))]) : SQ m 6 [y8 a b c, .agg [cI q0, cI q1, cI q2]] (.c (cB true)) :=
 sQ (tO [(194, true), (209, true), (371, true), (372, true), (376, true), (383, true), (384, true), (392, true), (393, true)]) (tV [mk_ 177, mk_ 217, mk_ 233, mk_ 247, mk_ 274, mk_ 288, mk_ 315, mk_ 329, mk_ 356, mk_ 397, mk_ 413, mk_ 431, (195, .bool true), (258, .bool false), (299, .bool false), (340, .bool false), (367, .bool true), (373, .bool true), (379, .bool true), (385, .bool false)]) nH (T := [bR 10 (.c (cB true)), eT 21 (nvT (vTx t0) (vTx t1) (vDt n) j0 j1 j2), bV 16 (tS [(177, rE (vTx sc) 0), (233, rE (vTx x0) 0), (274, rE (vTx x1) 0), (315, rE (vTx x2) 0), (356, rE (vTx pt) 0), (413, rE (vTx w) 0)]), bR 23 (.c (cB true)), bV 12 (tS [(350, sC P), (407, sC L)])]) (by kernel_rfl) h
theorem law100 {a b c : List (List D)} {q0 q1 q2 n j0 j1 j2 : Int} {t0 t1 sc x0 x1 x2 P pt L w : ByteArray} (h : conj [IsQ m (S [114, 101, 97, 100]) L (vDt n) [dTx w], ApS m [115, 104, 111, 119] L [dDt n] (vTx w) 0, PmQ m [115, 104, 111, 119] q0 q1 L, bEq (decide (((P.size : Int) - 1) > 0)) true, Go.Eng.inR (((P.size : Int) - 1) - 1), chO P (((P.size : Int) - 1) - 1), bEq (!(Go.Eng.byteAt P (((P.size : Int) - 1) - 1) == 35)) false, Go.Eng.inR ((P.size : Int) - 1), bEq (decide ((P.size : Int) > 0)) true, Go.Eng.inR ((P.size : Int) - 1), chO P ((P.size : Int) - 1), bEq (!(Go.Eng.byteAt P ((P.size : Int) - 1) == 35)) true, ApS m [101, 120, 116, 114, 97, 99, 116] P [dTx t0] vZe 18, PmQ m [101, 120, 116, 114, 97, 99, 116] q0 q1 P, IsQ m (S [116, 114, 105, 109]) (S []) (vTx x2) [dTx x2], bEq (decide ((x2.size : Int) > (t0.size : Int))) false, ApS m [116, 114, 105, 109] (S []) [dTx t0] (vTx x2) 0, IsQ m (S [108, 111, 119, 101, 114]) (S []) (vTx x1) [dTx x1], bEq (decide ((x1.size : Int) > (t0.size : Int))) false, ApS m [108, 111, 119, 101, 114] (S []) [dTx t0] (vTx x1) 0, IsQ m (S [117, 112, 112, 101, 114]) (S []) (vTx x0) [dTx x0], bEq (decide ((x0.size : Int) > (t0.size : Int))) false, ApS m [117, 112, 112, 101, 114] (S []) [dTx t0] (vTx x0) 0, Go.Eng.inR ((t0.size : Int) + (t1.size : Int)), bEq (decide (((t0.size : Int) + (t1.size : Int)) ≤ 200)) true, Go.Eng.inR ((t0.size : Int) + (t1.size : Int)), IsQ m (S [108, 101, 110, 103, 116, 104]) (S []) (vNu ((t0.size : Int) + (t1.size : Int))) [dTx sc], ApS m [99, 111, 110, 99, 97, 116] (S []) [dTx t0, dTx t1] (vTx sc) 0, NvQ m c 3 j2 (vDt n), NvQ m b 1 j1 (vTx t1), NvQ m a 1 j0 (vTx t0), SQ m 10 [] (.c (cB true))]) : SQ m 6 [y8 a b c, .agg [cI q0, cI q1, cI q2]] (.c (cB true)) :=
 sQ (tO [(194, true), (209, true), (371, true), (372, true), (376, true), (383, true), (384, true)]) (tV [mk_ 177, mk_ 217, mk_ 233, mk_ 247, mk_ 274, mk_ 288, mk_ 315, mk_ 329, mk_ 356, mk_ 406, mk_ 424, (195, .bool true), (258, .bool false), (299, .bool false), (340, .bool false), (367, .bool true), (373, .bool true), (379, .bool true), (385, .bool false)]) nH (T := [bR 10 (.c (cB true)), eT 21 (nvT (vTx t0) (vTx t1) (vDt n) j0 j1 j2), bV 16 (tS [(177, rE (vTx sc) 0), (233, rE (vTx x0) 0), (274, rE (vTx x1) 0), (315, rE (vTx x2) 0), (356, rE vZe 18), (406, rE (vTx w) 0)]), bR 23 (.c (cB true)), bV 12 (tS [(350, sC P), (400, sC L)])]) (by kernel_rfl) h
theorem law111 {a b c : List (List D)} {q0 q1 q2 n j0 j1 j2 : Int} {t0 t1 sc x0 x1 x2 P pt L w : ByteArray} (h : conj [IsQ m (S [114, 101, 97, 100]) L (vDt n) [dTx w], ApS m [115, 104, 111, 119] L [dDt n] (vTx w) 0, PmQ m [115, 104, 111, 119] q0 q1 L, Go.Eng.inR ((((P.size : Int) - 1) - 1) - 1), (0 ≤ (0 : Int) ∧ 0 ≤ (((P.size : Int) - 1) - 1) - 1 ∧ (((P.size : Int) - 1) - 1) - 1 ≤ (P.size : Int)), IsQ m (S [109, 97, 116, 99, 104]) (P.extract 0 ((((P.size : Int) - 1) - 1) - 1).toNat) (vBo 1) [dTx pt], bEq (decide ((((P.size : Int) - 1) - 1) > 0)) true, Go.Eng.inR ((((P.size : Int) - 1) - 1) - 1), chO P ((((P.size : Int) - 1) - 1) - 1), bEq (!(Go.Eng.byteAt P ((((P.size : Int) - 1) - 1) - 1) == 35)) false, Go.Eng.inR (((P.size : Int) - 1) - 1), bEq (decide (((P.size : Int) - 1) > 0)) true, Go.Eng.inR (((P.size : Int) - 1) - 1), chO P (((P.size : Int) - 1) - 1), bEq (!(Go.Eng.byteAt P (((P.size : Int) - 1) - 1) == 35)) true, Go.Eng.inR ((P.size : Int) - 1), bEq (decide ((P.size : Int) > 0)) true, Go.Eng.inR ((P.size : Int) - 1), chO P ((P.size : Int) - 1), bEq (!(Go.Eng.byteAt P ((P.size : Int) - 1) == 35)) true, ApS m [101, 120, 116, 114, 97, 99, 116] P [dTx t0] (vTx pt) 0, PmQ m [101, 120, 116, 114, 97, 99, 116] q0 q1 P, IsQ m (S [116, 114, 105, 109]) (S []) (vTx x2) [dTx x2], bEq (decide ((x2.size : Int) > (t0.size : Int))) false, ApS m [116, 114, 105, 109] (S []) [dTx t0] (vTx x2) 0, IsQ m (S [108, 111, 119, 101, 114]) (S []) (vTx x1) [dTx x1], bEq (decide ((x1.size : Int) > (t0.size : Int))) false, ApS m [108, 111, 119, 101, 114] (S []) [dTx t0] (vTx x1) 0, IsQ m (S [117, 112, 112, 101, 114]) (S []) (vTx x0) [dTx x0], bEq (decide ((x0.size : Int) > (t0.size : Int))) false, ApS m [117, 112, 112, 101, 114] (S []) [dTx t0] (vTx x0) 0, Go.Eng.inR ((t0.size : Int) + (t1.size : Int)), bEq (decide (((t0.size : Int) + (t1.size : Int)) ≤ 200)) true, Go.Eng.inR ((t0.size : Int) + (t1.size : Int)), IsQ m (S [108, 101, 110, 103, 116, 104]) (S []) (vNu ((t0.size : Int) + (t1.size : Int))) [dTx sc], ApS m [99, 111, 110, 99, 97, 116] (S []) [dTx t0, dTx t1] (vTx sc) 0, NvQ m c 3 j2 (vDt n), NvQ m b 1 j1 (vTx t1), NvQ m a 1 j0 (vTx t0), SQ m 10 [] (.c (cB true))]) : SQ m 6 [y8 a b c, .agg [cI q0, cI q1, cI q2]] (.c (cB true)) :=
 sQ (tO [(194, true), (209, true), (371, true), (372, true), (376, true), (383, true), (384, true), (388, true), (395, true), (396, true), (404, true), (405, true)]) (tV [mk_ 177, mk_ 217, mk_ 233, mk_ 247, mk_ 274, mk_ 288, mk_ 315, mk_ 329, mk_ 356, mk_ 409, mk_ 425, mk_ 443, (195, .bool true), (258, .bool false), (299, .bool false), (340, .bool false), (367, .bool true), (373, .bool true), (379, .bool true), (385, .bool true), (391, .bool true), (397, .bool false)]) nH (T := [bR 10 (.c (cB true)), eT 21 (nvT (vTx t0) (vTx t1) (vDt n) j0 j1 j2), bV 16 (tS [(177, rE (vTx sc) 0), (233, rE (vTx x0) 0), (274, rE (vTx x1) 0), (315, rE (vTx x2) 0), (356, rE (vTx pt) 0), (425, rE (vTx w) 0)]), bR 23 (.c (cB true)), bV 12 (tS [(350, sC P), (419, sC L)])]) (by kernel_rfl) h
theorem law110 {a b c : List (List D)} {q0 q1 q2 n j0 j1 j2 : Int} {t0 t1 sc x0 x1 x2 P pt L w : ByteArray} (h : conj [IsQ m (S [114, 101, 97, 100]) L (vDt n) [dTx w], ApS m [115, 104, 111, 119] L [dDt n] (vTx w) 0, PmQ m [115, 104, 111, 119] q0 q1 L, bEq (decide ((((P.size : Int) - 1) - 1) > 0)) true, Go.Eng.inR ((((P.size : Int) - 1) - 1) - 1), chO P ((((P.size : Int) - 1) - 1) - 1), bEq (!(Go.Eng.byteAt P ((((P.size : Int) - 1) - 1) - 1) == 35)) false, Go.Eng.inR (((P.size : Int) - 1) - 1), bEq (decide (((P.size : Int) - 1) > 0)) true, Go.Eng.inR (((P.size : Int) - 1) - 1), chO P (((P.size : Int) - 1) - 1), bEq (!(Go.Eng.byteAt P (((P.size : Int) - 1) - 1) == 35)) true, Go.Eng.inR ((P.size : Int) - 1), bEq (decide ((P.size : Int) > 0)) true, Go.Eng.inR ((P.size : Int) - 1), chO P ((P.size : Int) - 1), bEq (!(Go.Eng.byteAt P ((P.size : Int) - 1) == 35)) true, ApS m [101, 120, 116, 114, 97, 99, 116] P [dTx t0] vZe 18, PmQ m [101, 120, 116, 114, 97, 99, 116] q0 q1 P, IsQ m (S [116, 114, 105, 109]) (S []) (vTx x2) [dTx x2], bEq (decide ((x2.size : Int) > (t0.size : Int))) false, ApS m [116, 114, 105, 109] (S []) [dTx t0] (vTx x2) 0, IsQ m (S [108, 111, 119, 101, 114]) (S []) (vTx x1) [dTx x1], bEq (decide ((x1.size : Int) > (t0.size : Int))) false, ApS m [108, 111, 119, 101, 114] (S []) [dTx t0] (vTx x1) 0, IsQ m (S [117, 112, 112, 101, 114]) (S []) (vTx x0) [dTx x0], bEq (decide ((x0.size : Int) > (t0.size : Int))) false, ApS m [117, 112, 112, 101, 114] (S []) [dTx t0] (vTx x0) 0, Go.Eng.inR ((t0.size : Int) + (t1.size : Int)), bEq (decide (((t0.size : Int) + (t1.size : Int)) ≤ 200)) true, Go.Eng.inR ((t0.size : Int) + (t1.size : Int)), IsQ m (S [108, 101, 110, 103, 116, 104]) (S []) (vNu ((t0.size : Int) + (t1.size : Int))) [dTx sc], ApS m [99, 111, 110, 99, 97, 116] (S []) [dTx t0, dTx t1] (vTx sc) 0, NvQ m c 3 j2 (vDt n), NvQ m b 1 j1 (vTx t1), NvQ m a 1 j0 (vTx t0), SQ m 10 [] (.c (cB true))]) : SQ m 6 [y8 a b c, .agg [cI q0, cI q1, cI q2]] (.c (cB true)) :=
 sQ (tO [(194, true), (209, true), (371, true), (372, true), (376, true), (383, true), (384, true), (388, true), (395, true), (396, true)]) (tV [mk_ 177, mk_ 217, mk_ 233, mk_ 247, mk_ 274, mk_ 288, mk_ 315, mk_ 329, mk_ 356, mk_ 418, mk_ 436, (195, .bool true), (258, .bool false), (299, .bool false), (340, .bool false), (367, .bool true), (373, .bool true), (379, .bool true), (385, .bool true), (391, .bool true), (397, .bool false)]) nH (T := [bR 10 (.c (cB true)), eT 21 (nvT (vTx t0) (vTx t1) (vDt n) j0 j1 j2), bV 16 (tS [(177, rE (vTx sc) 0), (233, rE (vTx x0) 0), (274, rE (vTx x1) 0), (315, rE (vTx x2) 0), (356, rE vZe 18), (418, rE (vTx w) 0)]), bR 23 (.c (cB true)), bV 12 (tS [(350, sC P), (412, sC L)])]) (by kernel_rfl) h
theorem law001 {a b c : List (List D)} {q0 q1 q2 n j0 j1 j2 : Int} {t0 t1 sc x0 x1 x2 P pt L w : ByteArray} (h : conj [IsQ m (S [114, 101, 97, 100]) L (vDt n) [dTx w], ApS m [115, 104, 111, 119] L [dDt n] (vTx w) 0, PmQ m [115, 104, 111, 119] q0 q1 L, Go.Eng.inR (((P.size : Int) - 1) - 1), (0 ≤ (0 : Int) ∧ 0 ≤ ((P.size : Int) - 1) - 1 ∧ ((P.size : Int) - 1) - 1 ≤ (P.size : Int)), IsQ m (S [109, 97, 116, 99, 104]) (P.extract 0 (((P.size : Int) - 1) - 1).toNat) (vBo 1) [dTx pt], bEq (decide (((P.size : Int) - 1) > 0)) true, Go.Eng.inR (((P.size : Int) - 1) - 1), chO P (((P.size : Int) - 1) - 1), bEq (!(Go.Eng.byteAt P (((P.size : Int) - 1) - 1) == 35)) false, Go.Eng.inR ((P.size : Int) - 1), bEq (decide ((P.size : Int) > 0)) true, Go.Eng.inR ((P.size : Int) - 1), chO P ((P.size : Int) - 1), bEq (!(Go.Eng.byteAt P ((P.size : Int) - 1) == 35)) true, ApS m [101, 120, 116, 114, 97, 99, 116] P [dTx t0] (vTx pt) 0, PmQ m [101, 120, 116, 114, 97, 99, 116] q0 q1 P, IsQ m (S [116, 114, 105, 109]) (S []) (vTx x2) [dTx x2], bEq (decide ((x2.size : Int) > (t0.size : Int))) false, ApS m [116, 114, 105, 109] (S []) [dTx t0] (vTx x2) 0, IsQ m (S [108, 111, 119, 101, 114]) (S []) (vTx x1) [dTx x1], bEq (decide ((x1.size : Int) > (t0.size : Int))) false, ApS m [108, 111, 119, 101, 114] (S []) [dTx t0] (vTx x1) 0, IsQ m (S [117, 112, 112, 101, 114]) (S []) (vTx x0) [dTx x0], bEq (decide ((x0.size : Int) > (t0.size : Int))) false, ApS m [117, 112, 112, 101, 114] (S []) [dTx t0] (vTx x0) 0, Go.Eng.inR ((t0.size : Int) + (t1.size : Int)), bEq (decide (((t0.size : Int) + (t1.size : Int)) ≤ 200)) false, ApS m [99, 111, 110, 99, 97, 116] (S []) [dTx t0, dTx t1] vZe 3, NvQ m c 3 j2 (vDt n), NvQ m b 1 j1 (vTx t1), NvQ m a 1 j0 (vTx t0), SQ m 10 [] (.c (cB true))]) : SQ m 6 [y8 a b c, .agg [cI q0, cI q1, cI q2]] (.c (cB true)) :=
 sQ (tO [(194, true), (353, true), (354, true), (358, true), (365, true), (366, true), (374, true), (375, true)]) (tV [mk_ 177, mk_ 215, mk_ 229, mk_ 256, mk_ 270, mk_ 297, mk_ 311, mk_ 338, mk_ 379, mk_ 395, mk_ 413, (195, .bool false), (240, .bool false), (281, .bool false), (322, .bool false), (349, .bool true), (355, .bool true), (361, .bool true), (367, .bool false)]) nH (T := [bR 10 (.c (cB true)), eT 21 (nvT (vTx t0) (vTx t1) (vDt n) j0 j1 j2), bV 16 (tS [(177, rE vZe 3), (215, rE (vTx x0) 0), (256, rE (vTx x1) 0), (297, rE (vTx x2) 0), (338, rE (vTx pt) 0), (395, rE (vTx w) 0)]), bR 23 (.c (cB true)), bV 12 (tS [(332, sC P), (389, sC L)])]) (by kernel_rfl) h
theorem law000 {a b c : List (List D)} {q0 q1 q2 n j0 j1 j2 : Int} {t0 t1 sc x0 x1 x2 P pt L w : ByteArray} (h : conj [IsQ m (S [114, 101, 97, 100]) L (vDt n) [dTx w], ApS m [115, 104, 111, 119] L [dDt n] (vTx w) 0, PmQ m [115, 104, 111, 119] q0 q1 L, bEq (decide (((P.size : Int) - 1) > 0)) true, Go.Eng.inR (((P.size : Int) - 1) - 1), chO P (((P.size : Int) - 1) - 1), bEq (!(Go.Eng.byteAt P (((P.size : Int) - 1) - 1) == 35)) false, Go.Eng.inR ((P.size : Int) - 1), bEq (decide ((P.size : Int) > 0)) true, Go.Eng.inR ((P.size : Int) - 1), chO P ((P.size : Int) - 1), bEq (!(Go.Eng.byteAt P ((P.size : Int) - 1) == 35)) true, ApS m [101, 120, 116, 114, 97, 99, 116] P [dTx t0] vZe 18, PmQ m [101, 120, 116, 114, 97, 99, 116] q0 q1 P, IsQ m (S [116, 114, 105, 109]) (S []) (vTx x2) [dTx x2], bEq (decide ((x2.size : Int) > (t0.size : Int))) false, ApS m [116, 114, 105, 109] (S []) [dTx t0] (vTx x2) 0, IsQ m (S [108, 111, 119, 101, 114]) (S []) (vTx x1) [dTx x1], bEq (decide ((x1.size : Int) > (t0.size : Int))) false, ApS m [108, 111, 119, 101, 114] (S []) [dTx t0] (vTx x1) 0, IsQ m (S [117, 112, 112, 101, 114]) (S []) (vTx x0) [dTx x0], bEq (decide ((x0.size : Int) > (t0.size : Int))) false, ApS m [117, 112, 112, 101, 114] (S []) [dTx t0] (vTx x0) 0, Go.Eng.inR ((t0.size : Int) + (t1.size : Int)), bEq (decide (((t0.size : Int) + (t1.size : Int)) ≤ 200)) false, ApS m [99, 111, 110, 99, 97, 116] (S []) [dTx t0, dTx t1] vZe 3, NvQ m c 3 j2 (vDt n), NvQ m b 1 j1 (vTx t1), NvQ m a 1 j0 (vTx t0), SQ m 10 [] (.c (cB true))]) : SQ m 6 [y8 a b c, .agg [cI q0, cI q1, cI q2]] (.c (cB true)) :=
 sQ (tO [(194, true), (353, true), (354, true), (358, true), (365, true), (366, true)]) (tV [mk_ 177, mk_ 215, mk_ 229, mk_ 256, mk_ 270, mk_ 297, mk_ 311, mk_ 338, mk_ 388, mk_ 406, (195, .bool false), (240, .bool false), (281, .bool false), (322, .bool false), (349, .bool true), (355, .bool true), (361, .bool true), (367, .bool false)]) nH (T := [bR 10 (.c (cB true)), eT 21 (nvT (vTx t0) (vTx t1) (vDt n) j0 j1 j2), bV 16 (tS [(177, rE vZe 3), (215, rE (vTx x0) 0), (256, rE (vTx x1) 0), (297, rE (vTx x2) 0), (338, rE vZe 18), (388, rE (vTx w) 0)]), bR 23 (.c (cB true)), bV 12 (tS [(332, sC P), (382, sC L)])]) (by kernel_rfl) h
theorem law011 {a b c : List (List D)} {q0 q1 q2 n j0 j1 j2 : Int} {t0 t1 sc x0 x1 x2 P pt L w : ByteArray} (h : conj [IsQ m (S [114, 101, 97, 100]) L (vDt n) [dTx w], ApS m [115, 104, 111, 119] L [dDt n] (vTx w) 0, PmQ m [115, 104, 111, 119] q0 q1 L, Go.Eng.inR ((((P.size : Int) - 1) - 1) - 1), (0 ≤ (0 : Int) ∧ 0 ≤ (((P.size : Int) - 1) - 1) - 1 ∧ (((P.size : Int) - 1) - 1) - 1 ≤ (P.size : Int)), IsQ m (S [109, 97, 116, 99, 104]) (P.extract 0 ((((P.size : Int) - 1) - 1) - 1).toNat) (vBo 1) [dTx pt], bEq (decide ((((P.size : Int) - 1) - 1) > 0)) true, Go.Eng.inR ((((P.size : Int) - 1) - 1) - 1), chO P ((((P.size : Int) - 1) - 1) - 1), bEq (!(Go.Eng.byteAt P ((((P.size : Int) - 1) - 1) - 1) == 35)) false, Go.Eng.inR (((P.size : Int) - 1) - 1), bEq (decide (((P.size : Int) - 1) > 0)) true, Go.Eng.inR (((P.size : Int) - 1) - 1), chO P (((P.size : Int) - 1) - 1), bEq (!(Go.Eng.byteAt P (((P.size : Int) - 1) - 1) == 35)) true, Go.Eng.inR ((P.size : Int) - 1), bEq (decide ((P.size : Int) > 0)) true, Go.Eng.inR ((P.size : Int) - 1), chO P ((P.size : Int) - 1), bEq (!(Go.Eng.byteAt P ((P.size : Int) - 1) == 35)) true, ApS m [101, 120, 116, 114, 97, 99, 116] P [dTx t0] (vTx pt) 0, PmQ m [101, 120, 116, 114, 97, 99, 116] q0 q1 P, IsQ m (S [116, 114, 105, 109]) (S []) (vTx x2) [dTx x2], bEq (decide ((x2.size : Int) > (t0.size : Int))) false, ApS m [116, 114, 105, 109] (S []) [dTx t0] (vTx x2) 0, IsQ m (S [108, 111, 119, 101, 114]) (S []) (vTx x1) [dTx x1], bEq (decide ((x1.size : Int) > (t0.size : Int))) false, ApS m [108, 111, 119, 101, 114] (S []) [dTx t0] (vTx x1) 0, IsQ m (S [117, 112, 112, 101, 114]) (S []) (vTx x0) [dTx x0], bEq (decide ((x0.size : Int) > (t0.size : Int))) false, ApS m [117, 112, 112, 101, 114] (S []) [dTx t0] (vTx x0) 0, Go.Eng.inR ((t0.size : Int) + (t1.size : Int)), bEq (decide (((t0.size : Int) + (t1.size : Int)) ≤ 200)) false, ApS m [99, 111, 110, 99, 97, 116] (S []) [dTx t0, dTx t1] vZe 3, NvQ m c 3 j2 (vDt n), NvQ m b 1 j1 (vTx t1), NvQ m a 1 j0 (vTx t0), SQ m 10 [] (.c (cB true))]) : SQ m 6 [y8 a b c, .agg [cI q0, cI q1, cI q2]] (.c (cB true)) :=
 sQ (tO [(194, true), (353, true), (354, true), (358, true), (365, true), (366, true), (370, true), (377, true), (378, true), (386, true), (387, true)]) (tV [mk_ 177, mk_ 215, mk_ 229, mk_ 256, mk_ 270, mk_ 297, mk_ 311, mk_ 338, mk_ 391, mk_ 407, mk_ 425, (195, .bool false), (240, .bool false), (281, .bool false), (322, .bool false), (349, .bool true), (355, .bool true), (361, .bool true), (367, .bool true), (373, .bool true), (379, .bool false)]) nH (T := [bR 10 (.c (cB true)), eT 21 (nvT (vTx t0) (vTx t1) (vDt n) j0 j1 j2), bV 16 (tS [(177, rE vZe 3), (215, rE (vTx x0) 0), (256, rE (vTx x1) 0), (297, rE (vTx x2) 0), (338, rE (vTx pt) 0), (407, rE (vTx w) 0)]), bR 23 (.c (cB true)), bV 12 (tS [(332, sC P), (401, sC L)])]) (by kernel_rfl) h
theorem law010 {a b c : List (List D)} {q0 q1 q2 n j0 j1 j2 : Int} {t0 t1 sc x0 x1 x2 P pt L w : ByteArray} (h : conj [IsQ m (S [114, 101, 97, 100]) L (vDt n) [dTx w], ApS m [115, 104, 111, 119] L [dDt n] (vTx w) 0, PmQ m [115, 104, 111, 119] q0 q1 L, bEq (decide ((((P.size : Int) - 1) - 1) > 0)) true, Go.Eng.inR ((((P.size : Int) - 1) - 1) - 1), chO P ((((P.size : Int) - 1) - 1) - 1), bEq (!(Go.Eng.byteAt P ((((P.size : Int) - 1) - 1) - 1) == 35)) false, Go.Eng.inR (((P.size : Int) - 1) - 1), bEq (decide (((P.size : Int) - 1) > 0)) true, Go.Eng.inR (((P.size : Int) - 1) - 1), chO P (((P.size : Int) - 1) - 1), bEq (!(Go.Eng.byteAt P (((P.size : Int) - 1) - 1) == 35)) true, Go.Eng.inR ((P.size : Int) - 1), bEq (decide ((P.size : Int) > 0)) true, Go.Eng.inR ((P.size : Int) - 1), chO P ((P.size : Int) - 1), bEq (!(Go.Eng.byteAt P ((P.size : Int) - 1) == 35)) true, ApS m [101, 120, 116, 114, 97, 99, 116] P [dTx t0] vZe 18, PmQ m [101, 120, 116, 114, 97, 99, 116] q0 q1 P, IsQ m (S [116, 114, 105, 109]) (S []) (vTx x2) [dTx x2], bEq (decide ((x2.size : Int) > (t0.size : Int))) false, ApS m [116, 114, 105, 109] (S []) [dTx t0] (vTx x2) 0, IsQ m (S [108, 111, 119, 101, 114]) (S []) (vTx x1) [dTx x1], bEq (decide ((x1.size : Int) > (t0.size : Int))) false, ApS m [108, 111, 119, 101, 114] (S []) [dTx t0] (vTx x1) 0, IsQ m (S [117, 112, 112, 101, 114]) (S []) (vTx x0) [dTx x0], bEq (decide ((x0.size : Int) > (t0.size : Int))) false, ApS m [117, 112, 112, 101, 114] (S []) [dTx t0] (vTx x0) 0, Go.Eng.inR ((t0.size : Int) + (t1.size : Int)), bEq (decide (((t0.size : Int) + (t1.size : Int)) ≤ 200)) false, ApS m [99, 111, 110, 99, 97, 116] (S []) [dTx t0, dTx t1] vZe 3, NvQ m c 3 j2 (vDt n), NvQ m b 1 j1 (vTx t1), NvQ m a 1 j0 (vTx t0), SQ m 10 [] (.c (cB true))]) : SQ m 6 [y8 a b c, .agg [cI q0, cI q1, cI q2]] (.c (cB true)) :=
 sQ (tO [(194, true), (353, true), (354, true), (358, true), (365, true), (366, true), (370, true), (377, true), (378, true)]) (tV [mk_ 177, mk_ 215, mk_ 229, mk_ 256, mk_ 270, mk_ 297, mk_ 311, mk_ 338, mk_ 400, mk_ 418, (195, .bool false), (240, .bool false), (281, .bool false), (322, .bool false), (349, .bool true), (355, .bool true), (361, .bool true), (367, .bool true), (373, .bool true), (379, .bool false)]) nH (T := [bR 10 (.c (cB true)), eT 21 (nvT (vTx t0) (vTx t1) (vDt n) j0 j1 j2), bV 16 (tS [(177, rE vZe 3), (215, rE (vTx x0) 0), (256, rE (vTx x1) 0), (297, rE (vTx x2) 0), (338, rE vZe 18), (400, rE (vTx w) 0)]), bR 23 (.c (cB true)), bV 12 (tS [(332, sC P), (394, sC L)])]) (by kernel_rfl) h
end Go.Proofs.YtdejnaokkdndeaaGreatDoor
namespace Go.Proofs.YtdejnaokkdndeaaGreatDoor
open Go.RowKit Go.V
open Go.Eng (inR byteAt u8 aU)
variable {g : Gv}
theorem cpO_N (y m d : Int) :
  SpG g 313 [.c (.bx 0 3)] [(0, .box 260 [cI y, cI m, cI d, .d (.v (.pointer none)), cN])] (.tup []) [(0, .box 260 [cI y, cI m, cI d, .bx 0 3, cN])] := by
 refine aL 20 Tryz.func313 (by kernel_rfl) fun fr hG => ?_
 refine zc hG [] [1] (true) aA (fun _ => ?_) (fun hc1 => absurd hc1 (by decide))
 exact zr hG [] [] (aD (show mD Tryz.prog 357 from aD0))
abbrev y16 (a0 : Int) (a1 : Int) (a2 : Int) : Ob := .box 260 [cI a0, cI a1, cI a2, .bx 0 3, .ar 1 0]
theorem cpO_1 (y m d : Int) (es : List (List D)) :
  SpG g 313 [.c (.bx 0 3)] [(0, y16 y m d), (1, .arr 0 5 1 (es))] (.tup []) [(0, y16 y m d), (1, .arr 0 5 1 (es))] := by
 refine aL 20 Tryz.func313 (by kernel_rfl) fun fr hG => ?_
 refine zc hG [] [1] (false) aA (fun hc1 => absurd hc1 (by decide)) (fun _ => ?_)
 refine zC hG [] [1, 1, 1] (false) (⟨[], [(0, y16 y m d), (1, .arr 0 5 1 (es))]⟩) aA (fun hc2 => absurd hc2 (by decide)) (fun _ => ?_)
 exact zr hG [] [] aA
theorem wrO_N (y m d : Int) (s : ByteArray) (h : s.size ≤ 1000000000000) :
  SpG g 249 [.c (.bx 0 3), .c (cS s)] [(0, .box 260 [cI y, cI m, cI d, .d (.v (.pointer none)), cN])] (.tup [(false, [cI (s.size : Int)]), (false, [.d (.v (.nilIface))])]) [(0, .box 260 [cI y, cI m, cI d, .bx 0 3, .ar 100 0]), (100, .arr 0 5 1 (bytesD s.data.toList))] := by
 refine aL 19 Tryz.func249 (by kernel_rfl) fun fr hG => ?_
 exact zr hG [(1, 1, .callG (.tup []) [0] [(0, .box 260 [cI y, cI m, cI d, .bx 0 3, cN])])] [306] (aB (cpO_N y m d : SpG g _ _ _ _ _) (aD (by intros; first | assumption | omega : (s).size ≤ 1000000000000)))
theorem wrO_1 (y m d : Int) (es : List (List D)) (s : ByteArray) (h : es.length + s.size ≤ 1000000000000) :
  SpG g 249 [.c (.bx 0 3), .c (cS s)] [(0, y16 y m d), (1, .arr 0 5 1 (es))] (.tup [(false, [cI (s.size : Int)]), (false, [.d (.v (.nilIface))])]) [(0, y16 y m d), (1, .arr 0 5 1 (es ++ bytesD s.data.toList))] := by
 refine aL 19 Tryz.func249 (by kernel_rfl) fun fr hG => ?_
 exact zr hG [(1, 1, .callG (.tup []) [0, 1] [(0, y16 y m d), (1, .arr 0 5 1 (es))])] [] (aB (cpO_1 y m d (es) : SpG g _ _ _ _ _) (aD (by intros; first | assumption | omega : (es).length + (s).size ≤ 1000000000000)))
theorem stO_ (y m d : Int) (es : List (List D)) (r : ByteArray) (h : es = bytesD r.data.toList) :
  SpG g 251 [.c (.bx 0 3)] [(0, y16 y m d), (1, .arr 0 5 1 (es))] (.c (cS r)) [(1, .arr 0 5 1 []), (0, .box 260 [cI y, cI m, cI d, .bx 0 3, .any])] := by
 refine aL 14 Tryz.func251 (by kernel_rfl) fun fr hG => ?_
 exact zr hG [(1, 10, kS (r))] [] (aB (show es = bytesD (r).data.toList from h) (aD (by intros; first | assumption | (rw [h, bG]; rfl) : (((es).length : Int) : Int) = ((r).size : Int))))
def qWs {m : Int} : Ent Tryz.prog (Gl (gT m)) where
 f := 249
 ask := fun k ins refs => match ins, refs with
  | [.c (.bx 0 3), .c (.d (.v (.string s)))], [(0, .box ⟨.c 260, none⟩ [.d (.v (.int .i64 y)), .d (.v (.int .i64 u)), .d (.v (.int .i64 d)), .d (.v (.pointer none)), .d (.v (.slice none 0 0))])] =>
   some (.tup [(false, [cI (s.size : Int)]), (false, [.d (.v .nilIface)])], [(0, .box 260 [cI y, cI u, cI d, .bx 0 3, .ar 100 0]), (100, .arr 0 5 1 (bytesD s.data.toList))], [s.size ≤ 1000000000000])
  | [.c (.bx 0 3), .c (.d (.v (.string s)))], [(0, .box ⟨.c 260, none⟩ [.d (.v (.int .i64 y)), .d (.v (.int .i64 u)), .d (.v (.int .i64 d)), .bx 0 3, .ar 1 0]), (1, .arr 0 ⟨5, []⟩ 1 es)] =>
   some (.tup [(false, [cI (s.size : Int)]), (false, [.d (.v .nilIface)])], [(0, y16 y u d), (1, .arr 0 5 1 (es ++ bytesD s.data.toList))], [es.length + s.size ≤ 1000000000000])
  | _, _ => none
 ok := by
  intro k ins refs post out cs h hc
  split at h
  cases h; exact wrO_N (g := gT m) _ _ _ _ hc
  cases h; exact wrO_1 (g := gT m) _ _ _ _ _ hc
  cases h
def qBs {m : Int} (r : ByteArray) : Ent Tryz.prog (Gl (gT m)) where
 f := 251
 ask := fun k ins refs => match ins, refs with
  | [.c (.bx 0 3)], [(0, .box ⟨.c 260, none⟩ [.d (.v (.int .i64 y)), .d (.v (.int .i64 u)), .d (.v (.int .i64 d)), .bx 0 3, .ar 1 0]), (1, .arr 0 ⟨5, []⟩ 1 es)] =>
   some (.c (cS r), [(1, .arr 0 5 1 []), (0, .box 260 [cI y, cI u, cI d, .bx 0 3, .any])], [es = bytesD r.data.toList])
  | _, _ => none
 ok := by
  intro k ins refs post out cs h hc
  split at h
  cases h; exact stO_ (g := gT m) _ _ _ _ _ hc
  cases h
end Go.Proofs.YtdejnaokkdndeaaGreatDoor
namespace Go.Proofs.YtdejnaokkdndeaaGreatDoor
open Go.RowKit Go.V
variable {m : Int}
set_option maxRecDepth 100000
def CvQ (m n y u d : Int) : Prop := SQ m 282 [.c (cI n)] (y9 y u d)
def PdQ (m v k : Int) (t : ByteArray) : Prop := SQ m 344 [.c (cI v), .c (cI k)] (sC t)
def FtQ (m : Int) (l : List UInt8) (n : Int) (r : ByteArray) : Prop := SQ m 209 [sC (S l), .c (cI n)] (y15 r)
def DgQ (m : Int) (r : ByteArray) (k v c : Int) : Prop := SQ m 286 [sC r, .c (cI k)] (y10 v c)
def CpQ (m : Int) (r p a : ByteArray) : Prop := SQ m 246 [sC r, sC p] (y15 a)
def RdQ (m : Int) (l : List UInt8) (w : ByteArray) (n : Int) : Prop := SQ m 210 [sC (S l), sC w] (y1 n)
def dgS (v c : Int) : SV := y10 v c
def cpS (a : ByteArray) : SV := y15 a
theorem fmt0 {n y u d : Int} {py pu pd r : ByteArray} (h : conj [(((((bytesD py.data.toList) ++ bytesD (S [45]).data.toList) ++ bytesD pu.data.toList) ++ bytesD (S [45]).data.toList) ++ bytesD pd.data.toList) = bytesD r.data.toList, PdQ m d 2 pd, ((((bytesD py.data.toList) ++ bytesD (S [45]).data.toList) ++ bytesD pu.data.toList) ++ bytesD (S [45]).data.toList).length + pd.size ≤ 1000000000000, (((bytesD py.data.toList) ++ bytesD (S [45]).data.toList) ++ bytesD pu.data.toList).length + (S [45]).size ≤ 1000000000000, PdQ m u 2 pu, ((bytesD py.data.toList) ++ bytesD (S [45]).data.toList).length + pu.size ≤ 1000000000000, (bytesD py.data.toList).length + (S [45]).size ≤ 1000000000000, PdQ m y 4 py, py.size ≤ 1000000000000, CvQ m n y u d]) : FtQ m [89, 89, 89, 89, 45, 77, 77, 45, 68, 68] n r :=
 sQ nO nV nH (T := [bR 282 (y9 y u d), bV 344 (tS [(969, sC py), (1241, sC pu), (1553, sC pd)]), qWs, qBs r]) (by kernel_rfl) h
theorem red0 {n y u d cy cu cd : Int} {w a0 a1 : ByteArray} (h : conj [bEq (!(w.toList == w.toList)) false, FtQ m [89, 89, 89, 89, 45, 77, 77, 45, 68, 68] n w, SQ m 287 [.c (cI y), .c (cI u), .c (cI d)] (y1 n), (0 ≤ cd ∧ cd ≤ (a1.size : Int) ∧ (a1.size : Int) ≤ (a1.size : Int)), DgQ m a1 2 d cd, CpQ m (a0.extract cu.toNat (a0.size : Int).toNat) (S [45]) a1, (0 ≤ cu ∧ cu ≤ (a0.size : Int) ∧ (a0.size : Int) ≤ (a0.size : Int)), DgQ m a0 2 u cu, CpQ m (w.extract cy.toNat (w.size : Int).toNat) (S [45]) a0, (0 ≤ cy ∧ cy ≤ (w.size : Int) ∧ (w.size : Int) ≤ (w.size : Int)), DgQ m w 4 y cy]) : RdQ m [89, 89, 89, 89, 45, 77, 77, 45, 68, 68] w n :=
 sQ (tO [(950, true), (1217, true), (1526, true)]) (tV [(1567, .bool false)]) nH (T := [bV 286 (tS [(942, dgS y cy), (1209, dgS u cu), (1518, dgS d cd)]), bV 246 (tS [(1119, cpS a0), (1382, cpS a1)]), bR 287 (y1 n), bR 209 (y15 w)]) (by kernel_rfl) h
theorem fmt1 {n y u d : Int} {py pu pd r : ByteArray} (h : conj [(((((bytesD pd.data.toList) ++ bytesD (S [46]).data.toList) ++ bytesD pu.data.toList) ++ bytesD (S [46]).data.toList) ++ bytesD py.data.toList) = bytesD r.data.toList, PdQ m y 4 py, ((((bytesD pd.data.toList) ++ bytesD (S [46]).data.toList) ++ bytesD pu.data.toList) ++ bytesD (S [46]).data.toList).length + py.size ≤ 1000000000000, (((bytesD pd.data.toList) ++ bytesD (S [46]).data.toList) ++ bytesD pu.data.toList).length + (S [46]).size ≤ 1000000000000, PdQ m u 1 pu, ((bytesD pd.data.toList) ++ bytesD (S [46]).data.toList).length + pu.size ≤ 1000000000000, (bytesD pd.data.toList).length + (S [46]).size ≤ 1000000000000, PdQ m d 1 pd, pd.size ≤ 1000000000000, CvQ m n y u d]) : FtQ m [68, 46, 77, 46, 89, 89, 89, 89] n r :=
 sQ nO nV nH (T := [bR 282 (y9 y u d), bV 344 (tS [(1145, sC pd), (1443, sC pu), (1681, sC py)]), qWs, qBs r]) (by kernel_rfl) h
theorem red1 {n y u d cy cu cd : Int} {w a0 a1 : ByteArray} (h : conj [bEq (!(w.toList == w.toList)) false, FtQ m [68, 46, 77, 46, 89, 89, 89, 89] n w, SQ m 287 [.c (cI y), .c (cI u), .c (cI d)] (y1 n), (0 ≤ cy ∧ cy ≤ (a1.size : Int) ∧ (a1.size : Int) ≤ (a1.size : Int)), DgQ m a1 4 y cy, CpQ m (a0.extract cu.toNat (a0.size : Int).toNat) (S [46]) a1, (0 ≤ cu ∧ cu ≤ (a0.size : Int) ∧ (a0.size : Int) ≤ (a0.size : Int)), DgQ m a0 2 u cu, CpQ m (w.extract cd.toNat (w.size : Int).toNat) (S [46]) a0, (0 ≤ cd ∧ cd ≤ (w.size : Int) ∧ (w.size : Int) ≤ (w.size : Int)), DgQ m w 2 d cd]) : RdQ m [68, 46, 77, 46, 89, 89, 89, 89] w n :=
 sQ (tO [(1118, true), (1413, true), (1656, true)]) (tV [(1695, .bool false)]) nH (T := [bV 286 (tS [(1110, dgS d cd), (1405, dgS u cu), (1648, dgS y cy)]), bV 246 (tS [(1289, cpS a0), (1584, cpS a1)]), bR 287 (y1 n), bR 209 (y15 w)]) (by kernel_rfl) h
theorem fmt2 {n y u d : Int} {py pu pd r : ByteArray} (h : conj [(((((bytesD py.data.toList) ++ bytesD (S [47]).data.toList) ++ bytesD pu.data.toList) ++ bytesD (S [47]).data.toList) ++ bytesD pd.data.toList) = bytesD r.data.toList, PdQ m d 1 pd, ((((bytesD py.data.toList) ++ bytesD (S [47]).data.toList) ++ bytesD pu.data.toList) ++ bytesD (S [47]).data.toList).length + pd.size ≤ 1000000000000, (((bytesD py.data.toList) ++ bytesD (S [47]).data.toList) ++ bytesD pu.data.toList).length + (S [47]).size ≤ 1000000000000, PdQ m u 1 pu, ((bytesD py.data.toList) ++ bytesD (S [47]).data.toList).length + pu.size ≤ 1000000000000, (bytesD py.data.toList).length + (S [47]).size ≤ 1000000000000, PdQ m y 4 py, py.size ≤ 1000000000000, CvQ m n y u d]) : FtQ m [89, 89, 89, 89, 47, 77, 47, 68] n r :=
 sQ nO nV nH (T := [bR 282 (y9 y u d), bV 344 (tS [(1003, sC py), (1295, sC pu), (1621, sC pd)]), qWs, qBs r]) (by kernel_rfl) h
theorem red2 {n y u d cy cu cd : Int} {w a0 a1 : ByteArray} (h : conj [bEq (!(w.toList == w.toList)) false, FtQ m [89, 89, 89, 89, 47, 77, 47, 68] n w, SQ m 287 [.c (cI y), .c (cI u), .c (cI d)] (y1 n), (0 ≤ cd ∧ cd ≤ (a1.size : Int) ∧ (a1.size : Int) ≤ (a1.size : Int)), DgQ m a1 2 d cd, CpQ m (a0.extract cu.toNat (a0.size : Int).toNat) (S [47]) a1, (0 ≤ cu ∧ cu ≤ (a0.size : Int) ∧ (a0.size : Int) ≤ (a0.size : Int)), DgQ m a0 2 u cu, CpQ m (w.extract cy.toNat (w.size : Int).toNat) (S [47]) a0, (0 ≤ cy ∧ cy ≤ (w.size : Int) ∧ (w.size : Int) ≤ (w.size : Int)), DgQ m w 4 y cy]) : RdQ m [89, 89, 89, 89, 47, 77, 47, 68] w n :=
 sQ (tO [(984, true), (1271, true), (1594, true)]) (tV [(1635, .bool false)]) nH (T := [bV 286 (tS [(976, dgS y cy), (1263, dgS u cu), (1586, dgS d cd)]), bV 246 (tS [(1153, cpS a0), (1436, cpS a1)]), bR 287 (y1 n), bR 209 (y15 w)]) (by kernel_rfl) h
theorem fmt3 {n y u d : Int} {py pu pd r : ByteArray} (h : conj [(((bytesD pd.data.toList) ++ bytesD pu.data.toList) ++ bytesD py.data.toList) = bytesD r.data.toList, PdQ m y 4 py, ((bytesD pd.data.toList) ++ bytesD pu.data.toList).length + py.size ≤ 1000000000000, PdQ m u 2 pu, (bytesD pd.data.toList).length + pu.size ≤ 1000000000000, PdQ m d 2 pd, pd.size ≤ 1000000000000, CvQ m n y u d]) : FtQ m [68, 68, 77, 77, 89, 89, 89, 89] n r :=
 sQ nO nV nH (T := [bR 282 (y9 y u d), bV 344 (tS [(663, sC pd), (766, sC pu), (835, sC py)]), qWs, qBs r]) (by kernel_rfl) h
theorem red3 {n y u d cy cu cd : Int} {w a0 a1 : ByteArray} (h : conj [bEq (!(w.toList == w.toList)) false, FtQ m [68, 68, 77, 77, 89, 89, 89, 89] n w, SQ m 287 [.c (cI y), .c (cI u), .c (cI d)] (y1 n), (0 ≤ cy ∧ cy ≤ (((w.extract cd.toNat (w.size : Int).toNat).extract cu.toNat ((w.extract cd.toNat (w.size : Int).toNat).size : Int).toNat).size : Int) ∧ (((w.extract cd.toNat (w.size : Int).toNat).extract cu.toNat ((w.extract cd.toNat (w.size : Int).toNat).size : Int).toNat).size : Int) ≤ (((w.extract cd.toNat (w.size : Int).toNat).extract cu.toNat ((w.extract cd.toNat (w.size : Int).toNat).size : Int).toNat).size : Int)), DgQ m ((w.extract cd.toNat (w.size : Int).toNat).extract cu.toNat ((w.extract cd.toNat (w.size : Int).toNat).size : Int).toNat) 4 y cy, (0 ≤ cu ∧ cu ≤ ((w.extract cd.toNat (w.size : Int).toNat).size : Int) ∧ ((w.extract cd.toNat (w.size : Int).toNat).size : Int) ≤ ((w.extract cd.toNat (w.size : Int).toNat).size : Int)), DgQ m (w.extract cd.toNat (w.size : Int).toNat) 2 u cu, (0 ≤ cd ∧ cd ≤ (w.size : Int) ∧ (w.size : Int) ≤ (w.size : Int)), DgQ m w 2 d cd]) : RdQ m [68, 68, 77, 77, 89, 89, 89, 89] w n :=
 sQ (tO [(636, true), (735, true), (808, true)]) (tV [(847, .bool false)]) nH (T := [bV 286 (tS [(628, dgS d cd), (727, dgS u cu), (800, dgS y cy)]), bV 246 (tS []), bR 287 (y1 n), bR 209 (y15 w)]) (by kernel_rfl) h
end Go.Proofs.YtdejnaokkdndeaaGreatDoor
namespace Go.Proofs.YtdejnaokkdndeaaGreatDoor
open Go.RowKit Go.V
open Go.Eng (inR byteAt u8 aU)
variable {g : Gv}
theorem aD1 (n : Int) (h : n ≤ 99999) : (eI n.toNat).length ≤ 5 := wW (by omega) (by decide)
theorem padded_ (n k : Int) (h0 : 0 ≤ n) (h1 : n ≤ 99999) (hk0 : 0 ≤ k) (hk : k ≤ 5) :
  SpG g 344 [.c (cI n), .c (cI k)] [] (.c (cS (S (fW n k)))) [] := by
 have hl := aD1 n h1
 refine aL 16 Tryz.func344 (by kernel_rfl) fun fr hG => ?_
 refine zR hG [(1, 1, kS (S (eI (n : Int).toNat))), (2, 5, kS (S (List.replicate ((if (0 : Int) > (k - ((S (eI (n : Int).toNat)).size : Int)) then 0 else (k - ((S (eI (n : Int).toNat)).size : Int))) : Int).toNat 48)))] [] (.c (cS ((S (List.replicate ((if (0 : Int) > (k - ((S (eI (n : Int).toNat)).size : Int)) then 0 else (k - ((S (eI (n : Int).toNat)).size : Int))) : Int).toNat 48)) ++ (S (eI (n : Int).toNat))))) [] (aB (aB3 (n) (by omega) (by omega) : SpG g _ _ _ _ _) (aB (by intros; (try simp only [inR, aJ, n8, maxLen, List.length_append, List.length_replicate] at *); omega : inR (k - ((S (eI (n : Int).toNat)).size : Int))) (aB (aDJ (if (0 : Int) > (k - ((S (eI (n : Int).toNat)).size : Int)) then 0 else (k - ((S (eI (n : Int).toNat)).size : Int))) (by (try simp only [aJ] at *); omega) (by (try simp only [aJ] at *); omega) : SpG g _ _ _ _ _) (aD (by intros; (try simp only [inR, aJ, n8, maxLen, List.length_append, List.length_replicate] at *); omega : (S (List.replicate ((if (0 : Int) > (k - ((S (eI (n : Int).toNat)).size : Int)) then 0 else (k - ((S (eI (n : Int).toNat)).size : Int))) : Int).toNat 48)).size + (S (eI (n : Int).toNat)).size ≤ maxLen))))) ?_ ?_
 have e : ((if ((0 : Int) : Int) > (k - ((S (eI (n : Int).toNat)).size : Int)) then 0 else (k - ((S (eI (n : Int).toNat)).size : Int))) : Int).toNat = k.toNat - (eI n.toNat).length := by rw [aJ]; split <;> omega
 rw [n8, e]; rfl
 rfl
theorem aDT (n k : Int) (h0 : 0 ≤ n) (h1 : n ≤ 99999) (hk0 : 0 ≤ k) (hk : k ≤ 5) : SpG g 344 [.c (cI n), .c (cI k)] [] (.c (cS (S (fW n k)))) [] := padded_ n k h0 h1 hk0 hk
def ldN : Nat → List UInt8 → Nat
 | 0, _ => 0
 | _ + 1, [] => 0
 | k + 1, c :: r => if cL c then ldN k r + 1 else 0
theorem aB0 (k : Nat) : ldN k [] = 0 := by cases k <;> rfl
theorem aHK {k i : Nat} {l : List UInt8} (hi : i < l.length) (hk : i < k) (hd : cL (l.getD i 0) = true) : ldN (k - i) (l.drop i) = ldN (k - (i + 1)) (l.drop (i + 1)) + 1 := by
 have e : l.drop i = l.getD i 0 :: l.drop (i + 1) := by
  rw [List.getD_eq_getElem?_getD, List.getElem?_eq_getElem hi]; exact List.drop_eq_getElem_cons hi
 rw [e, show k - i = (k - (i + 1)) + 1 by omega, ldN, if_pos hd]
theorem aHJ {k i : Nat} {l : List UInt8} (h : l.length ≤ i ∨ k ≤ i ∨ ¬ cL (l.getD i 0) = true) : ldN (k - i) (l.drop i) = 0 := by
 rcases h with h | h | h
 rw [List.drop_eq_nil_iff.2 h, aB0]
 rw [show k - i = 0 by omega]; rfl
 rcases Nat.lt_or_ge i l.length with hi | hi
 have e : l.drop i = l.getD i 0 :: l.drop (i + 1) := by
  rw [List.getD_eq_getElem?_getD, List.getElem?_eq_getElem hi]; exact List.drop_eq_getElem_cons hi
 rw [e]
 cases k - i with
 | zero => rfl
 | succ j => rw [ldN, if_neg h]
 rw [List.drop_eq_nil_iff.2 hi, aB0]
def dgC (s : ByteArray) (k : Nat) : Int := ldN k s.data.toList
def dgV (s : ByteArray) (k : Nat) : Int := jI (s.data.toList.take (ldN k s.data.toList))
theorem atdig {w : List UInt8} {i : Nat} : cL (w.getD i 0) = decide (48 ≤ byteAt (S w) (i : Int) ∧ byteAt (S w) (i : Int) ≤ 57) := by
 have e := dF w (i : Int)
 rw [Int.toNat_natCast] at e
 rw [e, cL]
 apply Bool.eq_iff_iff.2
 simp only [Bool.and_eq_true, decide_eq_true_eq]; omega
theorem aIG (l : List UInt8) (k : Nat) (hk : k ≤ 5) (hl : l.length < 4294967281) :
  SpG g 286 [.c (cS (S l)), .c (cI (k : Int))] [] (y10 (jI (l.take (ldN k l))) (ldN k l)) [] := by
 refine aL 36 Tryz.func286 (by kernel_rfl) fun fr hG => ?_
 refine zL hG [] [0, 0, 1] (fun (zz : Nat × Int) => match zz with | (i, v) => (l.length - i, ⟨[zS 0 (S l), zI 1 (k : Int), zI 4 v, zI 5 (i : Int)], []⟩, i ≤ l.length ∧ i ≤ k ∧ (l.take i).all cL = true ∧ v = (jI (l.take i) : Int) ∧ ldN k l = i + ldN (k - i) (l.drop i))) (0, 0) aA ?_ ?_
 exact ⟨Nat.zero_le _, Nat.zero_le _, rfl, rfl, by simp⟩
 rintro ⟨i, v⟩ ⟨hi, hik, hd, hv, hn⟩
 have hdl := dval_lt hd
 rw [List.length_take, Nat.min_eq_left hi] at hdl
 have hp : 10 ^ i ≤ 10 ^ 5 := Nat.pow_le_pow_right (by decide) (by omega)
 have hcl : ∀ b : UInt8, cL b = true → 0 ≤ (b.toNat : Int) - 48 ∧ b.toNat - 48 ≤ 9 := by intro b hb; simp only [cL, Bool.and_eq_true, decide_eq_true_eq] at hb; omega
 refine zc hG [] [1, 0] (((decide (((i : Int) : Int) < (if ((k : Int) : Int) < ((S l).size : Int) then (k : Int) else ((S l).size : Int)))) && (decide ((byteAt (S l) (i : Int) : Int) ≥ 48))) && (decide ((byteAt (S l) (i : Int) : Int) ≤ 57))) (aB (by intros; (try simp only [tG, Bool.and_eq_true] at *); first | omega | decide | (simp only [inR] at *; omega) | (split at * <;> first | omega | (simp only [inR] at *; omega)) : (decide (((i : Int) : Int) < (if ((k : Int) : Int) < ((S l).size : Int) then (k : Int) else ((S l).size : Int)))) = true → (0 : Int) ≤ (i : Int) ∧ (i : Int) < ((S l).size : Int)) (aD (by intros; (try simp only [tG, Bool.and_eq_true] at *); first | omega | decide | (simp only [inR] at *; omega) | (split at * <;> first | omega | (simp only [inR] at *; omega)) : ((decide (((i : Int) : Int) < (if ((k : Int) : Int) < ((S l).size : Int) then (k : Int) else ((S l).size : Int)))) && (decide ((byteAt (S l) (i : Int) : Int) ≥ 48))) = true → (0 : Int) ≤ (i : Int) ∧ (i : Int) < ((S l).size : Int)))) (fun hc2 => ?_) (fun hc2 => ?_)
 (try simp only [k4] at hc2)
 have hmn : i < l.length ∧ i < k := by have := hc2.1.1; split at this <;> omega
 obtain ⟨q1, q2⟩ := aHQ (l := l) (k := i) (by omega) (by omega)
 have q3 := hcl _ q1
 refine zD hG [] (i + 1, v * 10 + IntKind.wrap .i64 (IntKind.wrap .u8 (byteAt (S l) (i : Int) - 48))) (aB (by intros; (try simp only [tG, Bool.and_eq_true] at *); first | omega | decide | (simp only [inR] at *; omega) | (split at * <;> first | omega | (simp only [inR] at *; omega)) : inR (v * 10)) (aB (by intros; (try simp only [tG, Bool.and_eq_true] at *); first | omega | decide | (simp only [inR] at *; omega) | (split at * <;> first | omega | (simp only [inR] at *; omega)) : (0 : Int) ≤ (i : Int) ∧ (i : Int) < ((S l).size : Int)) (aB (by intros; (try simp only [tG, Bool.and_eq_true] at *); first | omega | decide | (simp only [inR] at *; omega) | (split at * <;> first | omega | (simp only [inR] at *; omega)) : inR ((v * 10) + (IntKind.wrap .i64 (IntKind.wrap .u8 ((byteAt (S l) (i : Int)) - 48))))) (aD (by intros; (try simp only [tG, Bool.and_eq_true] at *); first | omega | decide | (simp only [inR] at *; omega) | (split at * <;> first | omega | (simp only [inR] at *; omega)) : inR ((i : Int) + 1)))))) ?_ ?_
 (try dsimp only); omega
 refine ⟨by omega, by omega, aJB (by omega) hd q1, ?_, ?_⟩
 rw [q2, aEQ (by omega), hv]; push_cast; omega
 rw [hn, aHK (by omega) (by omega) q1]; omega
 (try simp only [k4] at hc2)
 refine zE hG [] (.exit 0) (⟨[zI 4 v, zI 5 (i : Int)], []⟩) aA rfl ?_
 refine zR hG [] [] (y10 v (i : Int)) [] aA ?_ ?_
 have hz : ldN (k - i) (l.drop i) = 0 := aHJ (by
  rcases Nat.lt_or_ge i l.length with h1 | h1
  rcases Nat.lt_or_ge i k with h2 | h2
  right; right; intro hd2
  rw [atdig, decide_eq_true_eq] at hd2
  rcases hc2 with (h | h) | h
  split at h <;> omega
  omega
  omega
  exact .inr (.inl h2)
  exact .inl h1)
 rw [hz, Nat.add_zero] at hn
 rw [hn, hv]
 rfl
theorem aET (s : ByteArray) (k : Nat) (hk : k ≤ 5) (hl : s.size < 4294967281) : SpG g 286 [.c (cS s), .c (cI (k : Int))] [] (y10 (dgV s k) (dgC s k)) [] := by
 have := aIG (g := g) s.data.toList k hk (by have := aJ s.data.toList; rw [S_eta] at this; omega)
 rw [S_eta] at this; exact this
theorem aC4 (y m d : Int) :
  SpG g 347 [.c (cI y), .c (cI m), .c (cI d)] [] (.c (cB (mE y m d))) [] := by
 refine aL 30 Tryz.func347 (by kernel_rfl) fun fr hG => ?_
 refine zC hG [] [1, 0, 1] ((((decide ((y : Int) < 1)) || (decide ((y : Int) > 9999))) || (decide ((m : Int) < 1))) || (decide ((m : Int) > 12))) (⟨[zI 0 y, zI 1 m, zI 2 d, zB 6 false], []⟩) aA (fun hc1 => ?_) (fun hc1 => ?_)
 (try simp only [blS] at hc1)
 refine zR hG [] [] (.c (cB false)) [] aA ?_ ?_
 ·first | rfl | (show SV.c (C.d (D.b _)) = SV.c (C.d (D.b _)); congr 3; simp only [mE]; rw [Bool.eq_iff_iff]; simp; done) | (show SV.c (C.d (D.b _)) = SV.c (C.d (D.b _)); congr 3; simp only [mE]; rw [Bool.eq_iff_iff]; simp; omega)
 rfl
 (try simp only [blS] at hc1)
 refine zR hG [(3, 6, kI (fY y m))] [] (.c (cB ((decide ((d : Int) ≥ 1)) && (decide ((d : Int) ≤ (fY y m)))))) [] (aD (fun (hg1 : (decide ((d : Int) ≥ 1)) = true) => (l6 y m (by omega) (by omega) (by omega) : SpG g _ _ _ _ _))) ?_ ?_
 ·first | rfl | (show SV.c (C.d (D.b _)) = SV.c (C.d (D.b _)); congr 3; simp only [mE]; rw [Bool.eq_iff_iff]; simp; done) | (show SV.c (C.d (D.b _)) = SV.c (C.d (D.b _)); congr 3; simp only [mE]; rw [Bool.eq_iff_iff]; simp; omega)
 rfl
theorem z1 (y m d : Int) (h1 : 1 ≤ y) (h2 : y ≤ 9999) (h3 : 1 ≤ m) (h4 : m ≤ 12) (h5 : 1 ≤ d) (h6 : d ≤ 31) :
  SpG g 348 [.c (cI y), .c (cI m), .c (cI d)] [] (.c (cI (iU y m d))) [] := by
 have hdb := aAY y h1 (by omega)
 refine aL 25 Tryz.func348 (by kernel_rfl) fun fr hG => ?_
 refine zL hG [(1, 1, kI (dby y))] [0, 1, 0, 1, 1] (fun (zz : Int × Int) => match zz with | (t, k) => ((m - k).toNat, ⟨[zI 0 y, zI 1 m, zI 6 0, zI 7 t, zI 8 k], []⟩, 1 ≤ k ∧ k ≤ m ∧ t = dby y + d - 1 + cum y k)) (dby y + d - 1, 1) (aB (kY y (by omega) (by omega) : SpG g _ _ _ _ _) (aB (by intros; first | omega | decide | (simp only [zq0] at *; omega) : inR ((dby y) + d)) (aD (by intros; first | omega | decide | (simp only [zq0] at *; omega) : inR (((dby y) + d) - 1))))) ?_ ?_
 exact ⟨by omega, by omega, by rw [aCI]; omega⟩
 rintro ⟨t, k⟩ ⟨hk1, hk2, ht⟩
 have hcb := aAZ y k hk1 (by omega)
 have hdl := lZ y k
 have hcs := fK y k hk1
 refine zp hG [] [1, 0] ((k : Int) < m) aA (fun hc2 => ?_) (fun hc2 => ?_)
 skip
 refine zD hG [(5, 3, kI (fY y k))] (t + fY y k, k + 1) (aB (l6 y k (by omega) (by omega) (by omega) : SpG g _ _ _ _ _) (aB (by intros; first | omega | decide | (simp only [zq0] at *; omega) : inR (t + (fY y k))) (aD (by intros; first | omega | decide | (simp only [zq0] at *; omega) : inR (k + 1))))) ?_ ?_
 (try dsimp only); omega
 exact ⟨by omega, by omega, by omega⟩
 skip
 refine zE hG [] (.exit 0) (⟨[zI 6 0, zI 7 t], []⟩) aA rfl ?_
 refine zR hG [] [] (.c (cI t)) [] aA ?_ ?_
 obtain rfl : k = m := by omega
 rw [ht]; rfl
 rfl
theorem xP (y m d : Int) :
  SpG g 287 [.c (cI y), .c (cI m), .c (cI d)] [] (y0 (if mE y m d then iU y m d else 0) (mE y m d)) [] := by
 refine aL 17 Tryz.func287 (by kernel_rfl) fun fr hG => ?_
 refine zC hG [(1, 3, kB (mE y m d))] [1, 0, 1] (!(mE y m d)) (⟨[zI 0 y, zI 1 m, zI 2 d, zI 6 0, zB 7 false], []⟩) (aD (aC4 y m d : SpG g _ _ _ _ _)) (fun hc1 => ?_) (fun hc1 => ?_)
 (try simp only [blS] at hc1)
 refine zR hG [] [] (.tup [(false, [cI 0]), (false, [cB false])]) [] aA ?_ ?_
 rw [hc1]; rfl
 rfl
 (try simp only [blS] at hc1)
 have hv := vld_of hc1
 have hdl := lZ y m
 refine zR hG [(3, 3, kI (iU y m d))] [] (y1 (iU y m d)) [] (aD (z1 y m d hv.1 hv.2.1 hv.2.2.1 hv.2.2.2.1 hv.2.2.2.2.1 (by have := hv.2.2.2.2.2; omega) : SpG g _ _ _ _ _)) ?_ ?_
 rw [hc1]; rfl
 rfl
end Go.Proofs.YtdejnaokkdndeaaGreatDoor
namespace Go.Proofs.YtdejnaokkdndeaaGreatDoor
open Go.RowKit Go.V
open Go.Eng (inR byteAt u8 aU)
variable {m : Int}
theorem w7 : ∀ {k : Nat} {l r : List UInt8}, l.all cL = true → l.length ≤ k → (l.length = k ∨ r = [] ∨ ∃ c r', r = c :: r' ∧ cL c = false) → ldN k (l ++ r) = l.length
 | 0, [], r, _, _, _ => rfl
 | 0, c :: l, r, _, h, _ => by simp at h
 | k + 1, [], r, _, _, h => by
  rcases h with h | rfl | ⟨c, r', rfl, hc⟩
  simp at h
  rfl
  rw [List.nil_append, ldN, if_neg (by simp [hc])]; rfl
 | k + 1, c :: l, r, h, hl, hr => by
  rw [List.all_cons, Bool.and_eq_true] at h
  rw [List.cons_append, ldN, if_pos h.1, w7 h.2 (by simpa using hl) (by simpa using hr)]
  rfl
theorem S_len (l : List UInt8) : ((S l).size : Int) = (l.length : Int) := by rw [aJ]
theorem dY {X R : List UInt8} {k : Nat} {v : Int} {r : ByteArray} (hr : r = S (X ++ R)) (hd : X.all cL = true) (hle : X.length ≤ k) (hst : X.length = k ∨ R = [] ∨ ∃ c r', R = c :: r' ∧ cL c = false) (hk : k ≤ 5) (hv : (jI X : Int) = v) (hsz : (X ++ R).length < 1000) :
  DgQ m r (k : Int) v (X.length : Int) ∧ (0 ≤ (X.length : Int) ∧ (X.length : Int) ≤ (r.size : Int) ∧ (r.size : Int) ≤ (r.size : Int)) ∧ r.extract ((X.length : Int)).toNat ((r.size : Int)).toNat = S R := by
 subst hr
 have e := w7 hd hle hst
 refine ⟨?_, ?_, ?_⟩
 have h := aET (g := gT m) (S (X ++ R)) k hk (by rw [aJ]; omega)
 have h1 : dgC (S (X ++ R)) k = (X.length : Int) := by unfold dgC; rw [fD, e]
 have h2 : dgV (S (X ++ R)) k = v := by unfold dgV; rw [fD, e, ← hv]; simp
 rw [h1, h2] at h
 exact h
 rw [S_len, List.length_append]; omega
 rw [Int.toNat_natCast, Int.toNat_natCast, aA9]; simp
theorem j6 {c : UInt8} {R : List UInt8} {r : ByteArray} (hr : r = S (c :: R)) : CpQ m r (S [c]) (S R) := by
 subst hr
 have h := vB (g := gT m) (c :: R) [c]
 have h1 : Lib.hasPrefix (c :: R) [c] = true := by simp [Lib.hasPrefix]
 have h2 : Lib.trimPrefix (c :: R) [c] = R := by rw [Lib.trimPrefix, h1]; rfl
 rw [h1, h2] at h
 exact h
theorem lK {n : Int} {k j : Nat} (h0 : 1 ≤ n) (h1 : n < 10 ^ j) (hk : 1 ≤ k) (hkj : k ≤ j) (hj : j ≤ 4) : (fW n k).all cL = true ∧ (jI (fW n k) : Int) = n ∧ k ≤ (fW n k).length ∧ (fW n k).length ≤ j := by
 have hl : (eI n.toNat).length ≤ j := wW (by
  have : ((n.toNat : Nat) : Int) < ((10 ^ j : Nat) : Int) := by
   rw [Int.toNat_of_nonneg (by omega)]; push_cast; exact h1
  exact_mod_cast this) (by omega)
 obtain ⟨v1, v2⟩ := aG0 n.toNat
 refine ⟨?_, ?_, ?_, ?_⟩
 unfold fW
 rw [List.all_append, v2, Bool.and_true, List.all_replicate]
 simp [cL]
 unfold fW
 rw [qL, v1]; omega
 unfold fW
 rw [List.length_append, List.length_replicate]; omega
 unfold fW
 rw [List.length_append, List.length_replicate]; omega
theorem aGL {v : Int} {k : Nat} (h0 : 0 ≤ v) (h1 : v ≤ 99999) (hk : k ≤ 5) : PdQ m v (k : Int) (S (fW v k)) := aDT (g := gT m) v k h0 h1 (by omega) (by omega)
def dtq (q : Nat) (Y U U' E E' : List UInt8) : List UInt8 := match q with
 | 0 => Y ++ 45 :: (U ++ 45 :: E)
 | 1 => E' ++ 46 :: (U' ++ 46 :: Y)
 | 2 => Y ++ 47 :: (U' ++ 47 :: E')
 | _ => E ++ (U ++ Y)
noncomputable def dtx (q : Nat) (n : Int) : List UInt8 := dtq q (fW (civ n).1 4) (fW (civ n).2.1 2) (fW (civ n).2.1 1) (fW (civ n).2.2 2) (fW (civ n).2.2 1)
theorem l9 (w : ByteArray) : bEq (!(w.toList == w.toList)) false := by simp [bEq]
theorem fP {l : List UInt8} (h : l.all cL = true) : l.all aR = true := List.all_eq_true.2 fun c hc => by
 have := List.all_eq_true.1 h c hc
 simp only [cL, aR, Bool.and_eq_true, decide_eq_true_eq] at *
 omega
theorem lay_ok {n : Int} (h0 : 0 ≤ n) (h1 : n ≤ 3652058) : ∀ q, q < 4 → FtQ m (lay4.getD q []) n (S (dtx q n)) ∧ RdQ m (lay4.getD q []) (S (dtx q n)) n ∧ (dtx q n).length ≤ 20 ∧ (dtx q n).all aR = true := by
 simp only [dtx]
 obtain ⟨a1, a2, a3, a4, a5, a6⟩ := civ_bd h0 h1
 obtain ⟨b1, b2⟩ := xV h0 h1
 have hC : CvQ m n (civ n).1 (civ n).2.1 (civ n).2.2 := aIS (g := gT m) n h0 h1
 have hN : SQ m 287 [.c (.d (.i (civ n).1)), .c (.d (.i (civ n).2.1)), .c (.d (.i (civ n).2.2))] (y1 n) := by
  have h := xP (g := gT m) (civ n).1 (civ n).2.1 (civ n).2.2
  rw [vld_mk b1, if_pos rfl, b2] at h
  exact h
 generalize hy : (civ n).1 = y at *
 generalize hu : (civ n).2.1 = u at *
 generalize hd : (civ n).2.2 = d at *
 obtain ⟨y1, y2, y3, y4⟩ := lK (n := y) (k := 4) (j := 4) a1 (by omega) (by decide) (by decide) (by decide)
 obtain ⟨u1, u2, u3, u4⟩ := lK (n := u) (k := 2) (j := 2) a3 (by omega) (by decide) (by decide) (by decide)
 obtain ⟨v1, v2, v3, v4⟩ := lK (n := u) (k := 1) (j := 2) a3 (by omega) (by decide) (by decide) (by decide)
 obtain ⟨d1, d2, d3, d4⟩ := lK (n := d) (k := 2) (j := 2) a5 (by omega) (by decide) (by decide) (by decide)
 obtain ⟨e1, e2, e3, e4⟩ := lK (n := d) (k := 1) (j := 2) a5 (by omega) (by decide) (by decide) (by decide)
 have p4 : PdQ m y 4 (S (fW y 4)) := aGL (k := 4) (by omega) (by omega) (by decide)
 have p2 : ∀ x, 1 ≤ x → x ≤ 31 → PdQ m x 2 (S (fW x 2)) := fun x h h' => aGL (k := 2) (by omega) (by omega) (by decide)
 have p1 : ∀ x, 1 ≤ x → x ≤ 31 → PdQ m x 1 (S (fW x 1)) := fun x h h' => aGL (k := 1) (by omega) (by omega) (by decide)
 have pu2 := p2 u (by omega) (by omega)
 have pd2 := p2 d (by omega) (by omega)
 have pu1 := p1 u (by omega) (by omega)
 have pd1 := p1 d (by omega) (by omega)
 clear p1 p2
 generalize fW y 4 = Y at *
 generalize fW u 2 = U at *
 generalize fW u 1 = U' at *
 generalize fW d 2 = E at *
 generalize fW d 1 = E' at *
 intro q hq
 have hq' : q = 0 ∨ q = 1 ∨ q = 2 ∨ q = 3 := by omega
 rcases hq' with rfl | rfl | rfl | rfl <;> simp only [dtq]
 have f : FtQ m (lay4.getD 0 []) n (S (Y ++ 45 :: (U ++ 45 :: E))) := fmt0 (y := y) (u := u) (d := d) (py := S Y) (pu := S U) (pd := S E) ⟨by simp [fD, iM, bytesD], pd2, by simp [fD, bytesD, aJ]; omega, by simp [fD, bytesD, aJ]; omega, pu2, by simp [fD, bytesD, aJ]; omega, by simp [fD, bytesD, aJ]; omega, p4, by rw [aJ]; omega, hC⟩
 obtain ⟨g1, g2, g3⟩ := dY (m := m) (r := S (Y ++ 45 :: (U ++ 45 :: E))) (k := 4) rfl y1 (by omega) (.inl (by omega)) (by decide) y2 (by simp; omega)
 have c1 := j6 (m := m) g3
 obtain ⟨k1, k2, k3⟩ := dY (m := m) (r := S (U ++ 45 :: E)) (k := 2) rfl u1 (by omega) (.inl (by omega)) (by decide) u2 (by simp; omega)
 have c2 := j6 (m := m) k3
 obtain ⟨l1, l2, l3⟩ := dY (m := m) (X := E) (R := []) (r := S E) (k := 2) (by rw [List.append_nil]) d1 (by omega) (.inl (by omega)) (by decide) d2 (by simp; omega)
 exact ⟨f, red0 (a0 := S (U ++ 45 :: E)) (a1 := S E) ⟨l9 _, f, hN, l2, l1, c2, k2, k1, c1, g2, g1⟩, by simp; omega, by simp [List.all_append, fP y1, fP u1, fP d1, aR]⟩
 have f : FtQ m (lay4.getD 1 []) n (S (E' ++ 46 :: (U' ++ 46 :: Y))) := fmt1 (y := y) (u := u) (d := d) (py := S Y) (pu := S U') (pd := S E') ⟨by simp [fD, iM, bytesD], p4, by simp [fD, bytesD, aJ]; omega, by simp [fD, bytesD, aJ]; omega, pu1, by simp [fD, bytesD, aJ]; omega, by simp [fD, bytesD, aJ]; omega, pd1, by rw [aJ]; omega, hC⟩
 obtain ⟨g1, g2, g3⟩ := dY (m := m) (r := S (E' ++ 46 :: (U' ++ 46 :: Y))) (k := 2) rfl e1 (by omega) (.inr (.inr ⟨_, _, rfl, by decide⟩)) (by decide) e2 (by simp; omega)
 have c1 := j6 (m := m) g3
 obtain ⟨k1, k2, k3⟩ := dY (m := m) (r := S (U' ++ 46 :: Y)) (k := 2) rfl v1 (by omega) (.inr (.inr ⟨_, _, rfl, by decide⟩)) (by decide) v2 (by simp; omega)
 have c2 := j6 (m := m) k3
 obtain ⟨l1, l2, l3⟩ := dY (m := m) (X := Y) (R := []) (r := S Y) (k := 4) (by rw [List.append_nil]) y1 (by omega) (.inl (by omega)) (by decide) y2 (by simp; omega)
 exact ⟨f, red1 (a0 := S (U' ++ 46 :: Y)) (a1 := S Y) ⟨l9 _, f, hN, l2, l1, c2, k2, k1, c1, g2, g1⟩, by simp; omega, by simp [List.all_append, fP y1, fP v1, fP e1, aR]⟩
 have f : FtQ m (lay4.getD 2 []) n (S (Y ++ 47 :: (U' ++ 47 :: E'))) := fmt2 (y := y) (u := u) (d := d) (py := S Y) (pu := S U') (pd := S E') ⟨by simp [fD, iM, bytesD], pd1, by simp [fD, bytesD, aJ]; omega, by simp [fD, bytesD, aJ]; omega, pu1, by simp [fD, bytesD, aJ]; omega, by simp [fD, bytesD, aJ]; omega, p4, by rw [aJ]; omega, hC⟩
 obtain ⟨g1, g2, g3⟩ := dY (m := m) (r := S (Y ++ 47 :: (U' ++ 47 :: E'))) (k := 4) rfl y1 (by omega) (.inl (by omega)) (by decide) y2 (by simp; omega)
 have c1 := j6 (m := m) g3
 obtain ⟨k1, k2, k3⟩ := dY (m := m) (r := S (U' ++ 47 :: E')) (k := 2) rfl v1 (by omega) (.inr (.inr ⟨_, _, rfl, by decide⟩)) (by decide) v2 (by simp; omega)
 have c2 := j6 (m := m) k3
 obtain ⟨l1, l2, l3⟩ := dY (m := m) (X := E') (R := []) (r := S E') (k := 2) (by rw [List.append_nil]) e1 (by omega) (.inr (.inl rfl)) (by decide) e2 (by simp; omega)
 exact ⟨f, red2 (a0 := S (U' ++ 47 :: E')) (a1 := S E') ⟨l9 _, f, hN, l2, l1, c2, k2, k1, c1, g2, g1⟩, by simp; omega, by simp [List.all_append, fP y1, fP v1, fP e1, aR]⟩
 have f : FtQ m (lay4.getD 3 []) n (S (E ++ (U ++ Y))) := fmt3 (y := y) (u := u) (d := d) (py := S Y) (pu := S U) (pd := S E) ⟨by simp [fD, iM, bytesD], p4, by simp [fD, bytesD, aJ]; omega, pu2, by simp [fD, bytesD, aJ]; omega, pd2, by rw [aJ]; omega, hC⟩
 obtain ⟨g1, g2, g3⟩ := dY (m := m) (r := S (E ++ (U ++ Y))) (k := 2) rfl d1 (by omega) (.inl (by omega)) (by decide) d2 (by simp; omega)
 obtain ⟨k1, k2, k3⟩ := dY (m := m) (r := (S (E ++ (U ++ Y))).extract ((E.length : Int)).toNat (((S (E ++ (U ++ Y))).size : Int)).toNat) (k := 2) g3 u1 (by omega) (.inl (by omega)) (by decide) u2 (by simp; omega)
 obtain ⟨l1, l2, l3⟩ := dY (m := m) (X := Y) (R := []) (k := 4) (k3.trans (by rw [List.append_nil])) y1 (by omega) (.inl (by omega)) (by decide) y2 (by simp; omega)
 exact ⟨f, red3 (a0 := S []) (a1 := S []) ⟨l9 _, f, hN, l2, l1, k2, k1, g2, g1⟩, by simp; omega, by simp [List.all_append, fP y1, fP u1, fP d1, aR]⟩
end Go.Proofs.YtdejnaokkdndeaaGreatDoor
namespace Go.Proofs.YtdejnaokkdndeaaGreatDoor
open Go.RowKit Go.V
open Go.Eng (inR byteAt u8 aU)
variable {g : Gv}
def mdQ (a n : Int) : Int := if a.tmod n < 0 then a.tmod n + n else a.tmod n
theorem aG9 {a n : Int} (h : 1 ≤ n) : 0 ≤ mdQ a n ∧ mdQ a n < n := by
 have := lB (x := a) h
 unfold mdQ
 split <;> omega
theorem modQ_ok (a n : Int) (hn : 1 ≤ n) (hb : n ≤ 1000000) :
  SpG g 36 [.c (cI a), .c (cI n)] [] (.c (cI (mdQ a n))) [] := by
 have e6 := lB (x := a) hn
 refine aL 15 Tryz.func36 (by kernel_rfl) fun fr hG => ?_
 refine zP hG [] [1, 0, 1, 1] ((Int.tmod a n : Int) < 0) (⟨[zI 1 n, zI 4 0, zI 5 (Int.tmod a n)], []⟩) (aD (by intros; (try simp only [inR, true_and, and_true] at *); first | decide | omega : n ≠ (0 : Int))) (fun hc1 => ?_) (fun hc1 => ?_)
 skip
 refine zR hG [] [] (.c (cI ((Int.tmod a n) + n))) [] (aD (by intros; (try simp only [inR, true_and, and_true] at *); first | decide | omega : inR ((Int.tmod a n) + n))) ?_ ?_
 unfold mdQ; (repeat (first | rw [if_pos (by omega)] | rw [if_neg (by omega)]))
 rfl
 skip
 refine zR hG [] [] (.c (cI (Int.tmod a n))) [] aA ?_ ?_
 unfold mdQ; (repeat (first | rw [if_pos (by omega)] | rw [if_neg (by omega)]))
 rfl
theorem aFS (n : Int) (l : List (List UInt8)) (h0 : 1 ≤ l.length) (h1 : l.length ≤ 1000) :
  SpG g 37 [.c (cI n), .c (cM 1 (strs l))] [] (.c (cS (S (l.getD (mdQ n (strs l).length).toNat [])))) [] := by
 have e7 := aG9 (a := n) (n := ((strs l).length : Int)) (by simp only [zq2]; omega)
 have e8 : (strs l).length = l.length := by simp [strs]
 refine aL 12 Tryz.func37 (by kernel_rfl) fun fr hG => ?_
 exact zr hG [(1, 4, kI (mdQ n ((strs l).length : Int))), (1, 5, .elem (mH ((l).getD (mdQ n ((strs l).length : Int) : Int).toNat [])))] [] (aB (modQ_ok n ((strs l).length : Int) (by simp only [zq2]; omega) (by simp only [zq2]; omega) : SpG g _ _ _ _ _) (aD (by intros; exact aT [] (by omega) (by (try simp only [zq2] at *); omega) : (0 : Int) ≤ (mdQ n ((strs l).length : Int)) ∧ (strs l)[(mdQ n ((strs l).length : Int) : Int).toNat]? = some (mH ((l).getD (mdQ n ((strs l).length : Int) : Int).toNat [])))))
end Go.Proofs.YtdejnaokkdndeaaGreatDoor
namespace Go.Proofs.YtdejnaokkdndeaaGreatDoor
open Go.RowKit Go.V
variable {m : Int}
set_option maxRecDepth 100000
theorem pm_ex {q0 q1 : Int} {s u : ByteArray} (h : conj [SQ m 37 [.c (cI q0), .c (cM 1 (strs pat8))] (sC s), s.size + (S [35]).size ≤ Go.maxLen, SQ m 37 [.c (cI q1), .c (cM 1 (strs num4))] (sC u), (s ++ S [35]).size + u.size ≤ Go.maxLen]) : PmQ m [101, 120, 116, 114, 97, 99, 116] q0 q1 (s ++ S [35] ++ u) :=
 sQ (tO [(136, true), (140, true)]) nV nH (T := [bV 37 (tS [(135, sC s), (139, sC u)])]) (by kernel_rfl) h
theorem pm_sh {q0 q1 : Int} {s : ByteArray} (h : conj [SQ m 37 [.c (cI q0), .c (cM 1 (strs lay4))] (sC s)]) : PmQ m [115, 104, 111, 119] q0 q1 s :=
 sQ nO nV nH (T := [bV 37 (tS [(143, sC s)])]) (by kernel_rfl) h
theorem aFT (n : Int) (l : List (List UInt8)) (h0 : 1 ≤ l.length) (h1 : l.length ≤ 1000) : ∃ i, i < l.length ∧ SQ m 37 [.c (cI n), .c (cM 1 (strs l))] (sC (S (l.getD i []))) := by
 refine ⟨(mdQ n (strs l).length).toNat, ?_, aFS (g := gT m) n l h0 h1⟩
 have := aG9 (a := n) (n := ((strs l).length : Int)) (by simp only [zq2]; omega)
 simp only [zq2] at this ⊢
 omega
theorem prm_all (q0 q1 : Int) : ∃ i j k, (i < 8 ∧ j < 4 ∧ k < 4) ∧ PmQ m [101, 120, 116, 114, 97, 99, 116] q0 q1 (S (prm i j)) ∧ PmQ m [115, 104, 111, 119] q0 q1 (S (lay4.getD k [])) := by
 obtain ⟨i, hi, h1⟩ := aFT (m := m) q0 pat8 (by decide) (by decide)
 obtain ⟨j, hj, h2⟩ := aFT (m := m) q1 num4 (by decide) (by decide)
 obtain ⟨k, hk, h3⟩ := aFT (m := m) q0 lay4 (by decide) (by decide)
 have b1 : ∀ i, i < 8 → (pat8.getD i []).length ≤ 10 := by decide
 have b2 : ∀ i, i < 4 → (num4.getD i []).length ≤ 10 := by decide
 have c1 := b1 i hi
 have c2 := b2 j hj
 refine ⟨i, j, k, ⟨hi, hj, hk⟩, ?_, pm_sh h3⟩
 have h := pm_ex (m := m) (q0 := q0) (q1 := q1) ⟨h1, Nat.le_trans (m := 1000) (by rw [aJ, aJ]; simp only [List.length_cons, List.length_nil]; omega) (by decide), h2, Nat.le_trans (m := 1000) (by rw [n8, aJ, aJ, List.length_append]; simp only [List.length_cons, List.length_nil]; omega) (by decide)⟩
 rw [n8, n8] at h
 exact h
end Go.Proofs.YtdejnaokkdndeaaGreatDoor
namespace Go.Proofs.YtdejnaokkdndeaaGreatDoor
open Go.RowKit Go.V
open Go.Eng (inR byteAt u8 aU)
variable {m : Int}
def fS (t : List UInt8) : Prop := t.all aR = true ∧ t.length ≤ 200
theorem oT {p : UInt8 → Prop} (h : ∀ n, n < 256 → p (UInt8.ofNat n)) (c : UInt8) : p c := by
 have := h c.toNat c.toNat_lt
 rwa [UInt8.ofNat_toNat] at this
set_option maxRecDepth 10000 in
theorem vQ (c : UInt8) : Lib.upperB (Lib.upperB c) = Lib.upperB c := oT (p := fun c => Lib.upperB (Lib.upperB c) = Lib.upperB c) (by decide) c
set_option maxRecDepth 10000 in
theorem w5 (c : UInt8) : Lib.lowerB (Lib.lowerB c) = Lib.lowerB c := oT (p := fun c => Lib.lowerB (Lib.lowerB c) = Lib.lowerB c) (by decide) c
set_option maxRecDepth 10000 in
theorem rH (c : UInt8) : aR c = true → aR (Lib.upperB c) = true := oT (p := fun c => aR c = true → aR (Lib.upperB c) = true) (by decide) c
set_option maxRecDepth 10000 in
theorem r9 (c : UInt8) : aR c = true → aR (Lib.lowerB c) = true := oT (p := fun c => aR c = true → aR (Lib.lowerB c) = true) (by decide) c
set_option maxRecDepth 10000 in
theorem rX (c : UInt8) : aR c = true → c.toNat < 128 := oT (p := fun c => aR c = true → c.toNat < 128) (by decide) c
theorem map_ok {f : UInt8 → UInt8} (hf : ∀ c, aR c = true → aR (f c) = true) {t : List UInt8} (h : fS t) : fS (t.map f) := by
 refine ⟨List.all_eq_true.2 fun c hc => ?_, by rw [List.length_map]; exact h.2⟩
 obtain ⟨a, ha, rfl⟩ := List.mem_map.1 hc
 exact hf a (List.all_eq_true.1 h.1 a ha)
theorem r8 {f : UInt8 → UInt8} (hf : ∀ c, f (f c) = f c) (t : List UInt8) : (t.map f).map f = t.map f := by
 rw [List.map_map]; exact List.map_congr_left fun c _ => hf c
theorem mY (p : UInt8 → Bool) : ∀ l : List UInt8, (l.dropWhile p).dropWhile p = l.dropWhile p
 | [] => rfl
 | c :: r => by
  rw [List.dropWhile_cons]
  split
  exact mY p r
  rename_i h; rw [List.dropWhile_cons, if_neg h]
theorem aER {p : UInt8 → Bool} {l : List UInt8} {c : UInt8} {r : List UInt8} (h : l.dropWhile p = l) (e : l = c :: r) : p c = false := by
 subst e
 cases hp : p c with
 | false => rfl
 | true =>
  rw [List.dropWhile_cons, if_pos hp] at h
  have := congrArg List.length h
  have h2 := (List.dropWhile_sublist p (l := r)).length_le
  rw [List.length_cons] at this
  omega
theorem aC8 (t : List UInt8) (c : UInt8) : Lib.trimB (Lib.trimB t c) c = Lib.trimB t c := by
 unfold Lib.trimB Lib.trimLeftB Lib.trimRightB
 generalize hp : (fun x : UInt8 => x == c) = p
 generalize hu : t.reverse.dropWhile p = u
 have hu2 : u.dropWhile p = u := by rw [← hu]; exact mY p _
 obtain ⟨a, ha⟩ := List.dropWhile_suffix (l := u.reverse) p
 generalize hw : u.reverse.dropWhile p = w at ha ⊢
 have hw2 : w.dropWhile p = w := by rw [← hw]; exact mY p _
 have hr : w.reverse.dropWhile p = w.reverse := by
  cases e : w.reverse with
  | nil => rfl
  | cons x r =>
   have : u = x :: (r ++ a.reverse) := by
    have h9 := congrArg List.reverse ha
    rw [List.reverse_append, List.reverse_reverse, e] at h9
    exact h9.symm
   rw [List.dropWhile_cons, if_neg (by rw [aER hu2 this]; decide)]
 rw [hr, List.reverse_reverse, hw2]
theorem oV {t : List UInt8} (c : UInt8) (h : fS t) : fS (Lib.trimB t c) ∧ (Lib.trimB t c).length ≤ t.length := by
 have hs : (Lib.trimB t c).Sublist t := by
  unfold Lib.trimB Lib.trimLeftB Lib.trimRightB
  refine (List.dropWhile_sublist _).trans ?_
  have := (List.dropWhile_sublist (fun x : UInt8 => x == c) (l := t.reverse)).reverse
  rw [List.reverse_reverse] at this
  exact this
 refine ⟨⟨List.all_eq_true.2 fun x hx => List.all_eq_true.1 h.1 x (hs.subset hx), ?_⟩, hs.length_le⟩
 have := hs.length_le; have := h.2; omega
theorem upQ {t : List UInt8} (h : fS t) : SQ m 194 [sC (S t)] (sC (S (Lib.toUpperA t))) := by
 have hs := aJ t
 have := h.2
 have := hY (P := Tryz.prog) (G := Gl (gT m)) (args := [.string (S t)]) (ins := [sC (S t)]) (out := sC ⟨(Lib.toUpperA (S t).data.toList).toArray⟩) rfl rfl rfl fun w _ => Tryz.strings_ToUpper_ascii (S t) w (by omega) (fun j b hj => by
  rw [fD] at hj
  exact rX b (List.all_eq_true.1 h.1 b (List.mem_of_getElem? hj)))
 rw [fD] at this
 exact this
theorem loQ {t : List UInt8} (h : fS t) : SQ m 195 [sC (S t)] (sC (S (Lib.toLowerA t))) := by
 have hs := aJ t
 have := h.2
 have := hY (P := Tryz.prog) (G := Gl (gT m)) (args := [.string (S t)]) (ins := [sC (S t)]) (out := sC ⟨(Lib.toLowerA (S t).data.toList).toArray⟩) rfl rfl rfl fun w _ => Tryz.strings_ToLower_ascii (S t) w (by omega) (fun j b hj => by
  rw [fD] at hj
  exact rX b (List.all_eq_true.1 h.1 b (List.mem_of_getElem? hj)))
 rw [fD] at this
 exact this
theorem trQ {t : List UInt8} (h : fS t) : SQ m 196 [sC (S t), sC (S [32])] (sC (S (Lib.trimB t 32))) := by
 have hs := aJ t
 have := h.2
 have := hY (P := Tryz.prog) (G := Gl (gT m)) (args := [.string (S t), .string (S [32])]) (ins := [sC (S t), sC (S [32])]) (out := sC ⟨(Lib.trimB (S t).data.toList 32).toArray⟩) rfl rfl rfl fun w _ => (Tryz.strings_Trim_one (S t) 32 (by decide) w (by omega)).mono fun e w' h => ⟨h.1, by
  rcases h.2 with h | h
  subst h; exact Below.refl _ _
  subst h; exact ⟨rfl, rfl, rfl, Nat.le_refl _, fun _ _ => rfl⟩⟩
 rw [fD] at this
 exact this
theorem tvQ {t : List UInt8} (h : fS t) : TvQ m (S t) (vTx (S t)) 0 := tv_yes (by rw [aJ]; exact h.2)
theorem nilQ1 {f : FuncId} {v : Vl} {out : SV} (hc : v.cols = []) (hr : v.rows = []) (h : V.Spec Tryz.prog (Gl (gT m)) f [yJ v] [] out []) : SQ m f [.agg (vG v.kind (S v.s) v.dn v.ds v.n)] out := by
 obtain ⟨kd, s, a, b, n, cols, rows⟩ := v
 cases hc; cases hr
 exact jT [[none, none, none, none, none, some 1, some 1]] h
theorem nilQ2 {f : FuncId} {v w : Vl} {out : SV} (hc : v.cols = []) (hr : v.rows = []) (hc' : w.cols = []) (hr' : w.rows = []) (h : V.Spec Tryz.prog (Gl (gT m)) f [yJ v, yJ w] [] out []) : SQ m f [.agg (vG v.kind (S v.s) v.dn v.ds v.n), .agg (vG w.kind (S w.s) w.dn w.ds w.n)] out := by
 obtain ⟨kd, s, a, b, n, cols, rows⟩ := v
 obtain ⟨kd', s', a', b', n', cols', rows'⟩ := w
 cases hc; cases hr; cases hc'; cases hr'
 exact jT [[none, none, none, none, none, some 1, some 1], [none, none, none, none, none, some 1, some 1]] h
theorem eqQ (k : Int) (s : List UInt8) (a b n : Int) : SQ m 19 [.agg (vG k (S s) a b n), .agg (vG k (S s) a b n)] (.c (cB true)) := by
 have h := wD (g := gT m) ⟨k, s, a, b, n, [], []⟩ ⟨k, s, a, b, n, [], []⟩
 rw [decide_eq_true rfl] at h
 exact nilQ2 rfl rfl rfl rfl h
theorem oA {t : List UInt8} (h : fS t) : RgQ m (vTx (S t)) := by
 have hf : (⟨1, t, 0, 0, 0, [], []⟩ : Vl).fit := ⟨(by have := h.2; show t.length ≤ _; unfold maxLen; omega), (by intro t ht; cases ht), (by intro t ht; cases ht)⟩
 have h1 := o5 (g := gT m) ⟨1, t, 0, 0, 0, [], []⟩ hf
 have h2 : kJ ⟨1, t, 0, 0, 0, [], []⟩ = true := by
  have := kP h.1 h.2
  simp [kJ, bE, cK, this]
 rw [h2] at h1
 exact nilQ1 rfl rfl h1
theorem rgDt {n : Int} (h : 0 ≤ n ∧ n ≤ 3652058) : RgQ m (vDt n) := by
 have hf : (⟨3, [], 0, 0, n, [], []⟩ : Vl).fit := ⟨(by simp [maxLen]), (by intro t ht; cases ht), (by intro t ht; cases ht)⟩
 have h1 := o5 (g := gT m) ⟨3, [], 0, 0, n, [], []⟩ hf
 have h2 : kJ ⟨3, [], 0, 0, n, [], []⟩ = true := by simp [kJ, bE, cK, h]
 rw [h2] at h1
 exact nilQ1 rfl rfl h1
end Go.Proofs.YtdejnaokkdndeaaGreatDoor
namespace Go.Proofs.YtdejnaokkdndeaaGreatDoor
open Go.RowKit Go.V
open Go.Eng (inR byteAt u8 aU)
variable {m : Int}
theorem aHL {t : List UInt8} (h : dW t = true) : fS t := by
 have hb : bs (S t) = t := fD t
 simp only [tG, dW, iG, Bool.and_eq_true, hb] at h
 exact ⟨h.1, by have := h.2; omega⟩
theorem nvTx (l : List Int) (hl : (l.length : Int) ≤ 9223372036854775807) : ∃ t j, fS t ∧ NvQ m (intsD l) 1 j (vTx (S t)) :=
 ⟨(txM l 0).1, (txM l 0).2, aHL (oU l 0), pS (g := gT m) l 0 1 ⟨Int.le_refl 0, by omega, hl⟩ (by decide)⟩
theorem nvDt (l : List Int) (hl : (l.length : Int) ≤ 9223372036854775807) : ∃ n j, (0 ≤ n ∧ n ≤ 3652058) ∧ NvQ m (intsD l) 3 j (vDt n) := by
 have h := pS (g := gT m) l 0 3 ⟨Int.le_refl 0, by omega, hl⟩ (by decide)
 have e : (cvM l 0 3).1 = ⟨3, [], 0, 0, (cvM l 0 3).1.n⟩ := by simp only [cvM]; split <;> first | contradiction | (split <;> first | contradiction | (split <;> first | contradiction | (split <;> first | rfl | contradiction)))
 have r := (cv_good l 0 3).right
 rw [e] at h r
 refine ⟨(cvM l 0 3).1.n, (cvM l 0 3).2, ?_, h⟩
 simp [bE, cK, Cl.toV] at r
 exact ⟨of_decide_eq_true r.1, of_decide_eq_true r.2⟩
theorem eO {x : Int} (h0 : -1000000 ≤ x) (h1 : x ≤ 1000000) : Go.Eng.inR x := by simp only [Go.Eng.inR]; omega
theorem kG {b : Bool} (h : b = true) : bEq b true := by rw [h]; rfl
theorem x7 {b : Bool} (h : b = false) : bEq b false := by rw [h]; rfl
theorem jO (a r : List UInt8) (c : UInt8) : byteAt (S (a ++ c :: r)) (a.length : Int) = (c.toNat : Int) := by
 rw [dF, Int.toNat_natCast]; simp
abbrev I3 (m : Int) (op t u : List UInt8) : Prop := IsQ m (S op) (S []) (vTx (S u)) [dTx (S u)] ∧ bEq (decide (((S u).size : Int) > ((S t).size : Int))) false ∧ ApS m op (S []) [dTx (S t)] (vTx (S u)) 0
theorem ap1 {op : List UInt8} {t u : List UInt8} (h : ApQ m op [] [dTx (S t)] (vTx (S u)) 0) (h2 : ApQ m op [] [dTx (S u)] (vTx (S u)) 0) (hl : u.length ≤ t.length) :
  I3 m op t u := by
 refine ⟨isY (k := 1) (a := 0) (b := 0) (n := 0) ⟨eqQ 1 u 0 0 0, h2⟩, x7 ?_, h⟩
 rw [aJ, aJ, decide_eq_false]; omega
theorem upA {t : List UInt8} (h : fS t) : ApQ m [117, 112, 112, 101, 114] [] [dTx (S t)] (vTx (S (Lib.toUpperA t))) 0 := upperY ⟨upQ h, tvQ (map_ok rH h), oA h, ty2 m⟩
theorem loA {t : List UInt8} (h : fS t) : ApQ m [108, 111, 119, 101, 114] [] [dTx (S t)] (vTx (S (Lib.toLowerA t))) 0 := lowerY ⟨loQ h, tvQ (map_ok r9 h), oA h, ty3 m⟩
theorem trA {t : List UInt8} (h : fS t) : ApQ m [116, 114, 105, 109] [] [dTx (S t)] (vTx (S (Lib.trimB t 32))) 0 := trimY ⟨trQ h, tvQ (oV 32 h).1, oA h, ty4 m⟩
theorem upI {t : List UInt8} (h : fS t) : I3 m [117, 112, 112, 101, 114] t (Lib.toUpperA t) := ap1 (upA h) (by have := upA (m := m) (map_ok rH h); unfold Lib.toUpperA at this ⊢; rw [r8 vQ] at this; exact this) (by unfold Lib.toUpperA; rw [List.length_map]; exact Nat.le_refl _)
theorem loI {t : List UInt8} (h : fS t) : I3 m [108, 111, 119, 101, 114] t (Lib.toLowerA t) := ap1 (loA h) (by have := loA (m := m) (map_ok r9 h); unfold Lib.toLowerA at this ⊢; rw [r8 w5] at this; exact this) (by unfold Lib.toLowerA; rw [List.length_map]; exact Nat.le_refl _)
theorem trI {t : List UInt8} (h : fS t) : I3 m [116, 114, 105, 109] t (Lib.trimB t 32) := ap1 (trA h) (by have := trA (m := m) (oV 32 h).1; rw [aC8] at this; exact this) (oV 32 h).2
theorem coY {s t : List UInt8} (hs : fS s) (ht : fS t) (h : s.length + t.length ≤ 200) : IsQ m (S [108, 101, 110, 103, 116, 104]) (S []) (vNu (((S s).size : Int) + ((S t).size : Int))) [dTx (S (s ++ t))] ∧ ApS m [99, 111, 110, 99, 97, 116] (S []) [dTx (S s), dTx (S t)] (vTx (S (s ++ t))) 0 := by
 have hst : fS (s ++ t) := ⟨by rw [List.all_append, hs.1, ht.1]; rfl, by rw [List.length_append]; exact h⟩
 have e : ((S s).size : Int) + ((S t).size : Int) = ((S (s ++ t)).size : Int) := by rw [aJ, aJ, aJ, List.length_append]; omega
 have hsz : (S (s ++ t)).size ≤ 200 := by rw [aJ]; exact hst.2
 refine ⟨?_, concatY ⟨Nat.le_trans (m := 200) (by rw [aJ, aJ]; exact h) (by decide), by rw [n8]; exact tvQ hst, oA ht, oA hs, ty0 m⟩⟩
 rw [e]
 exact isY (k := 2) (b := 0) (n := 0) (s := S []) ⟨eqQ 2 [] _ 0 0, lengthY ⟨aIM (m := m) ((S (s ++ t)).size : Int) ⟨by omega, by omega⟩, oA hst, ty1 m⟩⟩
theorem coN {s t : List UInt8} (hs : fS s) (ht : fS t) (h : ¬ s.length + t.length ≤ 200) : ApS m [99, 111, 110, 99, 97, 116] (S []) [dTx (S s), dTx (S t)] vZe 3 :=
 concatN (u := S []) ⟨Nat.le_trans (m := 400) (by rw [aJ, aJ]; have := hs.2; have := ht.2; omega) (by decide), by rw [n8]; exact tv_no (by rw [aJ, List.length_append]; omega), oA ht, oA hs, ty0 m⟩
theorem rV : ∀ i, i < 8 → ∀ p, p ∈ pcs8.getD i [] → p.text.length ≤ 1000 := by
 intro i hi
 have : i = 0 ∨ i = 1 ∨ i = 2 ∨ i = 3 ∨ i = 4 ∨ i = 5 ∨ i = 6 ∨ i = 7 := by omega
 rcases this with rfl | rfl | rfl | rfl | rfl | rfl | rfl | rfl <;> (intro p hp; simp [pcs8] at hp; first | (subst hp; decide) | (rcases hp with rfl | rfl <;> decide))
theorem exI {t : List UInt8} (h : fS t) {i j : Nat} (hi : i < 8) (hj : j < 4) :
  (ApS m [101, 120, 116, 114, 97, 99, 116] (S (prm i j)) [dTx (S t)] vZe 18) ∨
  ∃ u, ApS m [101, 120, 116, 114, 97, 99, 116] (S (prm i j)) [dTx (S t)] (vTx (S u)) 0 ∧ IsQ m (S [109, 97, 116, 99, 104]) (S (pat8.getD i [])) (vBo 1) [dTx (S u)] := by
 obtain ⟨hp, hr, hm⟩ := pr_all m i hi
 have hx := ex_all m i j hi hj
 have hty := te_all m i j hi hj
 have hf := find_ok (g := gT m) (pcs8.getD i []) t (nth4.getD j 0) h.2 h.1 hr (rV i hi)
 cases e : sN (pcs8.getD i []) t (nth4.getD j 0) with
 | none =>
  rw [e] at hf
  exact .inl (aH5 ⟨hf, hp, hx, oA h, hty⟩)
 | some ab =>
  obtain ⟨a, b⟩ := ab
  rw [e] at hf
  obtain ⟨f1, f2, f3⟩ := aEJ e
  generalize hu : (t.drop a).take (b - a) = u at f3
  have hul : u.length = b - a := by rw [← hu, List.length_take, List.length_drop]; omega
  have hsub : u.Sublist t := by rw [← hu]; exact (List.take_sublist _ _).trans (List.drop_sublist _ _)
  have hut : fS u := ⟨List.all_eq_true.2 fun x hx => List.all_eq_true.1 h.1 x (hsub.subset hx), by have := h.2; omega⟩
  have he : (S t).extract ((a : Int)).toNat ((b : Int)).toNat = S u := by rw [Int.toNat_natCast, Int.toNat_natCast, aJJ, List.drop_take, hu]
  refine .inr ⟨u, aH4 (a := (a : Int)) (b := (b : Int)) ⟨⟨by omega, by omega, by rw [aJ]; omega⟩, by rw [he]; exact tvQ hut, hf, hp, hx, oA h, hty⟩, ?_⟩
  have hmt := aAD (g := gT m) (pcs8.getD i []) u hut.2 hut.1 hr (rV i hi)
  rw [f3, hul, decide_eq_true rfl] at hmt
  exact isY (k := 4) (a := 0) (b := 0) (n := 1) (s := S []) ⟨eqQ 4 [] 0 0 1, matchY ⟨hmt, hp, oA hut, hm⟩⟩
theorem dtI {n : Int} (h : 0 ≤ n ∧ n ≤ 3652058) {k : Nat} (hk : k < 4) : ∃ w, IsQ m (S [114, 101, 97, 100]) (S (lay4.getD k [])) (vDt n) [dTx (S w)] ∧ ApS m [115, 104, 111, 119] (S (lay4.getD k [])) [dDt n] (vTx (S w)) 0 := by
 obtain ⟨a1, a2, a3, a4⟩ := lay_ok (m := m) h.1 h.2 k hk
 have ht : fS (dtx k n) := ⟨a4, by omega⟩
 have e : k = 0 ∨ k = 1 ∨ k = 2 ∨ k = 3 := by omega
 have hs : TyQ m [115, 104, 111, 119] (lay4.getD k []) [3] 1 := by
  rcases e with rfl | rfl | rfl | rfl
  exact ty13 m
  exact ty14 m
  exact ty15 m
  exact ty16 m
 have hr : TyQ m [114, 101, 97, 100] (lay4.getD k []) [1] 3 := by
  rcases e with rfl | rfl | rfl | rfl
  exact ty17 m
  exact ty18 m
  exact ty19 m
  exact ty20 m
 exact ⟨dtx k n, isY (k := 3) (a := 0) (b := 0) (n := n) (s := S []) ⟨eqQ 3 [] 0 0 n, readY ⟨a2, oA ht, hr⟩⟩, showY ⟨tvQ ht, a1, rgDt h, hs⟩⟩
structure Hash1 (P : ByteArray) (A : List UInt8) : Prop where
 c : Go.Eng.inR ((P.size : Int) - 1 - 1) ∧ (0 ≤ (0 : Int) ∧ 0 ≤ (P.size : Int) - 1 - 1 ∧ (P.size : Int) - 1 - 1 ≤ (P.size : Int))
 e : P.extract 0 ((P.size : Int) - 1 - 1).toNat = S A
 d : conj [bEq (decide ((P.size : Int) - 1 > 0)) true, Go.Eng.inR ((P.size : Int) - 1 - 1), chO P ((P.size : Int) - 1 - 1), bEq (!(Go.Eng.byteAt P ((P.size : Int) - 1 - 1) == 35)) false, Go.Eng.inR ((P.size : Int) - 1), bEq (decide ((P.size : Int) > 0)) true, Go.Eng.inR ((P.size : Int) - 1), chO P ((P.size : Int) - 1), bEq (!(Go.Eng.byteAt P ((P.size : Int) - 1) == 35)) true]
structure Hash2 (P : ByteArray) (A : List UInt8) : Prop where
 c : Go.Eng.inR ((P.size : Int) - 1 - 1 - 1) ∧ (0 ≤ (0 : Int) ∧ 0 ≤ (P.size : Int) - 1 - 1 - 1 ∧ (P.size : Int) - 1 - 1 - 1 ≤ (P.size : Int))
 e : P.extract 0 ((P.size : Int) - 1 - 1 - 1).toNat = S A
 d : conj [bEq (decide ((P.size : Int) - 1 - 1 > 0)) true, Go.Eng.inR ((P.size : Int) - 1 - 1 - 1), chO P ((P.size : Int) - 1 - 1 - 1), bEq (!(Go.Eng.byteAt P ((P.size : Int) - 1 - 1 - 1) == 35)) false, Go.Eng.inR ((P.size : Int) - 1 - 1), bEq (decide ((P.size : Int) - 1 > 0)) true, Go.Eng.inR ((P.size : Int) - 1 - 1), chO P ((P.size : Int) - 1 - 1), bEq (!(Go.Eng.byteAt P ((P.size : Int) - 1 - 1) == 35)) true, Go.Eng.inR ((P.size : Int) - 1), bEq (decide ((P.size : Int) > 0)) true, Go.Eng.inR ((P.size : Int) - 1), chO P ((P.size : Int) - 1), bEq (!(Go.Eng.byteAt P ((P.size : Int) - 1) == 35)) true]
theorem aHV {A : List UInt8} {x : UInt8} (hA : A.length ≤ 100) (hx : (x.toNat : Int) ≠ 35) : Hash1 (S (A ++ [35] ++ [x])) A := by
 have hs : ((S (A ++ [35] ++ [x])).size : Int) = (A.length : Int) + 2 := by rw [aJ]; simp <;> omega
 have b1 : byteAt (S (A ++ [35] ++ [x])) ((A.length : Int) + 1) = (x.toNat : Int) := by
  have := jO (A ++ [35]) [] x
  have e9 : ((A ++ [35]).length : Int) = (A.length : Int) + 1 := by simp <;> omega
  rw [e9] at this
  exact this
 have b2 : byteAt (S (A ++ [35] ++ [x])) (A.length : Int) = 35 := by
  have := jO A [x] 35
  rw [show A ++ [35] ++ [x] = A ++ 35 :: [x] by simp]
  exact this
 have e1 : (A.length : Int) + 2 - 1 = (A.length : Int) + 1 := by omega
 have e2 : (A.length : Int) + 1 - 1 = (A.length : Int) := by omega
 refine ⟨?_, ?_, ?_⟩
 rw [hs, e1, e2]; exact ⟨eO (by omega) (by omega), by omega, by omega, by omega⟩
 rw [hs, e1, e2, Int.toNat_natCast, aJJ]; simp
 simp only [chO]
 rw [hs, e1, e2, b1, b2]
 exact ⟨kG (by simp <;> omega), eO (by omega) (by omega), ⟨by omega, by omega⟩, x7 (by decide), eO (by omega) (by omega), kG (by simp <;> omega), eO (by omega) (by omega), ⟨by omega, by omega⟩, kG (by simp [hx])⟩
theorem hash2 {A : List UInt8} {x y : UInt8} (hA : A.length ≤ 100) (hx : (x.toNat : Int) ≠ 35) (hy : (y.toNat : Int) ≠ 35) : Hash2 (S (A ++ [35] ++ [x, y])) A := by
 have hs : ((S (A ++ [35] ++ [x, y])).size : Int) = (A.length : Int) + 3 := by rw [aJ]; simp <;> omega
 have b0 : byteAt (S (A ++ [35] ++ [x, y])) ((A.length : Int) + 2) = (y.toNat : Int) := by
  have := jO (A ++ [35] ++ [x]) [] y
  have e9 : ((A ++ [35] ++ [x]).length : Int) = (A.length : Int) + 2 := by simp <;> omega
  rw [e9] at this
  rw [show A ++ [35] ++ [x, y] = A ++ [35] ++ [x] ++ y :: [] by simp]
  exact this
 have b1 : byteAt (S (A ++ [35] ++ [x, y])) ((A.length : Int) + 1) = (x.toNat : Int) := by
  have := jO (A ++ [35]) [y] x
  have e9 : ((A ++ [35]).length : Int) = (A.length : Int) + 1 := by simp <;> omega
  rw [e9] at this
  exact this
 have b2 : byteAt (S (A ++ [35] ++ [x, y])) (A.length : Int) = 35 := by
  have := jO A [x, y] 35
  rw [show A ++ [35] ++ [x, y] = A ++ 35 :: [x, y] by simp]
  exact this
 have e0 : (A.length : Int) + 3 - 1 = (A.length : Int) + 2 := by omega
 have e1 : (A.length : Int) + 2 - 1 = (A.length : Int) + 1 := by omega
 have e2 : (A.length : Int) + 1 - 1 = (A.length : Int) := by omega
 refine ⟨?_, ?_, ?_⟩
 rw [hs, e0, e1, e2]; exact ⟨eO (by omega) (by omega), by omega, by omega, by omega⟩
 rw [hs, e0, e1, e2, Int.toNat_natCast, aJJ]; simp
 simp only [chO]
 rw [hs, e0, e1, e2, b0, b1, b2]
 exact ⟨kG (by simp <;> omega), eO (by omega) (by omega), ⟨by omega, by omega⟩, x7 (by decide), eO (by omega) (by omega), kG (by simp <;> omega), eO (by omega) (by omega), ⟨by omega, by omega⟩, kG (by simp [hx]), eO (by omega) (by omega), kG (by simp <;> omega), eO (by omega) (by omega), ⟨by omega, by omega⟩, kG (by simp [hy])⟩
theorem aHU : ∀ i j, i < 8 → j < 4 → (j < 3 ∧ Hash1 (S (prm i j)) (pat8.getD i [])) ∨ (j = 3 ∧ Hash2 (S (prm i j)) (pat8.getD i [])) := by
 intro i j hi hj
 have b1 : ∀ i, i < 8 → (pat8.getD i []).length ≤ 100 := by decide
 have := b1 i hi
 have e : j = 0 ∨ j = 1 ∨ j = 2 ∨ j = 3 := by omega
 rcases e with rfl | rfl | rfl | rfl
 exact .inl ⟨by decide, aHV this (by decide)⟩
 exact .inl ⟨by decide, aHV this (by decide)⟩
 exact .inl ⟨by decide, aHV this (by decide)⟩
 exact .inr ⟨rfl, hash2 this (by decide) (by decide)⟩
theorem opTexts_ok (a b c : List Int) (q0 q1 q2 : Int) (ha : (a.length : Int) ≤ 9223372036854775807) (hb : (b.length : Int) ≤ 9223372036854775807) (hc : (c.length : Int) ≤ 9223372036854775807) :
  SQ m 6 [y8 (intsD a) (intsD b) (intsD c), .agg [cI q0, cI q1, cI q2]] (.c (cB true)) := by
 obtain ⟨s, j0, hs, n0⟩ := nvTx (m := m) a ha
 obtain ⟨t, j1, ht, n1⟩ := nvTx (m := m) b hb
 obtain ⟨n, j2, hn, n2⟩ := nvDt (m := m) c hc
 obtain ⟨i, j, k, ⟨hi, hj, hk⟩, p1, p2⟩ := prm_all (m := m) q0 q1
 obtain ⟨w, r1, r2⟩ := dtI (m := m) hn hk
 obtain ⟨u1, u2, u3⟩ := upI (m := m) hs
 obtain ⟨l1, l2, l3⟩ := loI (m := m) hs
 obtain ⟨t1, t2, t3⟩ := trI (m := m) hs
 have hsan := aDH m
 have hin : Go.Eng.inR (((S s).size : Int) + ((S t).size : Int)) := by
  rw [aJ, aJ]; have := hs.2; have := ht.2; exact eO (by omega) (by omega)
 rcases aHU i j hi hj with ⟨_, h⟩ | ⟨_, h⟩
 obtain ⟨d1, d2, d3, d4, d5, d6, d7, d8, d9⟩ := h.d
 by_cases hco : s.length + t.length ≤ 200
 obtain ⟨c1, c2⟩ := coY (m := m) hs ht hco
 have hle : bEq (decide (((S s).size : Int) + ((S t).size : Int) ≤ 200)) true := kG (by rw [aJ, aJ, decide_eq_true]; omega)
 rcases exI (m := m) hs hi hj with hx | ⟨u, hx, hmt⟩
 exact law100 (pt := S []) ⟨r1, r2, p2, d1, d2, d3, d4, d5, d6, d7, d8, d9, hx, p1, t1, t2, t3, l1, l2, l3, u1, u2, u3, hin, hle, hin, c1, c2, n2, n1, n0, hsan⟩
 exact law101 ⟨r1, r2, p2, h.c.1, h.c.2, by rw [h.e]; exact hmt, d1, d2, d3, d4, d5, d6, d7, d8, d9, hx, p1, t1, t2, t3, l1, l2, l3, u1, u2, u3, hin, hle, hin, c1, c2, n2, n1, n0, hsan⟩
 have c2 := coN (m := m) hs ht hco
 have hle : bEq (decide (((S s).size : Int) + ((S t).size : Int) ≤ 200)) false := x7 (by rw [aJ, aJ, decide_eq_false]; omega)
 rcases exI (m := m) hs hi hj with hx | ⟨u, hx, hmt⟩
 exact law000 (pt := S []) (sc := S []) ⟨r1, r2, p2, d1, d2, d3, d4, d5, d6, d7, d8, d9, hx, p1, t1, t2, t3, l1, l2, l3, u1, u2, u3, hin, hle, c2, n2, n1, n0, hsan⟩
 exact law001 (sc := S []) ⟨r1, r2, p2, h.c.1, h.c.2, by rw [h.e]; exact hmt, d1, d2, d3, d4, d5, d6, d7, d8, d9, hx, p1, t1, t2, t3, l1, l2, l3, u1, u2, u3, hin, hle, c2, n2, n1, n0, hsan⟩
 obtain ⟨d1, d2, d3, d4, d5, d6, d7, d8, d9, d10, d11, d12, d13, d14⟩ := h.d
 by_cases hco : s.length + t.length ≤ 200
 obtain ⟨c1, c2⟩ := coY (m := m) hs ht hco
 have hle : bEq (decide (((S s).size : Int) + ((S t).size : Int) ≤ 200)) true := kG (by rw [aJ, aJ, decide_eq_true]; omega)
 rcases exI (m := m) hs hi hj with hx | ⟨u, hx, hmt⟩
 exact law110 (pt := S []) ⟨r1, r2, p2, d1, d2, d3, d4, d5, d6, d7, d8, d9, d10, d11, d12, d13, d14, hx, p1, t1, t2, t3, l1, l2, l3, u1, u2, u3, hin, hle, hin, c1, c2, n2, n1, n0, hsan⟩
 exact law111 ⟨r1, r2, p2, h.c.1, h.c.2, by rw [h.e]; exact hmt, d1, d2, d3, d4, d5, d6, d7, d8, d9, d10, d11, d12, d13, d14, hx, p1, t1, t2, t3, l1, l2, l3, u1, u2, u3, hin, hle, hin, c1, c2, n2, n1, n0, hsan⟩
 have c2 := coN (m := m) hs ht hco
 have hle : bEq (decide (((S s).size : Int) + ((S t).size : Int) ≤ 200)) false := x7 (by rw [aJ, aJ, decide_eq_false]; omega)
 rcases exI (m := m) hs hi hj with hx | ⟨u, hx, hmt⟩
 exact law010 (pt := S []) (sc := S []) ⟨r1, r2, p2, d1, d2, d3, d4, d5, d6, d7, d8, d9, d10, d11, d12, d13, d14, hx, p1, t1, t2, t3, l1, l2, l3, u1, u2, u3, hin, hle, c2, n2, n1, n0, hsan⟩
 exact law011 (sc := S []) ⟨r1, r2, p2, h.c.1, h.c.2, by rw [h.e]; exact hmt, d1, d2, d3, d4, d5, d6, d7, d8, d9, d10, d11, d12, d13, d14, hx, p1, t1, t2, t3, l1, l2, l3, u1, u2, u3, hin, hle, c2, n2, n1, n0, hsan⟩
end Go.Proofs.YtdejnaokkdndeaaGreatDoor
