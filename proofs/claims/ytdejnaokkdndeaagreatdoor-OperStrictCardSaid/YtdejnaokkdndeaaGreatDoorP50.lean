/- Part 50 of the proof: texts S11a. -/
import Derived.Test.YtdejnaokkdndeaaGreatDoorP37
import Derived.Test.YtdejnaokkdndeaaGreatDoorP39
import Derived.Test.YtdejnaokkdndeaaGreatDoorP40
import Derived.Test.YtdejnaokkdndeaaGreatDoorP41
import Derived.Test.YtdejnaokkdndeaaGreatDoorP42
import Derived.Test.YtdejnaokkdndeaaGreatDoorP43
import Derived.Test.YtdejnaokkdndeaaGreatDoorP44
import Derived.Test.YtdejnaokkdndeaaGreatDoorP45
import Derived.Test.YtdejnaokkdndeaaGreatDoorP46
import Derived.Test.YtdejnaokkdndeaaGreatDoorP47
import Derived.Test.YtdejnaokkdndeaaGreatDoorP48
import Derived.Test.YtdejnaokkdndeaaGreatDoorP49
set_option linter.all false
namespace Go.Proofs.YtdejnaokkdndeaaGreatDoor
open Go.RowKit Go.V
def AllP {α : Type} (P : α → Prop) : List α → Prop
 | [] => True
 | x :: r => P x ∧ AllP P r
theorem AllP.get {α : Type} {P : α → Prop} : ∀ {l : List α}, AllP P l → ∀ x, x ∈ l → P x
 | [], _, x, hx => (by cases hx)
 | y :: r, h, x, hx => by
  rcases List.mem_cons.1 hx with rfl | hx
  ·exact h.1
  ·exact AllP.get h.2 x hx
def lzL : List (List Int) := [[4, 1, 1], [4, 2, 2], [4, 3, 3], [4, 4, 4], [4, 5, 5]]
def ksL : List (List Int) := [[1], [1, 1], [2], [2, 2], [3], [3, 2], [3, 3], [4], [4, 4], [5], [5, 1], [5, 5]]
def TyG (m : Int) (op p : List UInt8) (bes : List (List D)) : Prop :=
 (∃ e : Int, (e = 11 ∨ e = 13 ∨ e = 14) ∧ TyS m op p bes (tyOut .nil 0 e)) ∨ (∃ kd : Int, TyS m op p bes (tyOut .nil kd 0)) ∨
 (∃ (ks : List Int) (kd : Int), TyS m op p bes (tyOut (ksD ks) kd 0) ∧ ((op = [105, 102] ∧ ks ∈ lzL) ∨ (¬ op = [105, 102] ∧ ks ∈ ksL)))
theorem e11 {m : Int} {op p : List UInt8} {b : List (List D)} (h : TyS m op p b (tyOut .nil 0 11)) : TyG m op p b := .inl ⟨11, by decide, h⟩
theorem e13 {m : Int} {op p : List UInt8} {b : List (List D)} (h : TyS m op p b (tyOut .nil 0 13)) : TyG m op p b := .inl ⟨13, by decide, h⟩
theorem eN {m k : Int} {op p : List UInt8} {b : List (List D)} (h : TyS m op p b (tyOut .nil k 0)) : TyG m op p b := .inr (.inl ⟨k, h⟩)
theorem tyG_wk {m : Int} {op p : List UInt8} {l : List Int} (h : TyG m op p (besW l)) : TyG m op p (besN l) := by
 rcases h with ⟨e, he, h⟩ | ⟨kd, h⟩ | ⟨ks, kd, h, h2⟩
 ·exact .inl ⟨e, he, ty_wk h⟩
 ·exact .inr (.inl ⟨kd, ty_wk h⟩)
 ·exact .inr (.inr ⟨ks, kd, ty_wk h, h2⟩)
theorem ck_tyG {S : Int → Prop} {G : Prop} (h : ∃ e, (e = 0 ∨ e = 13 ∨ e = 14) ∧ S e) (h0 : S 0 → G) (h1 : S 13 → G) (h2 : S 14 → G) : G := by
 obtain ⟨e, rfl | rfl | rfl, h⟩ := h
 ·exact h0 h
 ·exact h1 h
 ·exact h2 h
theorem good_of {m : Int} {op : List UInt8} {l : List Int} {pl : List (List UInt8)} {Q : List UInt8 → Prop} (h : AllP (fun p => TyG m op p (besN l)) pl) (h2 : ∃ p, p ∈ pl ∧ Q p) : ∃ p, TyG m op p (besN l) ∧ Q p := by
 obtain ⟨p, hp, hq⟩ := h2
 exact ⟨p, h.get p hp, hq⟩
theorem tg0 (m : Int) (l : List Int) : AllP (fun p => TyG m [99, 111, 108] p (besN l)) plN0 :=
 ⟨eN (t0_0 m _), eN (t0_1 m _), eN (t0_2 m _), eN (t0_3 m _), eN (t0_4 m _), eN (t0_5 m _), e13 (t0_6 m _), e11 (t0_7 m _), e13 (t0_8 m _), e11 (t0_9 m _), e11 (t0_10 m _), e11 (t0_11 m _), e11 (t0_12 m _), e11 (t0_13 m _), e11 (t0_14 m _), e11 (t0_15 m _), e11 (t0_16 m _), trivial⟩
theorem tg1 (m : Int) (l : List Int) : AllP (fun p => TyG m [116, 101, 120, 116] p (besN l)) plN1 :=
 ⟨eN (t1_0 m _), eN (t1_1 m _), eN (t1_2 m _), eN (t1_3 m _), eN (t1_4 m _), eN (t1_5 m _), eN (t1_6 m _), eN (t1_7 m _), eN (t1_8 m _), eN (t1_9 m _), eN (t1_10 m _), eN (t1_11 m _), eN (t1_12 m _), eN (t1_13 m _), eN (t1_14 m _), eN (t1_15 m _), eN (t1_16 m _), trivial⟩
theorem tg2 (m : Int) (l : List Int) : AllP (fun p => TyG m [110, 117, 109, 98, 101, 114] p (besN l)) plN2 :=
 ⟨eN (t2_0 m _), eN (t2_1 m _), eN (t2_2 m _), eN (t2_3 m _), eN (t2_4 m _), eN (t2_5 m _), eN (t2_6 m _), e11 (t2_7 m _), e11 (t2_8 m _), e11 (t2_9 m _), e11 (t2_10 m _), e11 (t2_11 m _), e11 (t2_12 m _), e11 (t2_13 m _), e11 (t2_14 m _), e11 (t2_15 m _), e11 (t2_16 m _), trivial⟩
theorem tg3 (m : Int) (l : List Int) : AllP (fun p => TyG m [100, 97, 116, 101] p (besN l)) plN3 :=
 ⟨eN (t3_0 m _), eN (t3_1 m _), eN (t3_2 m _), eN (t3_3 m _), eN (t3_4 m _), e11 (t3_5 m _), e11 (t3_6 m _), e11 (t3_7 m _), e11 (t3_8 m _), e11 (t3_9 m _), e11 (t3_10 m _), e11 (t3_11 m _), e11 (t3_12 m _), e11 (t3_13 m _), e11 (t3_14 m _), trivial⟩
theorem tg4 (m : Int) (l : List Int) : AllP (fun p => TyG m [98, 111, 111, 108] p (besN l)) plN4 :=
 ⟨eN (t4_0 m _), eN (t4_1 m _), e11 (t4_2 m _), e11 (t4_3 m _), e11 (t4_4 m _), e11 (t4_5 m _), e11 (t4_6 m _), e11 (t4_7 m _), e11 (t4_8 m _), e11 (t4_9 m _), e11 (t4_10 m _), e11 (t4_11 m _), trivial⟩
theorem tg5 (m : Int) (l : List Int) : AllP (fun p => TyG m [99, 111, 110, 99, 97, 116] p (besN l)) plN5 :=
 ⟨.inr (.inr ⟨[1, 1], 1, t5_0 m _, .inr ⟨by decide, by decide⟩⟩), e11 (t5_1 m _), e11 (t5_2 m _), e11 (t5_3 m _), e11 (t5_4 m _), e11 (t5_5 m _), e11 (t5_6 m _), e11 (t5_7 m _), e11 (t5_8 m _), e11 (t5_9 m _), trivial⟩
theorem tg6 (m : Int) (l : List Int) : AllP (fun p => TyG m [117, 112, 112, 101, 114] p (besN l)) plN6 :=
 ⟨.inr (.inr ⟨[1], 1, t6_0 m _, .inr ⟨by decide, by decide⟩⟩), e11 (t6_1 m _), e11 (t6_2 m _), e11 (t6_3 m _), e11 (t6_4 m _), e11 (t6_5 m _), e11 (t6_6 m _), e11 (t6_7 m _), e11 (t6_8 m _), e11 (t6_9 m _), trivial⟩
theorem tg7 (m : Int) (l : List Int) : AllP (fun p => TyG m [108, 111, 119, 101, 114] p (besN l)) plN7 :=
 ⟨.inr (.inr ⟨[1], 1, t7_0 m _, .inr ⟨by decide, by decide⟩⟩), e11 (t7_1 m _), e11 (t7_2 m _), e11 (t7_3 m _), e11 (t7_4 m _), e11 (t7_5 m _), e11 (t7_6 m _), e11 (t7_7 m _), e11 (t7_8 m _), e11 (t7_9 m _), trivial⟩
theorem tg8 (m : Int) (l : List Int) : AllP (fun p => TyG m [116, 114, 105, 109] p (besN l)) plN8 :=
 ⟨.inr (.inr ⟨[1], 1, t8_0 m _, .inr ⟨by decide, by decide⟩⟩), e11 (t8_1 m _), e11 (t8_2 m _), e11 (t8_3 m _), e11 (t8_4 m _), e11 (t8_5 m _), e11 (t8_6 m _), e11 (t8_7 m _), e11 (t8_8 m _), e11 (t8_9 m _), trivial⟩
theorem tg9 (m : Int) (l : List Int) : AllP (fun p => TyG m [101, 120, 116, 114, 97, 99, 116] p (besN l)) plN9 :=
 ⟨.inr (.inr ⟨[1], 1, t9_0 m _, .inr ⟨by decide, by decide⟩⟩), .inr (.inr ⟨[1], 1, t9_1 m _, .inr ⟨by decide, by decide⟩⟩), .inr (.inr ⟨[1], 1, t9_2 m _, .inr ⟨by decide, by decide⟩⟩), .inr (.inr ⟨[1], 1, t9_3 m _, .inr ⟨by decide, by decide⟩⟩), .inr (.inr ⟨[1], 1, t9_4 m _, .inr ⟨by decide, by decide⟩⟩), .inr (.inr ⟨[1], 1, t9_5 m _, .inr ⟨by decide, by decide⟩⟩), .inr (.inr ⟨[1], 1, t9_6 m _, .inr ⟨by decide, by decide⟩⟩), .inr (.inr ⟨[1], 1, t9_7 m _, .inr ⟨by decide, by decide⟩⟩), .inr (.inr ⟨[1], 1, t9_8 m _, .inr ⟨by decide, by decide⟩⟩), .inr (.inr ⟨[1], 1, t9_9 m _, .inr ⟨by decide, by decide⟩⟩), .inr (.inr ⟨[1], 1, t9_10 m _, .inr ⟨by decide, by decide⟩⟩), .inr (.inr ⟨[1], 1, t9_11 m _, .inr ⟨by decide, by decide⟩⟩), .inr (.inr ⟨[1], 1, t9_12 m _, .inr ⟨by decide, by decide⟩⟩), .inr (.inr ⟨[1], 1, t9_13 m _, .inr ⟨by decide, by decide⟩⟩), .inr (.inr ⟨[1], 1, t9_14 m _, .inr ⟨by decide, by decide⟩⟩), .inr (.inr ⟨[1], 1, t9_15 m _, .inr ⟨by decide, by decide⟩⟩), .inr (.inr ⟨[1], 1, t9_16 m _, .inr ⟨by decide, by decide⟩⟩), .inr (.inr ⟨[1], 1, t9_17 m _, .inr ⟨by decide, by decide⟩⟩), .inr (.inr ⟨[1], 1, t9_18 m _, .inr ⟨by decide, by decide⟩⟩), .inr (.inr ⟨[1], 1, t9_19 m _, .inr ⟨by decide, by decide⟩⟩), .inr (.inr ⟨[1], 1, t9_20 m _, .inr ⟨by decide, by decide⟩⟩), .inr (.inr ⟨[1], 1, t9_21 m _, .inr ⟨by decide, by decide⟩⟩), .inr (.inr ⟨[1], 1, t9_22 m _, .inr ⟨by decide, by decide⟩⟩), .inr (.inr ⟨[1], 1, t9_23 m _, .inr ⟨by decide, by decide⟩⟩), .inr (.inr ⟨[1], 1, t9_24 m _, .inr ⟨by decide, by decide⟩⟩), .inr (.inr ⟨[1], 1, t9_25 m _, .inr ⟨by decide, by decide⟩⟩), .inr (.inr ⟨[1], 1, t9_26 m _, .inr ⟨by decide, by decide⟩⟩), .inr (.inr ⟨[1], 1, t9_27 m _, .inr ⟨by decide, by decide⟩⟩), .inr (.inr ⟨[1], 1, t9_28 m _, .inr ⟨by decide, by decide⟩⟩), .inr (.inr ⟨[1], 1, t9_29 m _, .inr ⟨by decide, by decide⟩⟩), .inr (.inr ⟨[1], 1, t9_30 m _, .inr ⟨by decide, by decide⟩⟩), .inr (.inr ⟨[1], 1, t9_31 m _, .inr ⟨by decide, by decide⟩⟩), e11 (t9_32 m _), e11 (t9_33 m _), .inr (.inr ⟨[1], 1, t9_34 m _, .inr ⟨by decide, by decide⟩⟩), e11 (t9_35 m _), e11 (t9_36 m _), e11 (t9_37 m _), e11 (t9_38 m _), e11 (t9_39 m _), e11 (t9_40 m _), e11 (t9_41 m _), trivial⟩
theorem tg10 (m : Int) (l : List Int) : AllP (fun p => TyG m [108, 101, 110, 103, 116, 104] p (besN l)) plN10 :=
 ⟨.inr (.inr ⟨[1], 2, t10_0 m _, .inr ⟨by decide, by decide⟩⟩), e11 (t10_1 m _), e11 (t10_2 m _), e11 (t10_3 m _), e11 (t10_4 m _), e11 (t10_5 m _), e11 (t10_6 m _), e11 (t10_7 m _), e11 (t10_8 m _), e11 (t10_9 m _), trivial⟩
theorem tg11 (m : Int) (l : List Int) : AllP (fun p => TyG m [112, 97, 114, 115, 101] p (besN l)) plN11 :=
 ⟨.inr (.inr ⟨[1], 2, t11_0 m _, .inr ⟨by decide, by decide⟩⟩), e11 (t11_1 m _), e11 (t11_2 m _), e11 (t11_3 m _), e11 (t11_4 m _), e11 (t11_5 m _), e11 (t11_6 m _), e11 (t11_7 m _), e11 (t11_8 m _), e11 (t11_9 m _), trivial⟩
theorem tg12 (m : Int) (l : List Int) : AllP (fun p => TyG m [112, 114, 105, 110, 116] p (besN l)) plN12 :=
 ⟨.inr (.inr ⟨[2], 1, t12_0 m _, .inr ⟨by decide, by decide⟩⟩), e11 (t12_1 m _), e11 (t12_2 m _), e11 (t12_3 m _), e11 (t12_4 m _), e11 (t12_5 m _), e11 (t12_6 m _), e11 (t12_7 m _), e11 (t12_8 m _), e11 (t12_9 m _), trivial⟩
theorem tg13 (m : Int) (l : List Int) : AllP (fun p => TyG m [97, 100, 100] p (besN l)) plN13 :=
 ⟨.inr (.inr ⟨[2, 2], 2, t13_0 m _, .inr ⟨by decide, by decide⟩⟩), e11 (t13_1 m _), e11 (t13_2 m _), e11 (t13_3 m _), e11 (t13_4 m _), e11 (t13_5 m _), e11 (t13_6 m _), e11 (t13_7 m _), e11 (t13_8 m _), e11 (t13_9 m _), trivial⟩
theorem tg14 (m : Int) (l : List Int) : AllP (fun p => TyG m [115, 117, 98] p (besN l)) plN14 :=
 ⟨.inr (.inr ⟨[2, 2], 2, t14_0 m _, .inr ⟨by decide, by decide⟩⟩), e11 (t14_1 m _), e11 (t14_2 m _), e11 (t14_3 m _), e11 (t14_4 m _), e11 (t14_5 m _), e11 (t14_6 m _), e11 (t14_7 m _), e11 (t14_8 m _), e11 (t14_9 m _), trivial⟩
theorem tg15 (m : Int) (l : List Int) : AllP (fun p => TyG m [109, 117, 108] p (besN l)) plN15 :=
 ⟨.inr (.inr ⟨[2, 2], 2, t15_0 m _, .inr ⟨by decide, by decide⟩⟩), e11 (t15_1 m _), e11 (t15_2 m _), e11 (t15_3 m _), e11 (t15_4 m _), e11 (t15_5 m _), e11 (t15_6 m _), e11 (t15_7 m _), e11 (t15_8 m _), e11 (t15_9 m _), trivial⟩
theorem tg16 (m : Int) (l : List Int) : AllP (fun p => TyG m [114, 111, 117, 110, 100] p (besN l)) plN16 :=
 ⟨.inr (.inr ⟨[2], 2, t16_0 m _, .inr ⟨by decide, by decide⟩⟩), .inr (.inr ⟨[2], 2, t16_1 m _, .inr ⟨by decide, by decide⟩⟩), .inr (.inr ⟨[2], 2, t16_2 m _, .inr ⟨by decide, by decide⟩⟩), .inr (.inr ⟨[2], 2, t16_3 m _, .inr ⟨by decide, by decide⟩⟩), e11 (t16_4 m _), e11 (t16_5 m _), e11 (t16_6 m _), e11 (t16_7 m _), e11 (t16_8 m _), e11 (t16_9 m _), e11 (t16_10 m _), e11 (t16_11 m _), e11 (t16_12 m _), e11 (t16_13 m _), trivial⟩
theorem tg17 (m : Int) (l : List Int) : AllP (fun p => TyG m [114, 101, 97, 100] p (besN l)) plN17 :=
 ⟨.inr (.inr ⟨[1], 3, t17_0 m _, .inr ⟨by decide, by decide⟩⟩), .inr (.inr ⟨[1], 3, t17_1 m _, .inr ⟨by decide, by decide⟩⟩), .inr (.inr ⟨[1], 3, t17_2 m _, .inr ⟨by decide, by decide⟩⟩), .inr (.inr ⟨[1], 3, t17_3 m _, .inr ⟨by decide, by decide⟩⟩), e11 (t17_4 m _), e11 (t17_5 m _), e11 (t17_6 m _), e11 (t17_7 m _), e11 (t17_8 m _), e11 (t17_9 m _), e11 (t17_10 m _), e11 (t17_11 m _), e11 (t17_12 m _), e11 (t17_13 m _), trivial⟩
theorem tg18 (m : Int) (l : List Int) : AllP (fun p => TyG m [115, 104, 111, 119] p (besN l)) plN18 :=
 ⟨.inr (.inr ⟨[3], 1, t18_0 m _, .inr ⟨by decide, by decide⟩⟩), .inr (.inr ⟨[3], 1, t18_1 m _, .inr ⟨by decide, by decide⟩⟩), .inr (.inr ⟨[3], 1, t18_2 m _, .inr ⟨by decide, by decide⟩⟩), .inr (.inr ⟨[3], 1, t18_3 m _, .inr ⟨by decide, by decide⟩⟩), e11 (t18_4 m _), e11 (t18_5 m _), e11 (t18_6 m _), e11 (t18_7 m _), e11 (t18_8 m _), e11 (t18_9 m _), e11 (t18_10 m _), e11 (t18_11 m _), e11 (t18_12 m _), e11 (t18_13 m _), trivial⟩
theorem tg19 (m : Int) (l : List Int) : AllP (fun p => TyG m [100, 97, 121, 115] p (besN l)) plN19 :=
 ⟨.inr (.inr ⟨[3, 2], 3, t19_0 m _, .inr ⟨by decide, by decide⟩⟩), e11 (t19_1 m _), e11 (t19_2 m _), e11 (t19_3 m _), e11 (t19_4 m _), e11 (t19_5 m _), e11 (t19_6 m _), e11 (t19_7 m _), e11 (t19_8 m _), e11 (t19_9 m _), trivial⟩
theorem tg20 (m : Int) (l : List Int) : AllP (fun p => TyG m [98, 101, 116, 119, 101, 101, 110] p (besN l)) plN20 :=
 ⟨.inr (.inr ⟨[3, 3], 2, t20_0 m _, .inr ⟨by decide, by decide⟩⟩), e11 (t20_1 m _), e11 (t20_2 m _), e11 (t20_3 m _), e11 (t20_4 m _), e11 (t20_5 m _), e11 (t20_6 m _), e11 (t20_7 m _), e11 (t20_8 m _), e11 (t20_9 m _), trivial⟩
theorem tg21 (m : Int) (l : List Int) : AllP (fun p => TyG m [101, 113, 117, 97, 108] p (besN l)) plN21 :=
 ⟨.inr (.inr ⟨[1, 1], 4, t21_0 m _, .inr ⟨by decide, by decide⟩⟩), .inr (.inr ⟨[2, 2], 4, t21_1 m _, .inr ⟨by decide, by decide⟩⟩), .inr (.inr ⟨[3, 3], 4, t21_2 m _, .inr ⟨by decide, by decide⟩⟩), e11 (t21_3 m _), e11 (t21_4 m _), e11 (t21_5 m _), e11 (t21_6 m _), e11 (t21_7 m _), e11 (t21_8 m _), e11 (t21_9 m _), e11 (t21_10 m _), e11 (t21_11 m _), e11 (t21_12 m _), trivial⟩
theorem tg22 (m : Int) (l : List Int) : AllP (fun p => TyG m [98, 101, 102, 111, 114, 101] p (besN l)) plN22 :=
 ⟨.inr (.inr ⟨[3, 3], 4, t22_0 m _, .inr ⟨by decide, by decide⟩⟩), e11 (t22_1 m _), e11 (t22_2 m _), e11 (t22_3 m _), e11 (t22_4 m _), e11 (t22_5 m _), e11 (t22_6 m _), e11 (t22_7 m _), e11 (t22_8 m _), e11 (t22_9 m _), trivial⟩
theorem tg23 (m : Int) (l : List Int) : AllP (fun p => TyG m [108, 101, 115, 115] p (besN l)) plN23 :=
 ⟨.inr (.inr ⟨[2, 2], 4, t23_0 m _, .inr ⟨by decide, by decide⟩⟩), e11 (t23_1 m _), e11 (t23_2 m _), e11 (t23_3 m _), e11 (t23_4 m _), e11 (t23_5 m _), e11 (t23_6 m _), e11 (t23_7 m _), e11 (t23_8 m _), e11 (t23_9 m _), trivial⟩
theorem tg24 (m : Int) (l : List Int) : AllP (fun p => TyG m [109, 97, 116, 99, 104] p (besN l)) plN24 :=
 ⟨.inr (.inr ⟨[1], 4, t24_0 m _, .inr ⟨by decide, by decide⟩⟩), .inr (.inr ⟨[1], 4, t24_1 m _, .inr ⟨by decide, by decide⟩⟩), .inr (.inr ⟨[1], 4, t24_2 m _, .inr ⟨by decide, by decide⟩⟩), .inr (.inr ⟨[1], 4, t24_3 m _, .inr ⟨by decide, by decide⟩⟩), .inr (.inr ⟨[1], 4, t24_4 m _, .inr ⟨by decide, by decide⟩⟩), .inr (.inr ⟨[1], 4, t24_5 m _, .inr ⟨by decide, by decide⟩⟩), .inr (.inr ⟨[1], 4, t24_6 m _, .inr ⟨by decide, by decide⟩⟩), .inr (.inr ⟨[1], 4, t24_7 m _, .inr ⟨by decide, by decide⟩⟩), .inr (.inr ⟨[1], 4, t24_8 m _, .inr ⟨by decide, by decide⟩⟩), .inr (.inr ⟨[1], 4, t24_9 m _, .inr ⟨by decide, by decide⟩⟩), .inr (.inr ⟨[1], 4, t24_10 m _, .inr ⟨by decide, by decide⟩⟩), .inr (.inr ⟨[1], 4, t24_11 m _, .inr ⟨by decide, by decide⟩⟩), .inr (.inr ⟨[1], 4, t24_12 m _, .inr ⟨by decide, by decide⟩⟩), .inr (.inr ⟨[1], 4, t24_13 m _, .inr ⟨by decide, by decide⟩⟩), .inr (.inr ⟨[1], 4, t24_14 m _, .inr ⟨by decide, by decide⟩⟩), .inr (.inr ⟨[1], 4, t24_15 m _, .inr ⟨by decide, by decide⟩⟩), trivial⟩
theorem tg25 (m : Int) (l : List Int) : AllP (fun p => TyG m [110, 111, 116] p (besN l)) plN25 :=
 ⟨.inr (.inr ⟨[4], 4, t25_0 m _, .inr ⟨by decide, by decide⟩⟩), e11 (t25_1 m _), e11 (t25_2 m _), e11 (t25_3 m _), e11 (t25_4 m _), e11 (t25_5 m _), e11 (t25_6 m _), e11 (t25_7 m _), e11 (t25_8 m _), e11 (t25_9 m _), trivial⟩
theorem tg26 (m : Int) (l : List Int) : AllP (fun p => TyG m [97, 110, 100] p (besN l)) plN26 :=
 ⟨.inr (.inr ⟨[4, 4], 4, t26_0 m _, .inr ⟨by decide, by decide⟩⟩), e11 (t26_1 m _), e11 (t26_2 m _), e11 (t26_3 m _), e11 (t26_4 m _), e11 (t26_5 m _), e11 (t26_6 m _), e11 (t26_7 m _), e11 (t26_8 m _), e11 (t26_9 m _), trivial⟩
theorem tg27 (m : Int) (l : List Int) : AllP (fun p => TyG m [105, 102] p (besN l)) plN27 :=
 ⟨.inr (.inr ⟨[4, 1, 1], 1, t27_0 m _, .inl ⟨rfl, by decide⟩⟩), .inr (.inr ⟨[4, 2, 2], 2, t27_1 m _, .inl ⟨rfl, by decide⟩⟩), .inr (.inr ⟨[4, 3, 3], 3, t27_2 m _, .inl ⟨rfl, by decide⟩⟩), .inr (.inr ⟨[4, 4, 4], 4, t27_3 m _, .inl ⟨rfl, by decide⟩⟩), .inr (.inr ⟨[4, 5, 5], 5, t27_4 m _, .inl ⟨rfl, by decide⟩⟩), e11 (t27_5 m _), e11 (t27_6 m _), e11 (t27_7 m _), e11 (t27_8 m _), e11 (t27_9 m _), e11 (t27_10 m _), e11 (t27_11 m _), e11 (t27_12 m _), e11 (t27_13 m _), e11 (t27_14 m _), trivial⟩
theorem tg28 (m : Int) (l : List Int) : AllP (fun p => TyG m [108, 111, 111, 107, 117, 112] p (besN l)) plN28 :=
 ⟨tyG_wk (ck_tyG (ck0 m l) (fun h => .inr (.inr ⟨[1], 2, t28_0_0 m _ h, .inr ⟨by decide, by decide⟩⟩)) (fun h => .inl ⟨13, by decide, t28_0_13 m _ h⟩) (fun h => .inl ⟨14, by decide, t28_0_14 m _ h⟩)), tyG_wk (ck_tyG (ck1 m l) (fun h => .inr (.inr ⟨[1], 3, t28_1_0 m _ h, .inr ⟨by decide, by decide⟩⟩)) (fun h => .inl ⟨13, by decide, t28_1_13 m _ h⟩) (fun h => .inl ⟨14, by decide, t28_1_14 m _ h⟩)), tyG_wk (ck_tyG (ck2 m l) (fun h => .inr (.inr ⟨[1], 4, t28_2_0 m _ h, .inr ⟨by decide, by decide⟩⟩)) (fun h => .inl ⟨13, by decide, t28_2_13 m _ h⟩) (fun h => .inl ⟨14, by decide, t28_2_14 m _ h⟩)), tyG_wk (ck_tyG (ck3 m l) (fun h => .inr (.inr ⟨[1], 1, t28_3_0 m _ h, .inr ⟨by decide, by decide⟩⟩)) (fun h => .inl ⟨13, by decide, t28_3_13 m _ h⟩) (fun h => .inl ⟨14, by decide, t28_3_14 m _ h⟩)), tyG_wk (ck_tyG (ck4 m l) (fun h => .inr (.inr ⟨[1], 2, t28_4_0 m _ h, .inr ⟨by decide, by decide⟩⟩)) (fun h => .inl ⟨13, by decide, t28_4_13 m _ h⟩) (fun h => .inl ⟨14, by decide, t28_4_14 m _ h⟩)), tyG_wk (ck_tyG (ck5 m l) (fun h => .inr (.inr ⟨[1], 1, t28_5_0 m _ h, .inr ⟨by decide, by decide⟩⟩)) (fun h => .inl ⟨13, by decide, t28_5_13 m _ h⟩) (fun h => .inl ⟨14, by decide, t28_5_14 m _ h⟩)), tyG_wk (ck_tyG (ck6 m l) (fun h => .inr (.inr ⟨[1], 1, t28_6_0 m _ h, .inr ⟨by decide, by decide⟩⟩)) (fun h => .inl ⟨13, by decide, t28_6_13 m _ h⟩) (fun h => .inl ⟨14, by decide, t28_6_14 m _ h⟩)), tyG_wk (ck_tyG (ck7 m l) (fun h => .inr (.inr ⟨[1], 1, t28_7_0 m _ h, .inr ⟨by decide, by decide⟩⟩)) (fun h => .inl ⟨13, by decide, t28_7_13 m _ h⟩) (fun h => .inl ⟨14, by decide, t28_7_14 m _ h⟩)), tyG_wk (ck_tyG (ck8 m l) (fun h => .inr (.inr ⟨[1], 1, t28_8_0 m _ h, .inr ⟨by decide, by decide⟩⟩)) (fun h => .inl ⟨13, by decide, t28_8_13 m _ h⟩) (fun h => .inl ⟨14, by decide, t28_8_14 m _ h⟩)), tyG_wk (ck_tyG (ck9 m l) (fun h => .inr (.inr ⟨[1], 1, t28_9_0 m _ h, .inr ⟨by decide, by decide⟩⟩)) (fun h => .inl ⟨13, by decide, t28_9_13 m _ h⟩) (fun h => .inl ⟨14, by decide, t28_9_14 m _ h⟩)), e11 (t28_10 m _), e11 (t28_11 m _), e11 (t28_12 m _), e11 (t28_13 m _), e11 (t28_14 m _), e11 (t28_15 m _), e11 (t28_16 m _), e11 (t28_17 m _), e11 (t28_18 m _), e11 (t28_19 m _), trivial⟩
theorem tg29 (m : Int) (l : List Int) : AllP (fun p => TyG m [116, 97, 98, 108, 101] p (besN l)) plN29 :=
 ⟨tyG_wk (.inr (.inl ⟨5, t29_0 m _ _ _ (ftRates m _ _ _ _ (rates_tab l))⟩)), tyG_wk (.inr (.inl ⟨5, t29_1 m _ _ _ (ftTowns m _ _ _ _ (towns_tab (bT l)))⟩)), tyG_wk (.inl ⟨13, by decide, t29_2 m _ [] [] (ftNo_none m _ _ _ _)⟩), e11 (t29_3 m _), tyG_wk (.inl ⟨13, by decide, t29_4 m _ [] [] (ftNo_x m _ _ _ _)⟩), e11 (t29_5 m _), e11 (t29_6 m _), e11 (t29_7 m _), e11 (t29_8 m _), e11 (t29_9 m _), e11 (t29_10 m _), e11 (t29_11 m _), e11 (t29_12 m _), trivial⟩
theorem tg30 (m : Int) (l : List Int) : AllP (fun p => TyG m [119, 104, 101, 114, 101] p (besN l)) plN30 :=
 ⟨.inr (.inr ⟨[5, 1], 5, t30_0 m _, .inr ⟨by decide, by decide⟩⟩), .inr (.inr ⟨[5, 1], 5, t30_1 m _, .inr ⟨by decide, by decide⟩⟩), .inr (.inr ⟨[5, 1], 5, t30_2 m _, .inr ⟨by decide, by decide⟩⟩), .inr (.inr ⟨[5, 1], 5, t30_3 m _, .inr ⟨by decide, by decide⟩⟩), .inr (.inr ⟨[5, 1], 5, t30_4 m _, .inr ⟨by decide, by decide⟩⟩), .inr (.inr ⟨[5, 1], 5, t30_5 m _, .inr ⟨by decide, by decide⟩⟩), e11 (t30_6 m _), .inr (.inr ⟨[5, 1], 5, t30_7 m _, .inr ⟨by decide, by decide⟩⟩), e11 (t30_8 m _), e11 (t30_9 m _), e11 (t30_10 m _), e11 (t30_11 m _), e11 (t30_12 m _), e11 (t30_13 m _), e11 (t30_14 m _), e11 (t30_15 m _), trivial⟩
theorem tg31 (m : Int) (l : List Int) : AllP (fun p => TyG m [106, 111, 105, 110] p (besN l)) plN31 :=
 ⟨.inr (.inr ⟨[5, 5], 5, t31_0 m _, .inr ⟨by decide, by decide⟩⟩), .inr (.inr ⟨[5, 5], 5, t31_1 m _, .inr ⟨by decide, by decide⟩⟩), .inr (.inr ⟨[5, 5], 5, t31_2 m _, .inr ⟨by decide, by decide⟩⟩), .inr (.inr ⟨[5, 5], 5, t31_3 m _, .inr ⟨by decide, by decide⟩⟩), .inr (.inr ⟨[5, 5], 5, t31_4 m _, .inr ⟨by decide, by decide⟩⟩), .inr (.inr ⟨[5, 5], 5, t31_5 m _, .inr ⟨by decide, by decide⟩⟩), e11 (t31_6 m _), .inr (.inr ⟨[5, 5], 5, t31_7 m _, .inr ⟨by decide, by decide⟩⟩), e11 (t31_8 m _), e11 (t31_9 m _), e11 (t31_10 m _), e11 (t31_11 m _), e11 (t31_12 m _), e11 (t31_13 m _), e11 (t31_14 m _), e11 (t31_15 m _), trivial⟩
theorem tg32 (m : Int) (l : List Int) : AllP (fun p => TyG m [112, 105, 99, 107] p (besN l)) plN32 :=
 ⟨.inr (.inr ⟨[5], 5, t32_0 m _, .inr ⟨by decide, by decide⟩⟩), .inr (.inr ⟨[5], 5, t32_1 m _, .inr ⟨by decide, by decide⟩⟩), .inr (.inr ⟨[5], 5, t32_2 m _, .inr ⟨by decide, by decide⟩⟩), .inr (.inr ⟨[5], 5, t32_3 m _, .inr ⟨by decide, by decide⟩⟩), .inr (.inr ⟨[5], 5, t32_4 m _, .inr ⟨by decide, by decide⟩⟩), .inr (.inr ⟨[5], 5, t32_5 m _, .inr ⟨by decide, by decide⟩⟩), .inr (.inr ⟨[5], 5, t32_6 m _, .inr ⟨by decide, by decide⟩⟩), e11 (t32_7 m _), .inr (.inr ⟨[5], 5, t32_8 m _, .inr ⟨by decide, by decide⟩⟩), e11 (t32_9 m _), e11 (t32_10 m _), e11 (t32_11 m _), e11 (t32_12 m _), e11 (t32_13 m _), e11 (t32_14 m _), e11 (t32_15 m _), e11 (t32_16 m _), trivial⟩
theorem tg33 (m : Int) (l : List Int) : AllP (fun p => TyG m [115, 117, 109] p (besN l)) plN33 :=
 ⟨.inr (.inr ⟨[5], 2, t33_0 m _, .inr ⟨by decide, by decide⟩⟩), .inr (.inr ⟨[5], 2, t33_1 m _, .inr ⟨by decide, by decide⟩⟩), .inr (.inr ⟨[5], 2, t33_2 m _, .inr ⟨by decide, by decide⟩⟩), .inr (.inr ⟨[5], 2, t33_3 m _, .inr ⟨by decide, by decide⟩⟩), .inr (.inr ⟨[5], 2, t33_4 m _, .inr ⟨by decide, by decide⟩⟩), .inr (.inr ⟨[5], 2, t33_5 m _, .inr ⟨by decide, by decide⟩⟩), .inr (.inr ⟨[5], 2, t33_6 m _, .inr ⟨by decide, by decide⟩⟩), .inr (.inr ⟨[5], 2, t33_7 m _, .inr ⟨by decide, by decide⟩⟩), .inr (.inr ⟨[5], 2, t33_8 m _, .inr ⟨by decide, by decide⟩⟩), .inr (.inr ⟨[5], 2, t33_9 m _, .inr ⟨by decide, by decide⟩⟩), .inr (.inr ⟨[5], 2, t33_10 m _, .inr ⟨by decide, by decide⟩⟩), .inr (.inr ⟨[5], 2, t33_11 m _, .inr ⟨by decide, by decide⟩⟩), .inr (.inr ⟨[5], 2, t33_12 m _, .inr ⟨by decide, by decide⟩⟩), .inr (.inr ⟨[5], 2, t33_13 m _, .inr ⟨by decide, by decide⟩⟩), .inr (.inr ⟨[5], 2, t33_14 m _, .inr ⟨by decide, by decide⟩⟩), .inr (.inr ⟨[5], 2, t33_15 m _, .inr ⟨by decide, by decide⟩⟩), .inr (.inr ⟨[5], 2, t33_16 m _, .inr ⟨by decide, by decide⟩⟩), .inr (.inr ⟨[5], 2, t33_17 m _, .inr ⟨by decide, by decide⟩⟩), .inr (.inr ⟨[5], 2, t33_18 m _, .inr ⟨by decide, by decide⟩⟩), .inr (.inr ⟨[5], 2, t33_19 m _, .inr ⟨by decide, by decide⟩⟩), e11 (t33_20 m _), e11 (t33_21 m _), e11 (t33_22 m _), e11 (t33_23 m _), e11 (t33_24 m _), e11 (t33_25 m _), e11 (t33_26 m _), e11 (t33_27 m _), e11 (t33_28 m _), e11 (t33_29 m _), trivial⟩
theorem tg34 (m : Int) (l : List Int) : AllP (fun p => TyG m [99, 111, 117, 110, 116] p (besN l)) plN34 :=
 ⟨.inr (.inr ⟨[5], 2, t34_0 m _, .inr ⟨by decide, by decide⟩⟩), e11 (t34_1 m _), e11 (t34_2 m _), e11 (t34_3 m _), e11 (t34_4 m _), e11 (t34_5 m _), e11 (t34_6 m _), e11 (t34_7 m _), e11 (t34_8 m _), e11 (t34_9 m _), trivial⟩
theorem tg35 (m : Int) (l : List Int) : AllP (fun p => TyG m [102, 105, 114, 115, 116] p (besN l)) plN35 :=
 ⟨.inr (.inr ⟨[5], 1, t35_0 m _, .inr ⟨by decide, by decide⟩⟩), .inr (.inr ⟨[5], 2, t35_1 m _, .inr ⟨by decide, by decide⟩⟩), .inr (.inr ⟨[5], 3, t35_2 m _, .inr ⟨by decide, by decide⟩⟩), .inr (.inr ⟨[5], 4, t35_3 m _, .inr ⟨by decide, by decide⟩⟩), .inr (.inr ⟨[5], 1, t35_4 m _, .inr ⟨by decide, by decide⟩⟩), .inr (.inr ⟨[5], 2, t35_5 m _, .inr ⟨by decide, by decide⟩⟩), .inr (.inr ⟨[5], 3, t35_6 m _, .inr ⟨by decide, by decide⟩⟩), .inr (.inr ⟨[5], 4, t35_7 m _, .inr ⟨by decide, by decide⟩⟩), .inr (.inr ⟨[5], 1, t35_8 m _, .inr ⟨by decide, by decide⟩⟩), .inr (.inr ⟨[5], 2, t35_9 m _, .inr ⟨by decide, by decide⟩⟩), .inr (.inr ⟨[5], 3, t35_10 m _, .inr ⟨by decide, by decide⟩⟩), .inr (.inr ⟨[5], 4, t35_11 m _, .inr ⟨by decide, by decide⟩⟩), .inr (.inr ⟨[5], 1, t35_12 m _, .inr ⟨by decide, by decide⟩⟩), .inr (.inr ⟨[5], 2, t35_13 m _, .inr ⟨by decide, by decide⟩⟩), .inr (.inr ⟨[5], 3, t35_14 m _, .inr ⟨by decide, by decide⟩⟩), .inr (.inr ⟨[5], 4, t35_15 m _, .inr ⟨by decide, by decide⟩⟩), .inr (.inr ⟨[5], 1, t35_16 m _, .inr ⟨by decide, by decide⟩⟩), .inr (.inr ⟨[5], 2, t35_17 m _, .inr ⟨by decide, by decide⟩⟩), .inr (.inr ⟨[5], 3, t35_18 m _, .inr ⟨by decide, by decide⟩⟩), .inr (.inr ⟨[5], 4, t35_19 m _, .inr ⟨by decide, by decide⟩⟩), .inr (.inr ⟨[5], 1, t35_20 m _, .inr ⟨by decide, by decide⟩⟩), .inr (.inr ⟨[5], 2, t35_21 m _, .inr ⟨by decide, by decide⟩⟩), .inr (.inr ⟨[5], 3, t35_22 m _, .inr ⟨by decide, by decide⟩⟩), .inr (.inr ⟨[5], 4, t35_23 m _, .inr ⟨by decide, by decide⟩⟩), e11 (t35_24 m _), e11 (t35_25 m _), e11 (t35_26 m _), e11 (t35_27 m _), e11 (t35_28 m _), e11 (t35_29 m _), e11 (t35_30 m _), e11 (t35_31 m _), e11 (t35_32 m _), trivial⟩
theorem good_all (m : Int) (l : List Int) : AllP (fun op => ∀ q0 q1 q2 : Int, ∃ p, TyG m op p (besN l) ∧ pP m op q0 q1 q2 p) ops36 :=
 ⟨fun q0 q1 q2 => good_of (tg0 m l) (param0 m q0 q1 q2), fun q0 q1 q2 => good_of (tg1 m l) (param1 m q0 q1 q2), fun q0 q1 q2 => good_of (tg2 m l) (param2 m q0 q1 q2), fun q0 q1 q2 => good_of (tg3 m l) (param3 m q0 q1 q2), fun q0 q1 q2 => good_of (tg4 m l) (param4 m q0 q1 q2), fun q0 q1 q2 => good_of (tg5 m l) (param5 m q0 q1 q2), fun q0 q1 q2 => good_of (tg6 m l) (param6 m q0 q1 q2), fun q0 q1 q2 => good_of (tg7 m l) (param7 m q0 q1 q2), fun q0 q1 q2 => good_of (tg8 m l) (param8 m q0 q1 q2), fun q0 q1 q2 => good_of (tg9 m l) (param9 m q0 q1 q2), fun q0 q1 q2 => good_of (tg10 m l) (param10 m q0 q1 q2), fun q0 q1 q2 => good_of (tg11 m l) (param11 m q0 q1 q2), fun q0 q1 q2 => good_of (tg12 m l) (param12 m q0 q1 q2), fun q0 q1 q2 => good_of (tg13 m l) (param13 m q0 q1 q2), fun q0 q1 q2 => good_of (tg14 m l) (param14 m q0 q1 q2), fun q0 q1 q2 => good_of (tg15 m l) (param15 m q0 q1 q2), fun q0 q1 q2 => good_of (tg16 m l) (param16 m q0 q1 q2), fun q0 q1 q2 => good_of (tg17 m l) (param17 m q0 q1 q2), fun q0 q1 q2 => good_of (tg18 m l) (param18 m q0 q1 q2), fun q0 q1 q2 => good_of (tg19 m l) (param19 m q0 q1 q2), fun q0 q1 q2 => good_of (tg20 m l) (param20 m q0 q1 q2), fun q0 q1 q2 => good_of (tg21 m l) (param21 m q0 q1 q2), fun q0 q1 q2 => good_of (tg22 m l) (param22 m q0 q1 q2), fun q0 q1 q2 => good_of (tg23 m l) (param23 m q0 q1 q2), fun q0 q1 q2 => good_of (tg24 m l) (param24 m q0 q1 q2), fun q0 q1 q2 => good_of (tg25 m l) (param25 m q0 q1 q2), fun q0 q1 q2 => good_of (tg26 m l) (param26 m q0 q1 q2), fun q0 q1 q2 => good_of (tg27 m l) (param27 m q0 q1 q2), fun q0 q1 q2 => good_of (tg28 m l) (param28 m q0 q1 q2), fun q0 q1 q2 => good_of (tg29 m l) (param29 m q0 q1 q2), fun q0 q1 q2 => good_of (tg30 m l) (param30 m q0 q1 q2), fun q0 q1 q2 => good_of (tg31 m l) (param31 m q0 q1 q2), fun q0 q1 q2 => good_of (tg32 m l) (param32 m q0 q1 q2), fun q0 q1 q2 => good_of (tg33 m l) (param33 m q0 q1 q2), fun q0 q1 q2 => good_of (tg34 m l) (param34 m q0 q1 q2), fun q0 q1 q2 => good_of (tg35 m l) (param35 m q0 q1 q2), trivial⟩
theorem strict_ty (m opn q0 q1 q2 a e0 e1 : Int) (op p : List UInt8) (as_ : List (List D)) (rw bs : List Int) (ha : 0 ≤ a ∧ a ≤ 255) (he0 : 0 ≤ e0) (he1 : 0 ≤ e1) (hnb : NumOk bs 0)
  (hOp : oP m opn op) (hPa : pP m op q0 q1 q2 p) (hG : TyG m op p (besN bs)) : oS m opn q0 q1 q2 a e0 e1 as_ (intsD rw) (intsD bs) := by
 have hBa : bP m (intsD bs) (besN bs) := base11_ok m bs hnb
 have hRo : rP m (intsD rw) (valsD (rwV rw cols11 0).1) := row11_of (g := gT m) rw (columns11_ok m)
 have hLz : lP m op (decide (op = [105, 102])) := lazy11_ok (g := gT m) op
 have hw : IntKind.i64.wrap a = a := wrap_small (by omega) (by omega)
 have a1 := Int.tmod_nonneg 1 ha.1
 have b1 := Int.tmod_lt_of_pos a (b := 1) (by decide)
 have a2 := Int.tmod_nonneg 2 ha.1
 have b2 := Int.tmod_lt_of_pos a (b := 2) (by decide)
 have a3 := Int.tmod_nonneg 3 ha.1
 have b3 := Int.tmod_lt_of_pos a (b := 3) (by decide)
 rcases hG with ⟨e, he, hTy⟩ | ⟨kd, hTy⟩ | ⟨ks, kd, hTy, ⟨ho, hk⟩ | ⟨ho, hk⟩⟩
 ·rcases he with rfl | rfl | rfl
  ·exact mErr11 m opn q0 q1 q2 a e0 e1 0 op p as_ (intsD rw) (intsD bs) (besN bs) [] hOp hPa hBa hTy
  ·exact mErr13 m opn q0 q1 q2 a e0 e1 0 op p as_ (intsD rw) (intsD bs) (besN bs) [] hOp hPa hBa hTy
  ·exact mErr14 m opn q0 q1 q2 a e0 e1 0 op p as_ (intsD rw) (intsD bs) (besN bs) [] hOp hPa hBa hTy
 ·exact mNo m opn q0 q1 q2 a e0 e1 _ op p as_ (intsD rw) (intsD bs) (besN bs) [] hOp hPa hBa hTy
 ·rw [decide_eq_true ho] at hLz
  simp only [lzL, List.mem_cons, List.not_mem_nil, or_false] at hk
  rcases hk with rfl | rfl | rfl | rfl | rfl
  ·rcases (by omega : a.tmod 3 = 0 ∨ a.tmod 3 = 1 ∨ a.tmod 3 = 2) with h | h | h
   ·exact z411_0 m opn q0 q1 q2 a e0 e1 _ op p as_ (intsD rw) (intsD bs) (besN bs) _ hOp hPa hBa hTy he0 he1 hRo hLz (by rw [hw]; exact h)
   ·exact z411_1 m opn q0 q1 q2 a e0 e1 _ op p as_ (intsD rw) (intsD bs) (besN bs) _ hOp hPa hBa hTy he0 he1 hRo hLz (by rw [hw]; exact h)
   ·exact z411_2 m opn q0 q1 q2 a e0 e1 _ op p as_ (intsD rw) (intsD bs) (besN bs) _ hOp hPa hBa hTy he0 he1 hRo hLz (by rw [hw]; exact h)
  ·rcases (by omega : a.tmod 3 = 0 ∨ a.tmod 3 = 1 ∨ a.tmod 3 = 2) with h | h | h
   ·exact z422_0 m opn q0 q1 q2 a e0 e1 _ op p as_ (intsD rw) (intsD bs) (besN bs) _ hOp hPa hBa hTy he0 he1 hRo hLz (by rw [hw]; exact h)
   ·exact z422_1 m opn q0 q1 q2 a e0 e1 _ op p as_ (intsD rw) (intsD bs) (besN bs) _ hOp hPa hBa hTy he0 he1 hRo hLz (by rw [hw]; exact h)
   ·exact z422_2 m opn q0 q1 q2 a e0 e1 _ op p as_ (intsD rw) (intsD bs) (besN bs) _ hOp hPa hBa hTy he0 he1 hRo hLz (by rw [hw]; exact h)
  ·rcases (by omega : a.tmod 3 = 0 ∨ a.tmod 3 = 1 ∨ a.tmod 3 = 2) with h | h | h
   ·exact z433_0 m opn q0 q1 q2 a e0 e1 _ op p as_ (intsD rw) (intsD bs) (besN bs) _ hOp hPa hBa hTy he0 he1 hRo hLz (by rw [hw]; exact h)
   ·exact z433_1 m opn q0 q1 q2 a e0 e1 _ op p as_ (intsD rw) (intsD bs) (besN bs) _ hOp hPa hBa hTy he0 he1 hRo hLz (by rw [hw]; exact h)
   ·exact z433_2 m opn q0 q1 q2 a e0 e1 _ op p as_ (intsD rw) (intsD bs) (besN bs) _ hOp hPa hBa hTy he0 he1 hRo hLz (by rw [hw]; exact h)
  ·rcases (by omega : a.tmod 3 = 0 ∨ a.tmod 3 = 1 ∨ a.tmod 3 = 2) with h | h | h
   ·exact z444_0 m opn q0 q1 q2 a e0 e1 _ op p as_ (intsD rw) (intsD bs) (besN bs) _ hOp hPa hBa hTy he0 he1 hRo hLz (by rw [hw]; exact h)
   ·exact z444_1 m opn q0 q1 q2 a e0 e1 _ op p as_ (intsD rw) (intsD bs) (besN bs) _ hOp hPa hBa hTy he0 he1 hRo hLz (by rw [hw]; exact h)
   ·exact z444_2 m opn q0 q1 q2 a e0 e1 _ op p as_ (intsD rw) (intsD bs) (besN bs) _ hOp hPa hBa hTy he0 he1 hRo hLz (by rw [hw]; exact h)
  ·rcases (by omega : a.tmod 3 = 0 ∨ a.tmod 3 = 1 ∨ a.tmod 3 = 2) with h | h | h
   ·exact z455_0 m opn q0 q1 q2 a e0 e1 _ op p as_ (intsD rw) (intsD bs) (besN bs) _ hOp hPa hBa hTy he0 he1 hRo hLz (by rw [hw]; exact h)
   ·exact z455_1 m opn q0 q1 q2 a e0 e1 _ op p as_ (intsD rw) (intsD bs) (besN bs) _ hOp hPa hBa hTy he0 he1 hRo hLz (by rw [hw]; exact h)
   ·exact z455_2 m opn q0 q1 q2 a e0 e1 _ op p as_ (intsD rw) (intsD bs) (besN bs) _ hOp hPa hBa hTy he0 he1 hRo hLz (by rw [hw]; exact h)
 ·rw [decide_eq_false ho] at hLz
  simp only [ksL, List.mem_cons, List.not_mem_nil, or_false] at hk
  rcases hk with rfl | rfl | rfl | rfl | rfl | rfl | rfl | rfl | rfl | rfl | rfl | rfl
  ·exact m1_0 m opn q0 q1 q2 a e0 e1 _ op p as_ (intsD rw) (intsD bs) (besN bs) _ hOp hPa hBa hTy he0 he1 hRo hLz (by rw [hw]; omega)
  ·rcases (by omega : a.tmod 2 = 0 ∨ a.tmod 2 = 1) with h | h
   ·exact m11_0 m opn q0 q1 q2 a e0 e1 _ op p as_ (intsD rw) (intsD bs) (besN bs) _ hOp hPa hBa hTy he0 he1 hRo hLz (by rw [hw]; exact h)
   ·exact m11_1 m opn q0 q1 q2 a e0 e1 _ op p as_ (intsD rw) (intsD bs) (besN bs) _ hOp hPa hBa hTy he0 he1 hRo hLz (by rw [hw]; exact h)
  ·exact m2_0 m opn q0 q1 q2 a e0 e1 _ op p as_ (intsD rw) (intsD bs) (besN bs) _ hOp hPa hBa hTy he0 he1 hRo hLz (by rw [hw]; omega)
  ·rcases (by omega : a.tmod 2 = 0 ∨ a.tmod 2 = 1) with h | h
   ·exact m22_0 m opn q0 q1 q2 a e0 e1 _ op p as_ (intsD rw) (intsD bs) (besN bs) _ hOp hPa hBa hTy he0 he1 hRo hLz (by rw [hw]; exact h)
   ·exact m22_1 m opn q0 q1 q2 a e0 e1 _ op p as_ (intsD rw) (intsD bs) (besN bs) _ hOp hPa hBa hTy he0 he1 hRo hLz (by rw [hw]; exact h)
  ·exact m3_0 m opn q0 q1 q2 a e0 e1 _ op p as_ (intsD rw) (intsD bs) (besN bs) _ hOp hPa hBa hTy he0 he1 hRo hLz (by rw [hw]; omega)
  ·rcases (by omega : a.tmod 2 = 0 ∨ a.tmod 2 = 1) with h | h
   ·exact m32_0 m opn q0 q1 q2 a e0 e1 _ op p as_ (intsD rw) (intsD bs) (besN bs) _ hOp hPa hBa hTy he0 he1 hRo hLz (by rw [hw]; exact h)
   ·exact m32_1 m opn q0 q1 q2 a e0 e1 _ op p as_ (intsD rw) (intsD bs) (besN bs) _ hOp hPa hBa hTy he0 he1 hRo hLz (by rw [hw]; exact h)
  ·rcases (by omega : a.tmod 2 = 0 ∨ a.tmod 2 = 1) with h | h
   ·exact m33_0 m opn q0 q1 q2 a e0 e1 _ op p as_ (intsD rw) (intsD bs) (besN bs) _ hOp hPa hBa hTy he0 he1 hRo hLz (by rw [hw]; exact h)
   ·exact m33_1 m opn q0 q1 q2 a e0 e1 _ op p as_ (intsD rw) (intsD bs) (besN bs) _ hOp hPa hBa hTy he0 he1 hRo hLz (by rw [hw]; exact h)
  ·exact m4_0 m opn q0 q1 q2 a e0 e1 _ op p as_ (intsD rw) (intsD bs) (besN bs) _ hOp hPa hBa hTy he0 he1 hRo hLz (by rw [hw]; omega)
  ·rcases (by omega : a.tmod 2 = 0 ∨ a.tmod 2 = 1) with h | h
   ·exact m44_0 m opn q0 q1 q2 a e0 e1 _ op p as_ (intsD rw) (intsD bs) (besN bs) _ hOp hPa hBa hTy he0 he1 hRo hLz (by rw [hw]; exact h)
   ·exact m44_1 m opn q0 q1 q2 a e0 e1 _ op p as_ (intsD rw) (intsD bs) (besN bs) _ hOp hPa hBa hTy he0 he1 hRo hLz (by rw [hw]; exact h)
  ·exact m5_0 m opn q0 q1 q2 a e0 e1 _ op p as_ (intsD rw) (intsD bs) (besN bs) _ hOp hPa hBa hTy he0 he1 hRo hLz (by rw [hw]; omega)
  ·rcases (by omega : a.tmod 2 = 0 ∨ a.tmod 2 = 1) with h | h
   ·exact m51_0 m opn q0 q1 q2 a e0 e1 _ op p as_ (intsD rw) (intsD bs) (besN bs) _ hOp hPa hBa hTy he0 he1 hRo hLz (by rw [hw]; exact h)
   ·exact m51_1 m opn q0 q1 q2 a e0 e1 _ op p as_ (intsD rw) (intsD bs) (besN bs) _ hOp hPa hBa hTy he0 he1 hRo hLz (by rw [hw]; exact h)
  ·rcases (by omega : a.tmod 2 = 0 ∨ a.tmod 2 = 1) with h | h
   ·exact m55_0 m opn q0 q1 q2 a e0 e1 _ op p as_ (intsD rw) (intsD bs) (besN bs) _ hOp hPa hBa hTy he0 he1 hRo hLz (by rw [hw]; exact h)
   ·exact m55_1 m opn q0 q1 q2 a e0 e1 _ op p as_ (intsD rw) (intsD bs) (besN bs) _ hOp hPa hBa hTy he0 he1 hRo hLz (by rw [hw]; exact h)
theorem strict_ok (m opn q0 q1 q2 a e0 e1 : Int) (as_ : List (List D)) (rw bs : List Int) (ha : 0 ≤ a ∧ a ≤ 255) (he0 : 0 ≤ e0) (he1 : 0 ≤ e1) (hnb : NumOk bs 0) : oS m opn q0 q1 q2 a e0 e1 as_ (intsD rw) (intsD bs) := by
 have h9 := md5_bd (a := opn) (n := ((strs ops36).length : Int)) (by decide)
 have h8 : (strs ops36).length = 36 := rfl
 obtain ⟨p, hG, hPa⟩ := (good_all m bs).get _ (getD_mem (z := []) (k := (md5 opn (strs ops36).length).toNat) (by show _ < 36; omega)) q0 q1 q2
 exact strict_ty m opn q0 q1 q2 a e0 e1 _ p as_ rw bs ha he0 he1 hnb (op11_of (g := gT m) opn (names11_ok m)) hPa hG
end Go.Proofs.YtdejnaokkdndeaaGreatDoor
