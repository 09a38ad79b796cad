/- Part 36 of the proof: texts G4, O1, N0, N1, N2, N3, G5, E8. -/
import Derived.Test.YtmpgfchkkemngaaGreatDoorP35
import Derived.Lib.Small
set_option linter.all false
namespace Go.Proofs.YtmpgfchkkemngaaGreatDoor
open Go.RowKit Go.V
open Go.Eng (inR byteAt u8 bytesV)
variable {m : Int}
def kdC (k : Int) (a b : Cl) : Int := if k = 1 then Lib.compareBytes a.s b.s else if k = 2 then decCmp a.dn a.ds b.dn b.ds else Lib.compareInt a.n b.n
def clC (a b : Cl) : Int := if a.kind = b.kind then kdC a.kind a b else Lib.compareInt a.kind b.kind
def Vl.c (v : Vl) : Cl := ⟨v.kind, v.s, v.dn, v.ds, v.n⟩
def tbC (a b : Vl) : Int := if listC Lib.compareBytes a.cols b.cols = 0 then listC (listC clC) a.rows b.rows else listC Lib.compareBytes a.cols b.cols
def vlC (a b : Vl) : Int := if a.kind = 5 then tbC a b else kdC a.kind a.c b.c
def lessB (a b : Vl) : Bool := if rightB a = true ∧ rightB b = true then (if a.kind = b.kind then decide (vlC a b < 0) else decide (a.kind < b.kind)) else rightB a
structure Cl.ord (c : Cl) : Prop where
 k0 : 0 ≤ c.kind
 k4 : c.kind ≤ 4
 d : c.kind = 2 → decB c.dn c.ds = true
theorem ord_of {T : Bool} {v : Vl} (h : rightK T v = true) : 0 ≤ v.kind ∧ v.kind ≤ 5 ∧ (v.kind = 2 → decB v.dn v.ds = true) ∧ (v.kind = 5 → T = true) := by
 unfold rightK at h
 by_cases h0 : v.kind = 0
 ·omega
 ·by_cases h1 : v.kind = 1
  ·omega
  ·by_cases h2 : v.kind = 2
   ·simp only [h2] at h
    simp at h
    exact ⟨by omega, by omega, fun _ => h.1, by omega⟩
   ·by_cases h3 : v.kind = 3
    ·omega
    ·by_cases h4 : v.kind = 4
     ·omega
     ·by_cases h5 : v.kind = 5
      ·simp only [h5] at h
       simp at h
       exact ⟨by omega, by omega, by omega, fun _ => h.1⟩
      ·simp [h0, h1, h2, h3, h4, h5] at h
theorem cell_ord {c : Cl} (hk : ¬ c.kind = 5) (h : rightK false c.toV = true) : c.ord := by
 obtain ⟨a, b, d, _⟩ := ord_of h
 have a' : 0 ≤ c.kind := a
 have b' : c.kind ≤ 5 := b
 exact ⟨a', by omega, d⟩
theorem getD_at {α : Type} {l : List α} {i : Nat} {z : α} (h : i < l.length) : l.getD i z = l[i] := by simp [h]
theorem table_ord {cols : List (List UInt8)} {rows : List (List Cl)} (h : tableB cols rows = true) : ∀ r, r ∈ rows → ∀ c, c ∈ r → c.ord := by
 intro r hr c hc
 simp only [tableB, Bool.and_eq_true] at h
 obtain ⟨i, hi, rfl⟩ := List.mem_iff_getElem.1 hr
 obtain ⟨j, hj, rfl⟩ := List.mem_iff_getElem.1 hc
 have h1 := allR_get h.2 hi
 simp only [rowAt, Bool.and_eq_true, decide_eq_true_eq, getD_at hi] at h1
 have h2 := allR_get h1.2 hj
 simp only [cellAt, Bool.and_eq_true, Bool.not_eq_true', decide_eq_false_iff_not, getD_at hj] at h2
 exact cell_ord h2.1 h2.2
theorem kdC_0 {k : Int} {a b : Cl} (h : k = 0 ∨ k = 3 ∨ k = 4) : kdC k a b = Lib.compareInt a.n b.n := by
 unfold kdC; rw [if_neg (by omega), if_neg (by omega)]
theorem kdC_1 {k : Int} {a b : Cl} (h : k = 1) : kdC k a b = Lib.compareBytes a.s b.s := by
 unfold kdC; rw [if_pos h]
theorem kdC_2 {k : Int} {a b : Cl} (h : k = 2) : kdC k a b = decCmp a.dn a.ds b.dn b.ds := by
 unfold kdC; rw [if_neg (by omega), if_pos h]
theorem cells_ok (x y : Cl) (hx : x.ord) (hy : y.ord) :
  SpG (gT m) 102 [.agg [.d (.i ((x).kind)), .d (.s (S (x).s)), .d (.i ((x).dn)), .d (.i ((x).ds)), .d (.i ((x).n)), .d (.sl 1 ([])), .d (.sl 1 ([]))], .agg [.d (.i ((y).kind)), .d (.s (S (y).s)), .d (.i ((y).dn)), .d (.i ((y).ds)), .d (.i ((y).n)), .d (.sl 1 ([])), .d (.sl 1 ([]))], .c (.bx 0 0)] [(0, .box 104 [.mp 1]), (1, .box ⟨.map true, none⟩ [.d (.i 0), .d (.v (.func (.func 96) #[] #[])), .d (.i 1), .d (.v (.func (.func 98) #[] #[])), .d (.i 2), .d (.v (.func (.func 100) #[] #[])), .d (.i 3), .d (.v (.func (.func 96) #[] #[])), .d (.i 4), .d (.v (.func (.func 96) #[] #[])), .d (.i 5), .fn 105 [] [(2, 0)]]), (2, .box 141 [.fn 103 [] [(3, 0)]]), (3, .box 101 [.fn 102 [] [(0, 0)]])] (.c (.d (.i (clC x y)))) [(0, .box 104 [.mp 1]), (1, .box ⟨.map true, none⟩ [.d (.i 0), .d (.v (.func (.func 96) #[] #[])), .d (.i 1), .d (.v (.func (.func 98) #[] #[])), .d (.i 2), .d (.v (.func (.func 100) #[] #[])), .d (.i 3), .d (.v (.func (.func 96) #[] #[])), .d (.i 4), .d (.v (.func (.func 96) #[] #[])), .d (.i 5), .fn 105 [] [(2, 0)]]), (2, .box 141 [.fn 103 [] [(3, 0)]]), (3, .box 101 [.fn 102 [] [(0, 0)]])] := by
 refine enterB 24 Tryz.func102 (by kernel_rfl) fun fr hG => ?_
 refine zC hG [] [1, 0, 1] (!decide (((x).kind : Int) = ((y).kind))) (⟨[(2, [], .c (.bx 0 0)), (3, [], .c (.bx 100 0)), (4, [], .c (.bx 101 0)), (5, [], .c (.d (.i 0)))], [(0, .box 104 [.mp 1]), (1, .box ⟨.map true, none⟩ [.d (.i 0), .d (.v (.func (.func 96) #[] #[])), .d (.i 1), .d (.v (.func (.func 98) #[] #[])), .d (.i 2), .d (.v (.func (.func 100) #[] #[])), .d (.i 3), .d (.v (.func (.func 96) #[] #[])), .d (.i 4), .d (.v (.func (.func 96) #[] #[])), .d (.i 5), .fn 105 [] [(2, 0)]]), (2, .box 141 [.fn 103 [] [(3, 0)]]), (3, .box 101 [.fn 102 [] [(0, 0)]]), (100, .box 30 [.d (.i ((x).kind)), .d (.s (S (x).s)), .d (.i ((x).dn)), .d (.i ((x).ds)), .d (.i ((x).n)), .d (.sl 1 ([])), .d (.sl 1 ([]))]), (101, .box 30 [.d (.i ((y).kind)), .d (.s (S (y).s)), .d (.i ((y).dn)), .d (.i ((y).ds)), .d (.i ((y).n)), .d (.sl 1 ([])), .d (.sl 1 ([]))])]⟩) (by kernel_rfl) conj0 (fun hc1 => ?_) (fun hc1 => ?_)
 ·(try simp only [blS] at hc1)
  refine stepRL hG hmix [(2, 4, .call (.c (.d (.i (Lib.compareInt ((x).kind) ((y).kind))))) [] [])] [] (.c (.d (.i (Lib.compareInt ((x).kind) ((y).kind))))) [(0, .box 104 [.mp 1]), (1, .box ⟨.map true, none⟩ [.d (.i 0), .d (.v (.func (.func 96) #[] #[])), .d (.i 1), .d (.v (.func (.func 98) #[] #[])), .d (.i 2), .d (.v (.func (.func 100) #[] #[])), .d (.i 3), .d (.v (.func (.func 96) #[] #[])), .d (.i 4), .d (.v (.func (.func 96) #[] #[])), .d (.i 5), .fn 105 [] [(2, 0)]]), (2, .box 141 [.fn 103 [] [(3, 0)]]), (3, .box 101 [.fn 102 [] [(0, 0)]])] (by kernel_rfl) (conj1 ((cmpInt_ok ((x).kind) ((y).kind) : SpG (gT m) _ _ _ _ _))) ?_ ?_
  ·rw [clC, if_neg (by simpa using hc1)]
  ·first | rfl | (funext i; simp only [lookO_cons, upd]; ((repeat' split) <;> first | rfl | (exfalso; omega)))
 ·(try simp only [blS] at hc1)
  have hkd : x.kind = 0 ∨ x.kind = 1 ∨ x.kind = 2 ∨ x.kind = 3 ∨ x.kind = 4 := by have := hx.k0; have := hx.k4; omega
  rcases hkd with hkd | hkd | hkd | hkd | hkd
  ·skip
   refine stepRL hG hmix [(3, 3, .elem [.i 0]), (3, 7, .call (.c (.d (.i (Lib.compareInt ((x).toV).n ((y).toV).n)))) [] [])] [] (.c (.d (.i (Lib.compareInt ((x).toV).n ((y).toV).n)))) [(0, .box 104 [.mp 1]), (1, .box ⟨.map true, none⟩ [.d (.i 0), .d (.v (.func (.func 96) #[] #[])), .d (.i 1), .d (.v (.func (.func 98) #[] #[])), .d (.i 2), .d (.v (.func (.func 100) #[] #[])), .d (.i 3), .d (.v (.func (.func 96) #[] #[])), .d (.i 4), .d (.v (.func (.func 96) #[] #[])), .d (.i 5), .fn 105 [] [(2, 0)]]), (2, .box 141 [.fn 103 [] [(3, 0)]]), (3, .box 101 [.fn 102 [] [(0, 0)]])] (by kernel_rfl) (conjC (show ((x).kind : Int) = 0 from (by first | assumption | omega)) (conj1 ((ordN_ok ((x).toV) ((y).toV) : SpG (gT m) _ _ _ _ _)))) ?_ ?_
   ·rw [clC, if_pos (by omega), kdC_0 (by omega)]; try rfl
   ·first | rfl | (funext i; simp only [lookO_cons, upd]; ((repeat' split) <;> first | rfl | (exfalso; omega)))
  ·skip
   refine stepRL hG hmix [(3, 3, .elem [.i 1]), (3, 7, .call (.c (.d (.i (Lib.compareBytes ((x).toV).s ((y).toV).s)))) [] [])] [] (.c (.d (.i (Lib.compareBytes ((x).toV).s ((y).toV).s)))) [(0, .box 104 [.mp 1]), (1, .box ⟨.map true, none⟩ [.d (.i 0), .d (.v (.func (.func 96) #[] #[])), .d (.i 1), .d (.v (.func (.func 98) #[] #[])), .d (.i 2), .d (.v (.func (.func 100) #[] #[])), .d (.i 3), .d (.v (.func (.func 96) #[] #[])), .d (.i 4), .d (.v (.func (.func 96) #[] #[])), .d (.i 5), .fn 105 [] [(2, 0)]]), (2, .box 141 [.fn 103 [] [(3, 0)]]), (3, .box 101 [.fn 102 [] [(0, 0)]])] (by kernel_rfl) (conjC (show ((x).kind : Int) = 1 from (by first | assumption | omega)) (conj1 ((ordS_ok ((x).toV) ((y).toV) : SpG (gT m) _ _ _ _ _)))) ?_ ?_
   ·rw [clC, if_pos (by omega), kdC_1 (by omega)]; try rfl
   ·first | rfl | (funext i; simp only [lookO_cons, upd]; ((repeat' split) <;> first | rfl | (exfalso; omega)))
  ·skip
   refine stepRL hG hmix [(3, 3, .elem [.i 2]), (3, 7, .call (.c (.d (.i (decCmp x.dn x.ds y.dn y.ds)))) [] [])] [] (.c (.d (.i (decCmp x.dn x.ds y.dn y.ds)))) [(0, .box 104 [.mp 1]), (1, .box ⟨.map true, none⟩ [.d (.i 0), .d (.v (.func (.func 96) #[] #[])), .d (.i 1), .d (.v (.func (.func 98) #[] #[])), .d (.i 2), .d (.v (.func (.func 100) #[] #[])), .d (.i 3), .d (.v (.func (.func 96) #[] #[])), .d (.i 4), .d (.v (.func (.func 96) #[] #[])), .d (.i 5), .fn 105 [] [(2, 0)]]), (2, .box 141 [.fn 103 [] [(3, 0)]]), (3, .box 101 [.fn 102 [] [(0, 0)]])] (by kernel_rfl) (conjC (show ((x).kind : Int) = 2 from (by first | assumption | omega)) (conj1 ((ordD_ok x.toV y.toV (hx.d hkd) (hy.d (by omega)) : SpG (gT m) _ _ _ _ _)))) ?_ ?_
   ·rw [clC, if_pos (by omega), kdC_2 (by omega)]; try rfl
   ·first | rfl | (funext i; simp only [lookO_cons, upd]; ((repeat' split) <;> first | rfl | (exfalso; omega)))
  ·skip
   refine stepRL hG hmix [(3, 3, .elem [.i 3]), (3, 7, .call (.c (.d (.i (Lib.compareInt ((x).toV).n ((y).toV).n)))) [] [])] [] (.c (.d (.i (Lib.compareInt ((x).toV).n ((y).toV).n)))) [(0, .box 104 [.mp 1]), (1, .box ⟨.map true, none⟩ [.d (.i 0), .d (.v (.func (.func 96) #[] #[])), .d (.i 1), .d (.v (.func (.func 98) #[] #[])), .d (.i 2), .d (.v (.func (.func 100) #[] #[])), .d (.i 3), .d (.v (.func (.func 96) #[] #[])), .d (.i 4), .d (.v (.func (.func 96) #[] #[])), .d (.i 5), .fn 105 [] [(2, 0)]]), (2, .box 141 [.fn 103 [] [(3, 0)]]), (3, .box 101 [.fn 102 [] [(0, 0)]])] (by kernel_rfl) (conjC (show ((x).kind : Int) = 3 from (by first | assumption | omega)) (conj1 ((ordN_ok ((x).toV) ((y).toV) : SpG (gT m) _ _ _ _ _)))) ?_ ?_
   ·rw [clC, if_pos (by omega), kdC_0 (by omega)]; try rfl
   ·first | rfl | (funext i; simp only [lookO_cons, upd]; ((repeat' split) <;> first | rfl | (exfalso; omega)))
  ·skip
   refine stepRL hG hmix [(3, 3, .elem [.i 4]), (3, 7, .call (.c (.d (.i (Lib.compareInt ((x).toV).n ((y).toV).n)))) [] [])] [] (.c (.d (.i (Lib.compareInt ((x).toV).n ((y).toV).n)))) [(0, .box 104 [.mp 1]), (1, .box ⟨.map true, none⟩ [.d (.i 0), .d (.v (.func (.func 96) #[] #[])), .d (.i 1), .d (.v (.func (.func 98) #[] #[])), .d (.i 2), .d (.v (.func (.func 100) #[] #[])), .d (.i 3), .d (.v (.func (.func 96) #[] #[])), .d (.i 4), .d (.v (.func (.func 96) #[] #[])), .d (.i 5), .fn 105 [] [(2, 0)]]), (2, .box 141 [.fn 103 [] [(3, 0)]]), (3, .box 101 [.fn 102 [] [(0, 0)]])] (by kernel_rfl) (conjC (show ((x).kind : Int) = 4 from (by first | assumption | omega)) (conj1 ((ordN_ok ((x).toV) ((y).toV) : SpG (gT m) _ _ _ _ _)))) ?_ ?_
   ·rw [clC, if_pos (by omega), kdC_0 (by omega)]; try rfl
   ·first | rfl | (funext i; simp only [lookO_cons, upd]; ((repeat' split) <;> first | rfl | (exfalso; omega)))
theorem listsC_ok (a b : List Cl) (ha : ∀ c, c ∈ a → c.ord) (hb : ∀ c, c ∈ b → c.ord) :
  SpG (gT m) 104 [.c (.d (.sl 7 (rowD a))), .c (.d (.sl 7 (rowD b))), .c (.fn 102 [] [(0, 0)])] [(0, .box 104 [.mp 1]), (1, .box ⟨.map true, none⟩ [.d (.i 0), .d (.v (.func (.func 96) #[] #[])), .d (.i 1), .d (.v (.func (.func 98) #[] #[])), .d (.i 2), .d (.v (.func (.func 100) #[] #[])), .d (.i 3), .d (.v (.func (.func 96) #[] #[])), .d (.i 4), .d (.v (.func (.func 96) #[] #[])), .d (.i 5), .fn 105 [] [(2, 0)]]), (2, .box 141 [.fn 103 [] [(3, 0)]]), (3, .box 101 [.fn 102 [] [(0, 0)]])] (.c (.d (.i (listC clC a b)))) [(0, .box 104 [.mp 1]), (1, .box ⟨.map true, none⟩ [.d (.i 0), .d (.v (.func (.func 96) #[] #[])), .d (.i 1), .d (.v (.func (.func 98) #[] #[])), .d (.i 2), .d (.v (.func (.func 100) #[] #[])), .d (.i 3), .d (.v (.func (.func 96) #[] #[])), .d (.i 4), .d (.v (.func (.func 96) #[] #[])), .d (.i 5), .fn 105 [] [(2, 0)]]), (2, .box 141 [.fn 103 [] [(3, 0)]]), (3, .box 101 [.fn 102 [] [(0, 0)]])] := by
 refine enterB 36 Tryz.func104 (by kernel_rfl) fun fr hG => ?_
 refine stepLen 0 rfl fun hl0 => ?_
 refine stepLen 1 rfl fun hl1 => ?_
 refine zL hG [] [0, 1, 0, 1] (fun (zz : Nat) => match zz with | k => (a.length - k, ⟨[(0, [], .c (.d (.sl 7 (rowD a)))), (1, [], .c (.d (.sl 7 (rowD b)))), (2, [], .c (.fn 102 [] [(0, 0)])), (6, [], .c (.d (.i 0))), (13, [], .c (.d (.i (if (((rowD b).length : Int) : Int) < ((rowD a).length : Int) then ((rowD b).length : Int) else ((rowD a).length : Int))))), (14, [], .c (.d (.i (k : Int))))], [(0, .box 104 [.mp 1]), (1, .box ⟨.map true, none⟩ [.d (.i 0), .d (.v (.func (.func 96) #[] #[])), .d (.i 1), .d (.v (.func (.func 98) #[] #[])), .d (.i 2), .d (.v (.func (.func 100) #[] #[])), .d (.i 3), .d (.v (.func (.func 96) #[] #[])), .d (.i 4), .d (.v (.func (.func 96) #[] #[])), .d (.i 5), .fn 105 [] [(2, 0)]]), (2, .box 141 [.fn 103 [] [(3, 0)]]), (3, .box 101 [.fn 102 [] [(0, 0)]])]⟩, (k : Int) ≤ a.length ∧ (k : Int) ≤ b.length ∧ listC clC a b = listC clC (a.drop k) (b.drop k))) 0 (by kernel_rfl) conj0 (by kernel_rfl) ?_ ?_
 ·exact ⟨by omega, by omega, rfl⟩
 rintro k ⟨hk1, hk2, hl⟩
 refine zc hG [] [0, 1] (decide (((k : Int) : Int) < (if (((rowD b).length : Int) : Int) < ((rowD a).length : Int) then ((rowD b).length : Int) else ((rowD a).length : Int)))) (by kernel_rfl) conj0 (fun hc2 => ?_) (fun hc2 => ?_)
 ·(try simp only [zq4] at hc2)
  have hk3 : k < a.length ∧ k < b.length := by split at hc2 <;> omega
  refine zC hG [(4, 3, .elem (ClD ((a).getD k Cl.z))), (4, 7, .elem (ClD ((b).getD k Cl.z))), (4, 9, .callG (.c (.d (.i (clC ((a).getD k Cl.z) ((b).getD k Cl.z))))) [0, 1, 2, 3] [(0, .box 104 [.mp 1]), (1, .box ⟨.map true, none⟩ [.d (.i 0), .d (.v (.func (.func 96) #[] #[])), .d (.i 1), .d (.v (.func (.func 98) #[] #[])), .d (.i 2), .d (.v (.func (.func 100) #[] #[])), .d (.i 3), .d (.v (.func (.func 96) #[] #[])), .d (.i 4), .d (.v (.func (.func 96) #[] #[])), .d (.i 5), .fn 105 [] [(2, 0)]]), (2, .box 141 [.fn 103 [] [(3, 0)]]), (3, .box 101 [.fn 102 [] [(0, 0)]])])] [1, 1, 1, 0, 0, 1, 1] (!decide ((clC ((a).getD k Cl.z) ((b).getD k Cl.z) : Int) = 0)) (⟨[(0, [], .c (.d (.sl 7 (rowD a)))), (1, [], .c (.d (.sl 7 (rowD b)))), (2, [], .c (.fn 102 [] [(0, 0)])), (6, [], .c (.d (.i 0))), (8, [], .c (.d (.i (clC ((a).getD k Cl.z) ((b).getD k Cl.z))))), (13, [], .c (.d (.i (if (((rowD b).length : Int) : Int) < ((rowD a).length : Int) then ((rowD b).length : Int) else ((rowD a).length : Int))))), (14, [], .c (.d (.i (k : Int))))], [(0, .box 104 [.mp 1]), (1, .box ⟨.map true, none⟩ [.d (.i 0), .d (.v (.func (.func 96) #[] #[])), .d (.i 1), .d (.v (.func (.func 98) #[] #[])), .d (.i 2), .d (.v (.func (.func 100) #[] #[])), .d (.i 3), .d (.v (.func (.func 96) #[] #[])), .d (.i 4), .d (.v (.func (.func 96) #[] #[])), .d (.i 5), .fn 105 [] [(2, 0)]]), (2, .box 141 [.fn 103 [] [(3, 0)]]), (3, .box 101 [.fn 102 [] [(0, 0)]])]⟩) (by kernel_rfl) (conjC (show (0 : Int) ≤ (k : Int) ∧ (rowD a)[k]? = some (ClD ((a).getD k Cl.z)) from (by intros; exact map_at _ (by omega) (by (try simp only [zq7] at *); omega))) (conjC (show (0 : Int) ≤ (k : Int) ∧ (rowD b)[k]? = some (ClD ((b).getD k Cl.z)) from (by intros; exact map_at _ (by omega) (by (try simp only [zq7] at *); omega))) (conj1 ((cells_ok ((a).getD k Cl.z) ((b).getD k Cl.z) (ha _ (getD_mem (by omega))) (hb _ (getD_mem (by omega))) : SpG (gT m) _ _ _ _ _))))) (fun hc3 => ?_) (fun hc3 => ?_)
  ·(try simp only [zq4] at hc3)
   refine zE hG [] .ret (⟨[(0, [], .c (.d (.sl 7 (rowD a)))), (1, [], .c (.d (.sl 7 (rowD b)))), (6, [], .c (.d (.i (clC ((a).getD k Cl.z) ((b).getD k Cl.z)))))], [(0, .box 104 [.mp 1]), (1, .box ⟨.map true, none⟩ [.d (.i 0), .d (.v (.func (.func 96) #[] #[])), .d (.i 1), .d (.v (.func (.func 98) #[] #[])), .d (.i 2), .d (.v (.func (.func 100) #[] #[])), .d (.i 3), .d (.v (.func (.func 96) #[] #[])), .d (.i 4), .d (.v (.func (.func 96) #[] #[])), .d (.i 5), .fn 105 [] [(2, 0)]]), (2, .box 141 [.fn 103 [] [(3, 0)]]), (3, .box 101 [.fn 102 [] [(0, 0)]])]⟩) (by kernel_rfl) conj0 rfl ?_
   refine stepRL hG hmix [] [] (.c (.d (.i (clC ((a).getD k Cl.z) ((b).getD k Cl.z))))) [(0, .box 104 [.mp 1]), (1, .box ⟨.map true, none⟩ [.d (.i 0), .d (.v (.func (.func 96) #[] #[])), .d (.i 1), .d (.v (.func (.func 98) #[] #[])), .d (.i 2), .d (.v (.func (.func 100) #[] #[])), .d (.i 3), .d (.v (.func (.func 96) #[] #[])), .d (.i 4), .d (.v (.func (.func 96) #[] #[])), .d (.i 5), .fn 105 [] [(2, 0)]]), (2, .box 141 [.fn 103 [] [(3, 0)]]), (3, .box 101 [.fn 102 [] [(0, 0)]])] (by kernel_rfl) conj0 ?_ ?_
   ·rw [hl, listC_step _ Cl.z (by split at hc2 <;> omega) (by split at hc2 <;> omega), if_neg hc3]
   ·first | rfl | (funext i; simp only [lookO_cons, upd]; ((repeat' split) <;> first | rfl | (exfalso; omega)))
  ·(try simp only [zq4] at hc3)
   refine zD hG [] (k + 1) (by kernel_rfl) (conj1 (show inR ((k : Int) + 1) from (by intros; (try simp only [zq6] at *); omega))) ?_ ?_
   ·(try dsimp only); omega
   ·refine ⟨by omega, by omega, ?_⟩
    rw [hl, listC_step _ Cl.z (by omega) (by omega), if_pos (by omega)]
 ·(try simp only [zq4] at hc2)
  refine zE hG [] (.exit 0) (⟨[(0, [], .c (.d (.sl 7 (rowD a)))), (1, [], .c (.d (.sl 7 (rowD b)))), (6, [], .c (.d (.i 0)))], [(0, .box 104 [.mp 1]), (1, .box ⟨.map true, none⟩ [.d (.i 0), .d (.v (.func (.func 96) #[] #[])), .d (.i 1), .d (.v (.func (.func 98) #[] #[])), .d (.i 2), .d (.v (.func (.func 100) #[] #[])), .d (.i 3), .d (.v (.func (.func 96) #[] #[])), .d (.i 4), .d (.v (.func (.func 96) #[] #[])), .d (.i 5), .fn 105 [] [(2, 0)]]), (2, .box 141 [.fn 103 [] [(3, 0)]]), (3, .box 101 [.fn 102 [] [(0, 0)]])]⟩) (by kernel_rfl) conj0 rfl ?_
  refine stepRL hG hmix [(8, 4, .call (.c (.d (.i (Lib.compareInt ((rowD a).length : Int) ((rowD b).length : Int))))) [] [])] [] (.c (.d (.i (Lib.compareInt ((rowD a).length : Int) ((rowD b).length : Int))))) [(0, .box 104 [.mp 1]), (1, .box ⟨.map true, none⟩ [.d (.i 0), .d (.v (.func (.func 96) #[] #[])), .d (.i 1), .d (.v (.func (.func 98) #[] #[])), .d (.i 2), .d (.v (.func (.func 100) #[] #[])), .d (.i 3), .d (.v (.func (.func 96) #[] #[])), .d (.i 4), .d (.v (.func (.func 96) #[] #[])), .d (.i 5), .fn 105 [] [(2, 0)]]), (2, .box 141 [.fn 103 [] [(3, 0)]]), (3, .box 101 [.fn 102 [] [(0, 0)]])] (by kernel_rfl) (conj1 ((cmpInt_ok ((rowD a).length : Int) ((rowD b).length : Int) : SpG (gT m) _ _ _ _ _))) ?_ ?_
  ·rw [hl, listC_last _ (by split at hc2 <;> omega) (by omega) (by omega)]; simp [rowD]
  ·first | rfl | (funext i; simp only [lookO_cons, upd]; ((repeat' split) <;> first | rfl | (exfalso; omega)))
theorem rowsG_ok (a b : List Cl) (ha : ∀ c, c ∈ a → c.ord) (hb : ∀ c, c ∈ b → c.ord) :
  SpG (gT m) 103 [.c (.d (.sl 7 (rowD a))), .c (.d (.sl 7 (rowD b))), .c (.bx 3 0)] [(0, .box 104 [.mp 1]), (1, .box ⟨.map true, none⟩ [.d (.i 0), .d (.v (.func (.func 96) #[] #[])), .d (.i 1), .d (.v (.func (.func 98) #[] #[])), .d (.i 2), .d (.v (.func (.func 100) #[] #[])), .d (.i 3), .d (.v (.func (.func 96) #[] #[])), .d (.i 4), .d (.v (.func (.func 96) #[] #[])), .d (.i 5), .fn 105 [] [(2, 0)]]), (2, .box 141 [.fn 103 [] [(3, 0)]]), (3, .box 101 [.fn 102 [] [(0, 0)]])] (.c (.d (.i (listC clC a b)))) [(0, .box 104 [.mp 1]), (1, .box ⟨.map true, none⟩ [.d (.i 0), .d (.v (.func (.func 96) #[] #[])), .d (.i 1), .d (.v (.func (.func 98) #[] #[])), .d (.i 2), .d (.v (.func (.func 100) #[] #[])), .d (.i 3), .d (.v (.func (.func 96) #[] #[])), .d (.i 4), .d (.v (.func (.func 96) #[] #[])), .d (.i 5), .fn 105 [] [(2, 0)]]), (2, .box 141 [.fn 103 [] [(3, 0)]]), (3, .box 101 [.fn 102 [] [(0, 0)]])] := by
 refine enterB 10 Tryz.func103 (by kernel_rfl) fun fr hG => ?_
 refine stepRL hG hmix [(1, 3, .callG (.c (.d (.i (listC clC (a) (b))))) [0, 1, 2, 3] [(0, .box 104 [.mp 1]), (1, .box ⟨.map true, none⟩ [.d (.i 0), .d (.v (.func (.func 96) #[] #[])), .d (.i 1), .d (.v (.func (.func 98) #[] #[])), .d (.i 2), .d (.v (.func (.func 100) #[] #[])), .d (.i 3), .d (.v (.func (.func 96) #[] #[])), .d (.i 4), .d (.v (.func (.func 96) #[] #[])), .d (.i 5), .fn 105 [] [(2, 0)]]), (2, .box 141 [.fn 103 [] [(3, 0)]]), (3, .box 101 [.fn 102 [] [(0, 0)]])])] [] (.c (.d (.i (listC clC (a) (b))))) [(3, .box 101 [.fn 102 [] [(0, 0)]]), (2, .box 141 [.fn 103 [] [(3, 0)]]), (1, .box ⟨.map true, none⟩ [.d (.i 0), .d (.v (.func (.func 96) #[] #[])), .d (.i 1), .d (.v (.func (.func 98) #[] #[])), .d (.i 2), .d (.v (.func (.func 100) #[] #[])), .d (.i 3), .d (.v (.func (.func 96) #[] #[])), .d (.i 4), .d (.v (.func (.func 96) #[] #[])), .d (.i 5), .fn 105 [] [(2, 0)]]), (0, .box 104 [.mp 1])] (by kernel_rfl) (conj1 ((listsC_ok (a) (b) ha hb : SpG (gT m) _ _ _ _ _))) ?_ ?_
 ·rfl
 ·first | rfl | (funext i; simp only [lookO_cons, upd]; ((repeat' split) <;> first | rfl | (exfalso; omega)))
theorem listsR_ok (a b : List (List Cl)) (ha : ∀ r, r ∈ a → ∀ c, c ∈ r → c.ord) (hb : ∀ r, r ∈ b → ∀ c, c ∈ r → c.ord) :
  SpG (gT m) 107 [.c (.d (.sl 1 (rowsD a))), .c (.d (.sl 1 (rowsD b))), .c (.fn 103 [] [(3, 0)])] [(0, .box 104 [.mp 1]), (1, .box ⟨.map true, none⟩ [.d (.i 0), .d (.v (.func (.func 96) #[] #[])), .d (.i 1), .d (.v (.func (.func 98) #[] #[])), .d (.i 2), .d (.v (.func (.func 100) #[] #[])), .d (.i 3), .d (.v (.func (.func 96) #[] #[])), .d (.i 4), .d (.v (.func (.func 96) #[] #[])), .d (.i 5), .fn 105 [] [(2, 0)]]), (2, .box 141 [.fn 103 [] [(3, 0)]]), (3, .box 101 [.fn 102 [] [(0, 0)]])] (.c (.d (.i (listC (listC clC) a b)))) [(0, .box 104 [.mp 1]), (1, .box ⟨.map true, none⟩ [.d (.i 0), .d (.v (.func (.func 96) #[] #[])), .d (.i 1), .d (.v (.func (.func 98) #[] #[])), .d (.i 2), .d (.v (.func (.func 100) #[] #[])), .d (.i 3), .d (.v (.func (.func 96) #[] #[])), .d (.i 4), .d (.v (.func (.func 96) #[] #[])), .d (.i 5), .fn 105 [] [(2, 0)]]), (2, .box 141 [.fn 103 [] [(3, 0)]]), (3, .box 101 [.fn 102 [] [(0, 0)]])] := by
 refine enterB 36 Tryz.func107 (by kernel_rfl) fun fr hG => ?_
 refine stepLen 0 rfl fun hl0 => ?_
 refine stepLen 1 rfl fun hl1 => ?_
 refine zL hG [] [0, 1, 0, 1] (fun (zz : Nat) => match zz with | k => (a.length - k, ⟨[(0, [], .c (.d (.sl 1 (rowsD a)))), (1, [], .c (.d (.sl 1 (rowsD b)))), (2, [], .c (.fn 103 [] [(3, 0)])), (6, [], .c (.d (.i 0))), (13, [], .c (.d (.i (if (((rowsD b).length : Int) : Int) < ((rowsD a).length : Int) then ((rowsD b).length : Int) else ((rowsD a).length : Int))))), (14, [], .c (.d (.i (k : Int))))], [(0, .box 104 [.mp 1]), (1, .box ⟨.map true, none⟩ [.d (.i 0), .d (.v (.func (.func 96) #[] #[])), .d (.i 1), .d (.v (.func (.func 98) #[] #[])), .d (.i 2), .d (.v (.func (.func 100) #[] #[])), .d (.i 3), .d (.v (.func (.func 96) #[] #[])), .d (.i 4), .d (.v (.func (.func 96) #[] #[])), .d (.i 5), .fn 105 [] [(2, 0)]]), (2, .box 141 [.fn 103 [] [(3, 0)]]), (3, .box 101 [.fn 102 [] [(0, 0)]])]⟩, (k : Int) ≤ a.length ∧ (k : Int) ≤ b.length ∧ listC (listC clC) a b = listC (listC clC) (a.drop k) (b.drop k))) 0 (by kernel_rfl) conj0 (by kernel_rfl) ?_ ?_
 ·exact ⟨by omega, by omega, rfl⟩
 rintro k ⟨hk1, hk2, hl⟩
 refine zc hG [] [0, 1] (decide (((k : Int) : Int) < (if (((rowsD b).length : Int) : Int) < ((rowsD a).length : Int) then ((rowsD b).length : Int) else ((rowsD a).length : Int)))) (by kernel_rfl) conj0 (fun hc2 => ?_) (fun hc2 => ?_)
 ·(try simp only [zq4] at hc2)
  have hk3 : k < a.length ∧ k < b.length := by split at hc2 <;> omega
  refine zC hG [(4, 3, .elem (rows1 ((a).getD k []))), (4, 7, .elem (rows1 ((b).getD k []))), (4, 9, .callG (.c (.d (.i (listC clC ((a).getD k []) ((b).getD k []))))) [0, 1, 2, 3] [(0, .box 104 [.mp 1]), (1, .box ⟨.map true, none⟩ [.d (.i 0), .d (.v (.func (.func 96) #[] #[])), .d (.i 1), .d (.v (.func (.func 98) #[] #[])), .d (.i 2), .d (.v (.func (.func 100) #[] #[])), .d (.i 3), .d (.v (.func (.func 96) #[] #[])), .d (.i 4), .d (.v (.func (.func 96) #[] #[])), .d (.i 5), .fn 105 [] [(2, 0)]]), (2, .box 141 [.fn 103 [] [(3, 0)]]), (3, .box 101 [.fn 102 [] [(0, 0)]])])] [1, 1, 1, 0, 0, 1, 1] (!decide ((listC clC ((a).getD k []) ((b).getD k []) : Int) = 0)) (⟨[(0, [], .c (.d (.sl 1 (rowsD a)))), (1, [], .c (.d (.sl 1 (rowsD b)))), (2, [], .c (.fn 103 [] [(3, 0)])), (6, [], .c (.d (.i 0))), (8, [], .c (.d (.i (listC clC ((a).getD k []) ((b).getD k []))))), (13, [], .c (.d (.i (if (((rowsD b).length : Int) : Int) < ((rowsD a).length : Int) then ((rowsD b).length : Int) else ((rowsD a).length : Int))))), (14, [], .c (.d (.i (k : Int))))], [(0, .box 104 [.mp 1]), (1, .box ⟨.map true, none⟩ [.d (.i 0), .d (.v (.func (.func 96) #[] #[])), .d (.i 1), .d (.v (.func (.func 98) #[] #[])), .d (.i 2), .d (.v (.func (.func 100) #[] #[])), .d (.i 3), .d (.v (.func (.func 96) #[] #[])), .d (.i 4), .d (.v (.func (.func 96) #[] #[])), .d (.i 5), .fn 105 [] [(2, 0)]]), (2, .box 141 [.fn 103 [] [(3, 0)]]), (3, .box 101 [.fn 102 [] [(0, 0)]])]⟩) (by kernel_rfl) (conjC (show (0 : Int) ≤ (k : Int) ∧ (rowsD a)[k]? = some (rows1 ((a).getD k [])) from (by intros; exact map_at _ (by omega) (by (try simp only [zq7] at *); omega))) (conjC (show (0 : Int) ≤ (k : Int) ∧ (rowsD b)[k]? = some (rows1 ((b).getD k [])) from (by intros; exact map_at _ (by omega) (by (try simp only [zq7] at *); omega))) (conj1 ((rowsG_ok ((a).getD k []) ((b).getD k []) (ha _ (getD_mem (by omega))) (hb _ (getD_mem (by omega))) : SpG (gT m) _ _ _ _ _))))) (fun hc3 => ?_) (fun hc3 => ?_)
  ·(try simp only [zq4] at hc3)
   refine zE hG [] .ret (⟨[(0, [], .c (.d (.sl 1 (rowsD a)))), (1, [], .c (.d (.sl 1 (rowsD b)))), (6, [], .c (.d (.i (listC clC ((a).getD k []) ((b).getD k [])))))], [(0, .box 104 [.mp 1]), (1, .box ⟨.map true, none⟩ [.d (.i 0), .d (.v (.func (.func 96) #[] #[])), .d (.i 1), .d (.v (.func (.func 98) #[] #[])), .d (.i 2), .d (.v (.func (.func 100) #[] #[])), .d (.i 3), .d (.v (.func (.func 96) #[] #[])), .d (.i 4), .d (.v (.func (.func 96) #[] #[])), .d (.i 5), .fn 105 [] [(2, 0)]]), (2, .box 141 [.fn 103 [] [(3, 0)]]), (3, .box 101 [.fn 102 [] [(0, 0)]])]⟩) (by kernel_rfl) conj0 rfl ?_
   refine stepRL hG hmix [] [] (.c (.d (.i (listC clC ((a).getD k []) ((b).getD k []))))) [(0, .box 104 [.mp 1]), (1, .box ⟨.map true, none⟩ [.d (.i 0), .d (.v (.func (.func 96) #[] #[])), .d (.i 1), .d (.v (.func (.func 98) #[] #[])), .d (.i 2), .d (.v (.func (.func 100) #[] #[])), .d (.i 3), .d (.v (.func (.func 96) #[] #[])), .d (.i 4), .d (.v (.func (.func 96) #[] #[])), .d (.i 5), .fn 105 [] [(2, 0)]]), (2, .box 141 [.fn 103 [] [(3, 0)]]), (3, .box 101 [.fn 102 [] [(0, 0)]])] (by kernel_rfl) conj0 ?_ ?_
   ·rw [hl, listC_step _ [] (by split at hc2 <;> omega) (by split at hc2 <;> omega), if_neg hc3]
   ·first | rfl | (funext i; simp only [lookO_cons, upd]; ((repeat' split) <;> first | rfl | (exfalso; omega)))
  ·(try simp only [zq4] at hc3)
   refine zD hG [] (k + 1) (by kernel_rfl) (conj1 (show inR ((k : Int) + 1) from (by intros; (try simp only [zq6] at *); omega))) ?_ ?_
   ·(try dsimp only); omega
   ·refine ⟨by omega, by omega, ?_⟩
    rw [hl, listC_step _ [] (by omega) (by omega), if_pos (by omega)]
 ·(try simp only [zq4] at hc2)
  refine zE hG [] (.exit 0) (⟨[(0, [], .c (.d (.sl 1 (rowsD a)))), (1, [], .c (.d (.sl 1 (rowsD b)))), (6, [], .c (.d (.i 0)))], [(0, .box 104 [.mp 1]), (1, .box ⟨.map true, none⟩ [.d (.i 0), .d (.v (.func (.func 96) #[] #[])), .d (.i 1), .d (.v (.func (.func 98) #[] #[])), .d (.i 2), .d (.v (.func (.func 100) #[] #[])), .d (.i 3), .d (.v (.func (.func 96) #[] #[])), .d (.i 4), .d (.v (.func (.func 96) #[] #[])), .d (.i 5), .fn 105 [] [(2, 0)]]), (2, .box 141 [.fn 103 [] [(3, 0)]]), (3, .box 101 [.fn 102 [] [(0, 0)]])]⟩) (by kernel_rfl) conj0 rfl ?_
  refine stepRL hG hmix [(8, 4, .call (.c (.d (.i (Lib.compareInt ((rowsD a).length : Int) ((rowsD b).length : Int))))) [] [])] [] (.c (.d (.i (Lib.compareInt ((rowsD a).length : Int) ((rowsD b).length : Int))))) [(0, .box 104 [.mp 1]), (1, .box ⟨.map true, none⟩ [.d (.i 0), .d (.v (.func (.func 96) #[] #[])), .d (.i 1), .d (.v (.func (.func 98) #[] #[])), .d (.i 2), .d (.v (.func (.func 100) #[] #[])), .d (.i 3), .d (.v (.func (.func 96) #[] #[])), .d (.i 4), .d (.v (.func (.func 96) #[] #[])), .d (.i 5), .fn 105 [] [(2, 0)]]), (2, .box 141 [.fn 103 [] [(3, 0)]]), (3, .box 101 [.fn 102 [] [(0, 0)]])] (by kernel_rfl) (conj1 ((cmpInt_ok ((rowsD a).length : Int) ((rowsD b).length : Int) : SpG (gT m) _ _ _ _ _))) ?_ ?_
  ·rw [hl, listC_last _ (by split at hc2 <;> omega) (by omega) (by omega)]; simp [rowsD]
  ·first | rfl | (funext i; simp only [lookO_cons, upd]; ((repeat' split) <;> first | rfl | (exfalso; omega)))
theorem ordT_ok (a b : Vl) (ha : ∀ r, r ∈ a.rows → ∀ c, c ∈ r → c.ord) (hb : ∀ r, r ∈ b.rows → ∀ c, c ∈ r → c.ord) :
  SpG (gT m) 105 [.agg [.d (.i a.kind), .d (.s (S a.s)), .d (.i a.dn), .d (.i a.ds), .d (.i a.n), .d (.sl 1 (strs a.cols)), .d (.sl 1 (rowsD a.rows))], .agg [.d (.i b.kind), .d (.s (S b.s)), .d (.i b.dn), .d (.i b.ds), .d (.i b.n), .d (.sl 1 (strs b.cols)), .d (.sl 1 (rowsD b.rows))], .c (.bx 2 0)] [(0, .box 104 [.mp 1]), (1, .box ⟨.map true, none⟩ [.d (.i 0), .d (.v (.func (.func 96) #[] #[])), .d (.i 1), .d (.v (.func (.func 98) #[] #[])), .d (.i 2), .d (.v (.func (.func 100) #[] #[])), .d (.i 3), .d (.v (.func (.func 96) #[] #[])), .d (.i 4), .d (.v (.func (.func 96) #[] #[])), .d (.i 5), .fn 105 [] [(2, 0)]]), (2, .box 141 [.fn 103 [] [(3, 0)]]), (3, .box 101 [.fn 102 [] [(0, 0)]])] (.c (.d (.i (tbC a b)))) [(0, .box 104 [.mp 1]), (1, .box ⟨.map true, none⟩ [.d (.i 0), .d (.v (.func (.func 96) #[] #[])), .d (.i 1), .d (.v (.func (.func 98) #[] #[])), .d (.i 2), .d (.v (.func (.func 100) #[] #[])), .d (.i 3), .d (.v (.func (.func 96) #[] #[])), .d (.i 4), .d (.v (.func (.func 96) #[] #[])), .d (.i 5), .fn 105 [] [(2, 0)]]), (2, .box 141 [.fn 103 [] [(3, 0)]]), (3, .box 101 [.fn 102 [] [(0, 0)]])] := by
 refine enterB 21 Tryz.func105 (by kernel_rfl) fun fr hG => ?_
 refine zC hG [(1, 4, .call (.c (.d (.i (listC Lib.compareBytes (a.cols) (b.cols))))) [] [])] [1, 1, 0, 1] (!decide ((listC Lib.compareBytes (a.cols) (b.cols) : Int) = 0)) (⟨[(2, [], .c (.bx 2 0)), (3, [], .c (.bx 100 0)), (4, [], .c (.bx 101 0)), (5, [], .c (.d (.i 0))), (6, [], .c (.d (.i (listC Lib.compareBytes (a.cols) (b.cols)))))], [(0, .box 104 [.mp 1]), (1, .box ⟨.map true, none⟩ [.d (.i 0), .d (.v (.func (.func 96) #[] #[])), .d (.i 1), .d (.v (.func (.func 98) #[] #[])), .d (.i 2), .d (.v (.func (.func 100) #[] #[])), .d (.i 3), .d (.v (.func (.func 96) #[] #[])), .d (.i 4), .d (.v (.func (.func 96) #[] #[])), .d (.i 5), .fn 105 [] [(2, 0)]]), (2, .box 141 [.fn 103 [] [(3, 0)]]), (3, .box 101 [.fn 102 [] [(0, 0)]]), (100, .box 30 [.d (.i a.kind), .d (.s (S a.s)), .d (.i a.dn), .d (.i a.ds), .d (.i a.n), .d (.sl 1 (strs a.cols)), .d (.sl 1 (rowsD a.rows))]), (101, .box 30 [.d (.i b.kind), .d (.s (S b.s)), .d (.i b.dn), .d (.i b.ds), .d (.i b.n), .d (.sl 1 (strs b.cols)), .d (.sl 1 (rowsD b.rows))])]⟩) (by kernel_rfl) (conj1 ((listsS_ok (a.cols) (b.cols) : SpG (gT m) _ _ _ _ _))) (fun hc1 => ?_) (fun hc1 => ?_)
 ·(try simp only [blS] at hc1)
  refine stepRL hG hmix [] [] (.c (.d (.i (listC Lib.compareBytes (a.cols) (b.cols))))) [(0, .box 104 [.mp 1]), (1, .box ⟨.map true, none⟩ [.d (.i 0), .d (.v (.func (.func 96) #[] #[])), .d (.i 1), .d (.v (.func (.func 98) #[] #[])), .d (.i 2), .d (.v (.func (.func 100) #[] #[])), .d (.i 3), .d (.v (.func (.func 96) #[] #[])), .d (.i 4), .d (.v (.func (.func 96) #[] #[])), .d (.i 5), .fn 105 [] [(2, 0)]]), (2, .box 141 [.fn 103 [] [(3, 0)]]), (3, .box 101 [.fn 102 [] [(0, 0)]])] (by kernel_rfl) conj0 ?_ ?_
  ·rw [tbC, if_neg hc1]
  ·first | rfl | (funext i; simp only [lookO_cons, upd]; ((repeat' split) <;> first | rfl | (exfalso; omega)))
 ·(try simp only [blS] at hc1)
  refine stepRL hG hmix [(4, 5, .callG (.c (.d (.i (listC (listC clC) (a.rows) (b.rows))))) [0, 1, 2, 3] [(0, .box 104 [.mp 1]), (1, .box ⟨.map true, none⟩ [.d (.i 0), .d (.v (.func (.func 96) #[] #[])), .d (.i 1), .d (.v (.func (.func 98) #[] #[])), .d (.i 2), .d (.v (.func (.func 100) #[] #[])), .d (.i 3), .d (.v (.func (.func 96) #[] #[])), .d (.i 4), .d (.v (.func (.func 96) #[] #[])), .d (.i 5), .fn 105 [] [(2, 0)]]), (2, .box 141 [.fn 103 [] [(3, 0)]]), (3, .box 101 [.fn 102 [] [(0, 0)]])])] [] (.c (.d (.i (listC (listC clC) (a.rows) (b.rows))))) [(3, .box 101 [.fn 102 [] [(0, 0)]]), (2, .box 141 [.fn 103 [] [(3, 0)]]), (1, .box ⟨.map true, none⟩ [.d (.i 0), .d (.v (.func (.func 96) #[] #[])), .d (.i 1), .d (.v (.func (.func 98) #[] #[])), .d (.i 2), .d (.v (.func (.func 100) #[] #[])), .d (.i 3), .d (.v (.func (.func 96) #[] #[])), .d (.i 4), .d (.v (.func (.func 96) #[] #[])), .d (.i 5), .fn 105 [] [(2, 0)]]), (0, .box 104 [.mp 1])] (by kernel_rfl) (conj1 ((listsR_ok (a.rows) (b.rows) ha hb : SpG (gT m) _ _ _ _ _))) ?_ ?_
  ·rw [tbC, if_pos (by omega)]
  ·first | rfl | (funext i; simp only [lookO_cons, upd]; ((repeat' split) <;> first | rfl | (exfalso; omega)))
theorem less_ok (a b : Vl) (ha : a.fit) (hb : b.fit) :
  SpG (gT m) 31 [.agg [.d (.i a.kind), .d (.s (S a.s)), .d (.i a.dn), .d (.i a.ds), .d (.i a.n), .d (.sl 1 (strs a.cols)), .d (.sl 1 (rowsD a.rows))], .agg [.d (.i b.kind), .d (.s (S b.s)), .d (.i b.dn), .d (.i b.ds), .d (.i b.n), .d (.sl 1 (strs b.cols)), .d (.sl 1 (rowsD b.rows))]] [] (.c (.d (.b (lessB a b)))) [] := by
 refine enterB 34 Tryz.func31 (by kernel_rfl) fun fr hG => ?_
 refine zC hG [(1, 1, .call (.c (.d (.b (rightB a)))) [] []), (1, 5, .call (.c (.d (.b (rightB b)))) [] [])] [1, 0, 1] ((!(rightB a)) || (!(rightB b))) (⟨[(2, [], .c (.bx 100 0)), (3, [], .c (.bx 101 0)), (4, [], .c (.d (.b false)))], [(100, .box 30 [.d (.i a.kind), .d (.s (S a.s)), .d (.i a.dn), .d (.i a.ds), .d (.i a.n), .d (.sl 1 (strs a.cols)), .d (.sl 1 (rowsD a.rows))]), (101, .box 30 [.d (.i b.kind), .d (.s (S b.s)), .d (.i b.dn), .d (.i b.ds), .d (.i b.n), .d (.sl 1 (strs b.cols)), .d (.sl 1 (rowsD b.rows))])]⟩) (by kernel_rfl) (conjC ((right_ok a (by assumption) : SpG (gT m) _ _ _ _ _)) (conj1 (fun (hg1 : (!(rightB a)) = false) => ((right_ok b (by assumption) : SpG (gT m) _ _ _ _ _))))) (fun hc1 => ?_) (fun hc1 => ?_)
 ·(try simp only [blS] at hc1)
  refine zR hG [(2, 1, .call (.c (.d (.b (rightB a)))) [] [])] [] (.c (.d (.b (rightB a)))) [] (by kernel_rfl) (conj1 ((right_ok a (by assumption) : SpG (gT m) _ _ _ _ _))) ?_ ?_
  ·rw [lessB, if_neg (by rintro ⟨h1, h2⟩; rcases hc1 with h | h <;> simp_all)]
  ·rfl
 ·(try simp only [blS] at hc1)
  have hr : rightB a = true ∧ rightB b = true := hc1
  refine zc hG [] [1, 0, 1, 1] (!decide ((a.kind : Int) = b.kind)) (by kernel_rfl) conj0 (fun hc2 => ?_) (fun hc2 => ?_)
  ·(try simp only [blS] at hc2)
   refine zR hG [] [] (.c (.d (.b (decide ((a.kind : Int) < b.kind))))) [] (by kernel_rfl) conj0 ?_ ?_
   ·rw [lessB, if_pos hr, if_neg (by simpa using hc2)]
   ·rfl
  ·(try simp only [blS] at hc2)
   have hkd : a.kind = 0 ∨ a.kind = 1 ∨ a.kind = 2 ∨ a.kind = 3 ∨ a.kind = 4 ∨ a.kind = 5 := by have := (ord_of hr.1).1; have := (ord_of hr.1).2.1; omega
   rcases hkd with hkd | hkd | hkd | hkd | hkd | hkd
   ·skip
    refine zR hG [(5, 0, .callG (.c (.mp 100)) [] [(100, .box ⟨.map true, none⟩ [.d (.i 0), .d (.v (.func (.func 96) #[] #[])), .d (.i 1), .d (.v (.func (.func 98) #[] #[])), .d (.i 2), .d (.v (.func (.func 100) #[] #[])), .d (.i 3), .d (.v (.func (.func 96) #[] #[])), .d (.i 4), .d (.v (.func (.func 96) #[] #[])), .d (.i 5), .fn 105 [] [(101, 0)]]), (101, .box 141 [.fn 103 [] [(102, 0)]]), (102, .box 101 [.fn 102 [] [(103, 0)]]), (103, .box 104 [.mp 100])]), (5, 3, .elem [.i 0]), (5, 7, .call (.c (.d (.i (Lib.compareInt a.n b.n)))) [] [])] [] (.c (.d (.b (decide ((Lib.compareInt a.n b.n : Int) < 0))))) [] (by kernel_rfl) (conjC ((orders_ok : SpG (gT m) _ _ _ _ _)) (conjC (show (a.kind : Int) = 0 from (by first | assumption | omega)) (conj1 ((ordN_ok a b : SpG (gT m) _ _ _ _ _))))) ?_ ?_
    ·rw [lessB, if_pos hr, if_pos (by omega), vlC, if_neg (by omega), kdC_0 (by omega)]; try rfl
    ·rfl
   ·skip
    refine zR hG [(5, 0, .callG (.c (.mp 100)) [] [(100, .box ⟨.map true, none⟩ [.d (.i 0), .d (.v (.func (.func 96) #[] #[])), .d (.i 1), .d (.v (.func (.func 98) #[] #[])), .d (.i 2), .d (.v (.func (.func 100) #[] #[])), .d (.i 3), .d (.v (.func (.func 96) #[] #[])), .d (.i 4), .d (.v (.func (.func 96) #[] #[])), .d (.i 5), .fn 105 [] [(101, 0)]]), (101, .box 141 [.fn 103 [] [(102, 0)]]), (102, .box 101 [.fn 102 [] [(103, 0)]]), (103, .box 104 [.mp 100])]), (5, 3, .elem [.i 1]), (5, 7, .call (.c (.d (.i (Lib.compareBytes a.s b.s)))) [] [])] [] (.c (.d (.b (decide ((Lib.compareBytes a.s b.s : Int) < 0))))) [] (by kernel_rfl) (conjC ((orders_ok : SpG (gT m) _ _ _ _ _)) (conjC (show (a.kind : Int) = 1 from (by first | assumption | omega)) (conj1 ((ordS_ok a b : SpG (gT m) _ _ _ _ _))))) ?_ ?_
    ·rw [lessB, if_pos hr, if_pos (by omega), vlC, if_neg (by omega), kdC_1 (by omega)]; try rfl
    ·rfl
   ·skip
    refine zR hG [(5, 0, .callG (.c (.mp 100)) [] [(100, .box ⟨.map true, none⟩ [.d (.i 0), .d (.v (.func (.func 96) #[] #[])), .d (.i 1), .d (.v (.func (.func 98) #[] #[])), .d (.i 2), .d (.v (.func (.func 100) #[] #[])), .d (.i 3), .d (.v (.func (.func 96) #[] #[])), .d (.i 4), .d (.v (.func (.func 96) #[] #[])), .d (.i 5), .fn 105 [] [(101, 0)]]), (101, .box 141 [.fn 103 [] [(102, 0)]]), (102, .box 101 [.fn 102 [] [(103, 0)]]), (103, .box 104 [.mp 100])]), (5, 3, .elem [.i 2]), (5, 7, .call (.c (.d (.i (decCmp a.dn a.ds b.dn b.ds)))) [] [])] [] (.c (.d (.b (decide ((decCmp a.dn a.ds b.dn b.ds : Int) < 0))))) [] (by kernel_rfl) (conjC ((orders_ok : SpG (gT m) _ _ _ _ _)) (conjC (show (a.kind : Int) = 2 from (by first | assumption | omega)) (conj1 ((ordD_ok a b ((ord_of hr.1).2.2.1 hkd) ((ord_of hr.2).2.2.1 (by omega)) : SpG (gT m) _ _ _ _ _))))) ?_ ?_
    ·rw [lessB, if_pos hr, if_pos (by omega), vlC, if_neg (by omega), kdC_2 (by omega)]; try rfl
    ·rfl
   ·skip
    refine zR hG [(5, 0, .callG (.c (.mp 100)) [] [(100, .box ⟨.map true, none⟩ [.d (.i 0), .d (.v (.func (.func 96) #[] #[])), .d (.i 1), .d (.v (.func (.func 98) #[] #[])), .d (.i 2), .d (.v (.func (.func 100) #[] #[])), .d (.i 3), .d (.v (.func (.func 96) #[] #[])), .d (.i 4), .d (.v (.func (.func 96) #[] #[])), .d (.i 5), .fn 105 [] [(101, 0)]]), (101, .box 141 [.fn 103 [] [(102, 0)]]), (102, .box 101 [.fn 102 [] [(103, 0)]]), (103, .box 104 [.mp 100])]), (5, 3, .elem [.i 3]), (5, 7, .call (.c (.d (.i (Lib.compareInt a.n b.n)))) [] [])] [] (.c (.d (.b (decide ((Lib.compareInt a.n b.n : Int) < 0))))) [] (by kernel_rfl) (conjC ((orders_ok : SpG (gT m) _ _ _ _ _)) (conjC (show (a.kind : Int) = 3 from (by first | assumption | omega)) (conj1 ((ordN_ok a b : SpG (gT m) _ _ _ _ _))))) ?_ ?_
    ·rw [lessB, if_pos hr, if_pos (by omega), vlC, if_neg (by omega), kdC_0 (by omega)]; try rfl
    ·rfl
   ·skip
    refine zR hG [(5, 0, .callG (.c (.mp 100)) [] [(100, .box ⟨.map true, none⟩ [.d (.i 0), .d (.v (.func (.func 96) #[] #[])), .d (.i 1), .d (.v (.func (.func 98) #[] #[])), .d (.i 2), .d (.v (.func (.func 100) #[] #[])), .d (.i 3), .d (.v (.func (.func 96) #[] #[])), .d (.i 4), .d (.v (.func (.func 96) #[] #[])), .d (.i 5), .fn 105 [] [(101, 0)]]), (101, .box 141 [.fn 103 [] [(102, 0)]]), (102, .box 101 [.fn 102 [] [(103, 0)]]), (103, .box 104 [.mp 100])]), (5, 3, .elem [.i 4]), (5, 7, .call (.c (.d (.i (Lib.compareInt a.n b.n)))) [] [])] [] (.c (.d (.b (decide ((Lib.compareInt a.n b.n : Int) < 0))))) [] (by kernel_rfl) (conjC ((orders_ok : SpG (gT m) _ _ _ _ _)) (conjC (show (a.kind : Int) = 4 from (by first | assumption | omega)) (conj1 ((ordN_ok a b : SpG (gT m) _ _ _ _ _))))) ?_ ?_
    ·rw [lessB, if_pos hr, if_pos (by omega), vlC, if_neg (by omega), kdC_0 (by omega)]; try rfl
    ·rfl
   ·skip
    refine zR hG [(5, 0, .callG (.c (.mp 100)) [] [(100, .box ⟨.map true, none⟩ [.d (.i 0), .d (.v (.func (.func 96) #[] #[])), .d (.i 1), .d (.v (.func (.func 98) #[] #[])), .d (.i 2), .d (.v (.func (.func 100) #[] #[])), .d (.i 3), .d (.v (.func (.func 96) #[] #[])), .d (.i 4), .d (.v (.func (.func 96) #[] #[])), .d (.i 5), .fn 105 [] [(101, 0)]]), (101, .box 141 [.fn 103 [] [(102, 0)]]), (102, .box 101 [.fn 102 [] [(103, 0)]]), (103, .box 104 [.mp 100])]), (5, 3, .elem [.i 5]), (5, 7, .callG (.c (.d (.i (tbC a b)))) [603, 600, 601, 602] [(0, .box 104 [.mp 1]), (1, .box ⟨.map true, none⟩ [.d (.i 0), .d (.v (.func (.func 96) #[] #[])), .d (.i 1), .d (.v (.func (.func 98) #[] #[])), .d (.i 2), .d (.v (.func (.func 100) #[] #[])), .d (.i 3), .d (.v (.func (.func 96) #[] #[])), .d (.i 4), .d (.v (.func (.func 96) #[] #[])), .d (.i 5), .fn 105 [] [(2, 0)]]), (2, .box 141 [.fn 103 [] [(3, 0)]]), (3, .box 101 [.fn 102 [] [(0, 0)]])])] [] (.c (.d (.b (decide ((tbC a b : Int) < 0))))) [] (by kernel_rfl) (conjC ((orders_ok : SpG (gT m) _ _ _ _ _)) (conjC (show (a.kind : Int) = 5 from (by first | assumption | omega)) (conj1 ((ordT_ok a b (table_ord ((ord_of hr.1).2.2.2 hkd)) (table_ord ((ord_of hr.2).2.2.2 (by omega))) : SpG (gT m) _ _ _ _ _))))) ?_ ?_
    ·rw [lessB, if_pos hr, if_pos (by omega), vlC, if_pos (by omega)]
    ·rfl
theorem sEqual_ok (a b : List (List UInt8)) :
  SpG (gT m) 67 [.c (.d (.sl 1 (strs a))), .c (.d (.sl 1 (strs b)))] [] (.c (.d (.b (decide (a = b))))) [] := by
 refine enterB 26 Tryz.func67 (by kernel_rfl) fun fr hG => ?_
 refine stepLen 0 rfl fun hl0 => ?_
 refine stepLen 1 rfl fun hl1 => ?_
 refine zC hG [] [1, 0, 1] (!decide ((((strs a).length : Int) : Int) = ((strs b).length : Int))) (⟨[(0, [], .c (.d (.sl 1 (strs a)))), (1, [], .c (.d (.sl 1 (strs b)))), (4, [], .c (.d (.b false)))], []⟩) (by kernel_rfl) conj0 (fun hc1 => ?_) (fun hc1 => ?_)
 ·(try simp only [zq4] at hc1)
  refine zR hG [] [] (.c (.d (.b false))) [] (by kernel_rfl) conj0 ?_ ?_
  ·have : ¬ a = b := fun e => hc1 (by rw [e])
   simp [this]
  ·rfl
 ·(try simp only [zq4] at hc1)
  refine zL hG [] [0, 1, 0, 1, 1] (fun (zz : Nat) => match zz with | k => (a.length - k, ⟨[(0, [], .c (.d (.sl 1 (strs a)))), (1, [], .c (.d (.sl 1 (strs b)))), (4, [], .c (.d (.b false))), (12, [], .c (.d (.i ((strs a).length : Int)))), (13, [], .c (.d (.i (k : Int))))], []⟩, k ≤ a.length ∧ ∀ j, j < k → a.getD j [] = b.getD j [])) 0 (by kernel_rfl) conj0 (by kernel_rfl) ?_ ?_
  ·exact ⟨Nat.zero_le _, fun j hj => by omega⟩
  rintro k ⟨hk, hn⟩
  refine zc hG [] [0, 1] (decide (((k : Int) : Int) < ((strs a).length : Int))) (by kernel_rfl) conj0 (fun hc3 => ?_) (fun hc3 => ?_)
  ·(try simp only [zq4] at hc3)
   refine zc hG [(6, 2, .elem (strD ((a).getD k []))), (6, 6, .elem (strD ((b).getD k [])))] [1, 1, 0, 0, 1, 1] (!((S ((a).getD k [])).toList == (S ((b).getD k [])).toList)) (by kernel_rfl) (conjC (show (0 : Int) ≤ (k : Int) ∧ (strs a)[k]? = some (strD ((a).getD k [])) from (by intros; exact map_at [] (by omega) (by (try simp only [zq5] at *); omega))) (conj1 (show (0 : Int) ≤ (k : Int) ∧ (strs b)[k]? = some (strD ((b).getD k [])) from (by intros; exact map_at [] (by omega) (by (try simp only [zq5] at *); omega))))) (fun hc4 => ?_) (fun hc4 => ?_)
   ·(try simp only [zq4] at hc4)
    refine zE hG [] .ret (⟨[(4, [], .c (.d (.b false)))], []⟩) (by kernel_rfl) conj0 rfl ?_
    refine zR hG [] [] (.c (.d (.b false))) [] (by kernel_rfl) conj0 ?_ ?_
    ·have : ¬ a = b := ne_of_at [] (j := k) (by simpa using hc4)
     simp [this]
    ·rfl
   ·(try simp only [zq4] at hc4)
    refine zD hG [] (k + 1) (by kernel_rfl) (conj1 (show inR ((k : Int) + 1) from (by intros; (try simp only [zq8] at *); omega))) ?_ ?_
    ·(try dsimp only); omega
    ·exact ⟨by omega, below_succ hn (by simpa using hc4)⟩
  ·(try simp only [zq4] at hc3)
   refine zE hG [] (.exit 0) (⟨[(4, [], .c (.d (.b false)))], []⟩) (by kernel_rfl) conj0 rfl ?_
   refine zR hG [] [] (.c (.d (.b true))) [] (by kernel_rfl) conj0 ?_ ?_
   ·have : a = b := eq_of_all [] (by omega) (fun j hj => hn j (by omega))
    simp [this]
   ·rfl
theorem eqRows_nil' (a b : List (List Cl)) (ha : a = []) (hb : b = []) :
  SpG (gT m) 68 [.c (.d (.sl 1 (rowsD a))), .c (.d (.sl 1 (rowsD b))), .c (.d (.v (.func (.func 69) #[] #[])))] [] (.c (.d (.b true))) [] := by
 refine enterB 32 Tryz.func68 (by kernel_rfl) fun fr hG => ?_
 refine zC hG [] [1, 0, 1] (!decide ((((rowsD a).length : Int) : Int) = ((rowsD b).length : Int))) (⟨[(0, [], .c (.d (.sl 1 (rowsD a)))), (1, [], .c (.d (.sl 1 (rowsD b)))), (2, [], .c (.d (.v (.func (.func 69) #[] #[])))), (6, [], .c (.d (.b false)))], []⟩) (by kernel_rfl) conj0 (fun hc1 => ?_) (fun hc1 => ?_)
 ·(try simp only [zq4] at hc1)
  exfalso; simp [ha, hb] at hc1; try omega
 ·(try simp only [zq4] at hc1)
  refine zL hG [] [0, 1, 0, 1, 1] (fun (zz : Nat) => match zz with | k => (0, ⟨[(1, [], .c (.d (.sl 1 (rowsD b)))), (2, [], .c (.d (.v (.func (.func 69) #[] #[])))), (6, [], .c (.d (.b false))), (15, [], .c (.d (.sl 1 (rowsD a)))), (16, [], .c (.d (.i ((rowsD a).length : Int)))), (17, [], .c (.d (.i (k : Int))))], []⟩, k = 0)) 0 (by kernel_rfl) conj0 (by kernel_rfl) ?_ ?_
  ·rfl
  rintro k hk
  refine zc hG [] [0, 1] (decide (((k : Int) : Int) < ((rowsD a).length : Int))) (by kernel_rfl) conj0 (fun hc3 => ?_) (fun hc3 => ?_)
  ·(try simp only [zq4] at hc3)
   exfalso; simp [ha, hb] at hc3; try omega
  ·(try simp only [zq4] at hc3)
   refine zE hG [] (.exit 0) (⟨[(6, [], .c (.d (.b false)))], []⟩) (by kernel_rfl) conj0 rfl ?_
   exact zr hG [] [] (by kernel_rfl) conj0
theorem equal_of (a b : Vl) (T : Bool) (hT : SpG (gT m) 68 [.c (.d (.sl 1 (rowsD a.rows))), .c (.d (.sl 1 (rowsD b.rows))), .c (.d (.v (.func (.func 69) #[] #[])))] [] (.c (.d (.b T))) []) :
  SpG (gT m) 33 [.agg [.d (.i a.kind), .d (.s (S a.s)), .d (.i a.dn), .d (.i a.ds), .d (.i a.n), .d (.sl 1 (strs a.cols)), .d (.sl 1 (rowsD a.rows))], .agg [.d (.i b.kind), .d (.s (S b.s)), .d (.i b.dn), .d (.i b.ds), .d (.i b.n), .d (.sl 1 (strs b.cols)), .d (.sl 1 (rowsD b.rows))]] [] (.c (.d (.b (eqK T a b)))) [] := by
 refine enterB 43 Tryz.func33 (by kernel_rfl) fun fr hG => ?_
 refine zC hG [] [1, 0, 1] ((((!decide ((a.kind : Int) = b.kind)) || (!((S a.s).toList == (S b.s).toList))) || (!(((a.dn : Int) == b.dn) && ((a.ds : Int) == b.ds)))) || (!decide ((a.n : Int) = b.n))) (⟨[(2, [], .c (.bx 100 0)), (3, [], .c (.bx 101 0)), (4, [], .c (.d (.b false)))], [(100, .box 30 [.d (.i a.kind), .d (.s (S a.s)), .d (.i a.dn), .d (.i a.ds), .d (.i a.n), .d (.sl 1 (strs a.cols)), .d (.sl 1 (rowsD a.rows))]), (101, .box 30 [.d (.i b.kind), .d (.s (S b.s)), .d (.i b.dn), .d (.i b.ds), .d (.i b.n), .d (.sl 1 (strs b.cols)), .d (.sl 1 (rowsD b.rows))])]⟩) (by kernel_rfl) conj0 (fun hc1 => ?_) (fun hc1 => ?_)
 ·(try simp only [zq4] at hc1)
  refine zR hG [] [] (.c (.d (.b false))) [] (by kernel_rfl) conj0 ?_ ?_
  ·have e : eqK T a b = false := by
    rw [Bool.eq_false_iff]; intro hE
    simp only [eqK, Bool.and_eq_true, decide_eq_true_eq, beq_iff_eq] at hE
    obtain ⟨⟨⟨⟨⟨e1, e2⟩, e3, e4⟩, e5⟩, e6⟩, e7⟩ := hE
    rcases hc1 with ((h | h) | h | h) | h <;> first | exact h e1 | exact h e2 | exact h e5 | (rw [e3] at h; simp at h; done) | (rw [e4] at h; simp at h; done)
   rw [e]
  ·rfl
 ·(try simp only [zq4] at hc1)
  refine zR hG [(3, 4, .call (.c (.d (.b (decide ((a.cols) = (b.cols)))))) [] []), (3, 10, .call (.c (.d (.b T))) [] [])] [] (.c (.d (.b ((decide ((a.cols) = (b.cols))) && T)))) [] (by kernel_rfl) (conjC ((sEqual_ok (a.cols) (b.cols) : SpG (gT m) _ _ _ _ _)) (conj1 (fun (hg1 : (decide ((a.cols) = (b.cols))) = true) => ((hT : SpG (gT m) _ _ _ _ _))))) ?_ ?_
  ·(try simp only [S_beq] at hc1)
   simp only [eqK]
   simp_all
  ·rfl
theorem eqRows_nil : SpG (gT m) 68 [.c (.d (.sl 1 [])), .c (.d (.sl 1 [])), .c (.d (.v (.func (.func 69) #[] #[])))] [] (.c (.d (.b true))) [] := by
 have h := eqRows_nil' (m := m) [] [] rfl rfl
 exact h
theorem equalC (x y : Cl) : SpG (gT m) 33 [clArg x, clArg y] [] (.c (.d (.b (decide (x = y))))) [] := by
 have h := equal_of (m := m) x.toV y.toV _ eqRows_nil
 have e : eqK true x.toV y.toV = decide (x = y) := by
  have := eqK_eq (a := x.toV) (b := y.toV)
  rw [show decide (x.toV.rows = y.toV.rows) = true from rfl] at this
  rw [this]; simp [toV_inj]
 rw [e] at h
 exact h
theorem eqFuncC_ok (a b : List Cl) :
  SpG (gT m) 111 [.c (.d (.sl 7 (rowD a))), .c (.d (.sl 7 (rowD b))), .c (.d (.v (.func (.func 33) #[] #[])))] [] (.c (.d (.b (decide (a = b))))) [] := by
 refine enterB 32 Tryz.func111 (by kernel_rfl) fun fr hG => ?_
 refine stepLen 0 rfl fun hl0 => ?_
 refine stepLen 1 rfl fun hl1 => ?_
 refine zC hG [] [1, 0, 1] (!decide ((((rowD a).length : Int) : Int) = ((rowD b).length : Int))) (⟨[(0, [], .c (.d (.sl 7 (rowD a)))), (1, [], .c (.d (.sl 7 (rowD b)))), (2, [], .c (.d (.v (.func (.func 33) #[] #[])))), (6, [], .c (.d (.b false)))], []⟩) (by kernel_rfl) conj0 (fun hc1 => ?_) (fun hc1 => ?_)
 ·(try simp only [zq4] at hc1)
  refine zR hG [] [] (.c (.d (.b false))) [] (by kernel_rfl) conj0 ?_ ?_
  ·have : ¬ a = b := fun e => hc1 (by rw [e])
   simp [this]
  ·rfl
 ·(try simp only [zq4] at hc1)
  refine zL hG [] [0, 1, 0, 1, 1] (fun (zz : Nat) => match zz with | k => (a.length - k, ⟨[(1, [], .c (.d (.sl 7 (rowD b)))), (2, [], .c (.d (.v (.func (.func 33) #[] #[])))), (6, [], .c (.d (.b false))), (15, [], .c (.d (.sl 7 (rowD a)))), (16, [], .c (.d (.i ((rowD a).length : Int)))), (17, [], .c (.d (.i (k : Int))))], []⟩, k ≤ a.length ∧ ∀ j, j < k → a.getD j Cl.z = b.getD j Cl.z)) 0 (by kernel_rfl) conj0 (by kernel_rfl) ?_ ?_
  ·exact ⟨Nat.zero_le _, fun j hj => by omega⟩
  rintro k ⟨hk, hn⟩
  refine zc hG [] [0, 1] (decide (((k : Int) : Int) < ((rowD a).length : Int))) (by kernel_rfl) conj0 (fun hc3 => ?_) (fun hc3 => ?_)
  ·(try simp only [zq4] at hc3)
   refine zc hG [(5, 1, .elem (ClD ((a).getD k Cl.z))), (6, 2, .elem (ClD ((b).getD k Cl.z))), (7, 3, .call (.c (.d (.b (decide (((a).getD k Cl.z) = ((b).getD k Cl.z)))))) [] [])] [1, 1, 1, 0, 0, 1, 1] (!(decide (((a).getD k Cl.z) = ((b).getD k Cl.z)))) (by kernel_rfl) (conjC (show (0 : Int) ≤ (k : Int) ∧ (rowD a)[k]? = some (ClD ((a).getD k Cl.z)) from (by intros; exact map_at _ (by omega) (by (try simp only [zq7] at *); omega))) (conjC (show (0 : Int) ≤ (k : Int) ∧ (rowD b)[k]? = some (ClD ((b).getD k Cl.z)) from (by intros; exact map_at _ (by omega) (by (try simp only [zq7] at *); omega))) (conj1 ((equalC ((a).getD k Cl.z) ((b).getD k Cl.z) : SpG (gT m) _ _ _ _ _))))) (fun hc4 => ?_) (fun hc4 => ?_)
   ·(try simp only [zq4] at hc4)
    refine zE hG [] .ret (⟨[(6, [], .c (.d (.b false)))], []⟩) (by kernel_rfl) conj0 rfl ?_
    refine zR hG [] [] (.c (.d (.b false))) [] (by kernel_rfl) conj0 ?_ ?_
    ·have : ¬ a = b := ne_of_at Cl.z (j := k) (by simpa using hc4)
     simp [this]
    ·rfl
   ·(try simp only [zq4] at hc4)
    refine zD hG [] (k + 1) (by kernel_rfl) (conj1 (show inR ((k : Int) + 1) from (by intros; (try simp only [zq8] at *); omega))) ?_ ?_
    ·(try dsimp only); omega
    ·exact ⟨by omega, below_succ hn (by simpa using hc4)⟩
  ·(try simp only [zq4] at hc3)
   refine zE hG [] (.exit 0) (⟨[(6, [], .c (.d (.b false)))], []⟩) (by kernel_rfl) conj0 rfl ?_
   refine zR hG [] [] (.c (.d (.b true))) [] (by kernel_rfl) conj0 ?_ ?_
   ·have : a = b := eq_of_all Cl.z (by omega) (fun j hj => hn j (by omega))
    simp [this]
   ·rfl
theorem equalRows_ok (a b : List Cl) :
  SpG (gT m) 69 [.c (.d (.sl 7 (rowD a))), .c (.d (.sl 7 (rowD b)))] [] (.c (.d (.b (decide (a = b))))) [] := by
 refine enterB 8 Tryz.func69 (by kernel_rfl) fun fr hG => ?_
 exact zr hG [(1, 2, .call (.c (.d (.b (decide (a = b))))) [] [])] [] (by kernel_rfl) (conj1 ((eqFuncC_ok a b : SpG (gT m) _ _ _ _ _)))
theorem eqFuncR_ok (a b : List (List Cl)) :
  SpG (gT m) 68 [.c (.d (.sl 1 (rowsD a))), .c (.d (.sl 1 (rowsD b))), .c (.d (.v (.func (.func 69) #[] #[])))] [] (.c (.d (.b (decide (a = b))))) [] := by
 refine enterB 32 Tryz.func68 (by kernel_rfl) fun fr hG => ?_
 refine stepLen 0 rfl fun hl0 => ?_
 refine stepLen 1 rfl fun hl1 => ?_
 refine zC hG [] [1, 0, 1] (!decide ((((rowsD a).length : Int) : Int) = ((rowsD b).length : Int))) (⟨[(0, [], .c (.d (.sl 1 (rowsD a)))), (1, [], .c (.d (.sl 1 (rowsD b)))), (2, [], .c (.d (.v (.func (.func 69) #[] #[])))), (6, [], .c (.d (.b false)))], []⟩) (by kernel_rfl) conj0 (fun hc1 => ?_) (fun hc1 => ?_)
 ·(try simp only [zq4] at hc1)
  refine zR hG [] [] (.c (.d (.b false))) [] (by kernel_rfl) conj0 ?_ ?_
  ·have : ¬ a = b := fun e => hc1 (by rw [e])
   simp [this]
  ·rfl
 ·(try simp only [zq4] at hc1)
  refine zL hG [] [0, 1, 0, 1, 1] (fun (zz : Nat) => match zz with | k => (a.length - k, ⟨[(1, [], .c (.d (.sl 1 (rowsD b)))), (2, [], .c (.d (.v (.func (.func 69) #[] #[])))), (6, [], .c (.d (.b false))), (15, [], .c (.d (.sl 1 (rowsD a)))), (16, [], .c (.d (.i ((rowsD a).length : Int)))), (17, [], .c (.d (.i (k : Int))))], []⟩, k ≤ a.length ∧ ∀ j, j < k → a.getD j [] = b.getD j [])) 0 (by kernel_rfl) conj0 (by kernel_rfl) ?_ ?_
  ·exact ⟨Nat.zero_le _, fun j hj => by omega⟩
  rintro k ⟨hk, hn⟩
  refine zc hG [] [0, 1] (decide (((k : Int) : Int) < ((rowsD a).length : Int))) (by kernel_rfl) conj0 (fun hc3 => ?_) (fun hc3 => ?_)
  ·(try simp only [zq4] at hc3)
   refine zc hG [(5, 1, .elem (rows1 ((a).getD k []))), (6, 2, .elem (rows1 ((b).getD k []))), (7, 3, .call (.c (.d (.b (decide (((a).getD k []) = ((b).getD k [])))))) [] [])] [1, 1, 1, 0, 0, 1, 1] (!(decide (((a).getD k []) = ((b).getD k [])))) (by kernel_rfl) (conjC (show (0 : Int) ≤ (k : Int) ∧ (rowsD a)[k]? = some (rows1 ((a).getD k [])) from (by intros; exact map_at _ (by omega) (by (try simp only [zq7] at *); omega))) (conjC (show (0 : Int) ≤ (k : Int) ∧ (rowsD b)[k]? = some (rows1 ((b).getD k [])) from (by intros; exact map_at _ (by omega) (by (try simp only [zq7] at *); omega))) (conj1 ((equalRows_ok ((a).getD k []) ((b).getD k []) : SpG (gT m) _ _ _ _ _))))) (fun hc4 => ?_) (fun hc4 => ?_)
   ·(try simp only [zq4] at hc4)
    refine zE hG [] .ret (⟨[(6, [], .c (.d (.b false)))], []⟩) (by kernel_rfl) conj0 rfl ?_
    refine zR hG [] [] (.c (.d (.b false))) [] (by kernel_rfl) conj0 ?_ ?_
    ·have : ¬ a = b := ne_of_at [] (j := k) (by simpa using hc4)
     simp [this]
    ·rfl
   ·(try simp only [zq4] at hc4)
    refine zD hG [] (k + 1) (by kernel_rfl) (conj1 (show inR ((k : Int) + 1) from (by intros; (try simp only [zq8] at *); omega))) ?_ ?_
    ·(try dsimp only); omega
    ·exact ⟨by omega, below_succ hn (by simpa using hc4)⟩
  ·(try simp only [zq4] at hc3)
   refine zE hG [] (.exit 0) (⟨[(6, [], .c (.d (.b false)))], []⟩) (by kernel_rfl) conj0 rfl ?_
   refine zR hG [] [] (.c (.d (.b true))) [] (by kernel_rfl) conj0 ?_ ?_
   ·have : a = b := eq_of_all [] (by omega) (fun j hj => hn j (by omega))
    simp [this]
   ·rfl
theorem equal_ok (a b : Vl) : SpG (gT m) 33 [vArg a, vArg b] [] (.c (.d (.b (decide (a = b))))) [] := by
 have h := equal_of (m := m) a b _ (eqFuncR_ok a.rows b.rows)
 rw [eqK_eq] at h
 exact h
end Go.Proofs.YtmpgfchkkemngaaGreatDoor
namespace Go.Proofs.YtmpgfchkkemngaaGreatDoor
open Go.RowKit Go.V
open Go.Eng (inR byteAt u8 bytesV)
structure Cmp3 {α : Type} (P : α → Prop) (f : α → α → Int) : Prop where
 eq : ∀ a b, P a → P b → (f a b = 0 ↔ a = b)
 anti : ∀ a b, P a → P b → (f a b < 0 ↔ 0 < f b a)
 trans : ∀ a b c, P a → P b → P c → f a b < 0 → f b c < 0 → f a c < 0
theorem ci_cases (x y : Int) : (x < y ∧ Lib.compareInt x y = -1) ∨ (x = y ∧ Lib.compareInt x y = 0) ∨ (y < x ∧ Lib.compareInt x y = 1) := by
 unfold Lib.compareInt
 by_cases h : x < y
 ·exact .inl ⟨h, if_pos h⟩
 ·by_cases h2 : x > y
  ·exact .inr (.inr ⟨h2, by rw [if_neg h, if_pos h2]⟩)
  ·exact .inr (.inl ⟨by omega, by rw [if_neg h, if_neg h2]⟩)
theorem Cmp3.congr {α : Type} {P : α → Prop} {f g : α → α → Int} (h : Cmp3 P f) (e : ∀ a b, P a → P b → g a b = f a b) : Cmp3 P g :=
 ⟨fun a b ha hb => by rw [e a b ha hb]; exact h.eq a b ha hb, fun a b ha hb => by rw [e a b ha hb, e b a hb ha]; exact h.anti a b ha hb, fun a b c ha hb hc h1 h2 => by rw [e a b ha hb] at h1; rw [e b c hb hc] at h2; rw [e a c ha hc]; exact h.trans a b c ha hb hc h1 h2⟩
theorem Cmp3.map {α β : Type} {P : α → Prop} {Q : β → Prop} {f : β → β → Int} (h : Cmp3 Q f) (g : α → β) (hg : ∀ a, P a → Q (g a)) (inj : ∀ a b, P a → P b → g a = g b → a = b) : Cmp3 P (fun a b => f (g a) (g b)) :=
 ⟨fun a b ha hb => ⟨fun hh => inj a b ha hb ((h.eq _ _ (hg a ha) (hg b hb)).1 hh), fun hh => (h.eq _ _ (hg a ha) (hg b hb)).2 (by rw [hh])⟩, fun a b ha hb => h.anti _ _ (hg a ha) (hg b hb), fun a b c ha hb hc => h.trans _ _ _ (hg a ha) (hg b hb) (hg c hc)⟩
def decV (n s : Int) : Int := n * Int.tdiv 1000000 (tenD s)
theorem sp_facts {n s : Int} (h0 : 0 ≤ s) (h1 : s ≤ 6) : decV n s = 1000000 * spW n s + spP n s ∧ -1000000 < spP n s ∧ spP n s < 1000000 ∧ ((0 ≤ spW n s ∧ 0 ≤ spP n s) ∨ (spW n s ≤ 0 ∧ spP n s ≤ 0)) := by
 have key : ∀ d u : Int, 0 < d → 0 < u → d * u = 1000000 → n * u = 1000000 * Int.tdiv n d + Int.tmod n d * u ∧ -1000000 < Int.tmod n d * u ∧ Int.tmod n d * u < 1000000 ∧ ((0 ≤ Int.tdiv n d ∧ 0 ≤ Int.tmod n d * u) ∨ (Int.tdiv n d ≤ 0 ∧ Int.tmod n d * u ≤ 0)) := by
  intro d u hd hu hdu
  have e := Int.mul_tdiv_add_tmod n d
  have e2 : n * u = 1000000 * Int.tdiv n d + Int.tmod n d * u := by
   conv => lhs; rw [← e]
   rw [Int.add_mul, Int.mul_right_comm, hdu]
  have b1 : Int.tmod n d < d := Int.tmod_lt_of_pos n hd
  have b2 : -d < Int.tmod n d := by
   have := Int.lt_tmod_of_pos n hd
   omega
  have c1 : Int.tmod n d * u < d * u := Int.mul_lt_mul_of_pos_right b1 hu
  have c2 : -d * u < Int.tmod n d * u := Int.mul_lt_mul_of_pos_right b2 hu
  rw [Int.neg_mul] at c2
  refine ⟨e2, by omega, by omega, ?_⟩
  by_cases hn : 0 ≤ n
  ·exact .inl ⟨Int.tdiv_nonneg hn (by omega), Int.mul_nonneg (Int.tmod_nonneg d hn) (by omega)⟩
  ·refine .inr ⟨?_, ?_⟩
   ·have := Int.tdiv_nonneg (a := -n) (b := d) (by omega) (by omega)
    rw [Int.neg_tdiv] at this; omega
   ·have := Int.tmod_nonneg (a := -n) d (by omega)
    rw [Int.neg_tmod] at this
    have h3 := Int.mul_nonneg this (show 0 ≤ u by omega)
    rw [Int.neg_mul] at h3; omega
 obtain ⟨a, b, c, d⟩ := tenD_div h0 h1
 exact key (tenD s) (Int.tdiv 1000000 (tenD s)) (by omega) (by omega) d
theorem decCmp_eq {a b c d : Int} (h1 : decB a b = true) (h2 : decB c d = true) : decCmp a b c d = Lib.compareInt (decV a b) (decV c d) := by
 obtain ⟨x1, x2, x3, x4, _⟩ := decB_bd h1
 obtain ⟨y1, y2, y3, y4, _⟩ := decB_bd h2
 obtain ⟨p1, p2, p3, p4⟩ := sp_facts (n := a) x1 x2
 obtain ⟨q1, q2, q3, q4⟩ := sp_facts (n := c) y1 y2
 unfold decCmp
 rcases ci_cases (spW a b) (spW c d) with ⟨h, h'⟩ | ⟨h, h'⟩ | ⟨h, h'⟩ <;> rcases ci_cases (spP a b) (spP c d) with ⟨k, k'⟩ | ⟨k, k'⟩ | ⟨k, k'⟩ <;> rcases ci_cases (decV a b) (decV c d) with ⟨j, j'⟩ | ⟨j, j'⟩ | ⟨j, j'⟩ <;> rw [h', j'] <;> first | (exfalso; omega) | (simp; done) | (simp; exact k')
def Cl.fine (c : Cl) : Prop := ¬ c.kind = 5 ∧ rightK false c.toV = true
theorem table_fine {cols : List (List UInt8)} {rows : List (List Cl)} (h : tableB cols rows = true) : ∀ r, r ∈ rows → ∀ c, c ∈ r → c.fine := by
 intro r hr c hc
 simp only [tableB, Bool.and_eq_true] at h
 obtain ⟨i, hi, rfl⟩ := List.mem_iff_getElem.1 hr
 obtain ⟨j, hj, rfl⟩ := List.mem_iff_getElem.1 hc
 have h1 := allR_get h.2 hi
 simp only [rowAt, Bool.and_eq_true, decide_eq_true_eq, getD_at hi] at h1
 have h2 := allR_get h1.2 hj
 simp only [cellAt, Bool.and_eq_true, Bool.not_eq_true', decide_eq_false_iff_not, getD_at hj] at h2
 exact h2
def vlK (k : Int) (a b : Vl) : Int := if k = 5 then tbC a b else kdC k a.c b.c
def valC (a b : Vl) : Int := if a.kind = b.kind then vlK a.kind a b else Lib.compareInt a.kind b.kind
theorem lessB_eq {a b : Vl} (ha : rightB a = true) (hb : rightB b = true) : lessB a b = decide (valC a b < 0) := by
 rw [lessB, if_pos ⟨ha, hb⟩, valC]
 split
 ·rfl
 ·rename_i hk
  rcases ci_cases a.kind b.kind with ⟨h, h'⟩ | ⟨h, h'⟩ | ⟨h, h'⟩ <;> rw [h'] <;> simp <;> omega
end Go.Proofs.YtmpgfchkkemngaaGreatDoor
namespace Go.Proofs.YtmpgfchkkemngaaGreatDoor
open Go.RowKit Go.V
open Go.Eng (inR byteAt u8 bytesV)
def vd : List Int → Int
 | [] => 0
 | d :: r => d + 16777216 * vd r
def Dg (l : List Int) : Prop := ∀ d, d ∈ l → 0 ≤ d ∧ d < 16777216
def dg (n : Nat) : List Int := if h : n = 0 then [] else ((n % 16777216 : Nat) : Int) :: dg (n / 16777216)
 termination_by n
 decreasing_by omega
theorem dg_zero : dg 0 = [] := by rw [dg]; simp
theorem dg_pos {n : Nat} (h : n ≠ 0) : dg n = ((n % 16777216 : Nat) : Int) :: dg (n / 16777216) := by rw [dg]; simp [h]
theorem vd_app : ∀ a b : List Int, vd (a ++ b) = vd a + 16777216 ^ a.length * vd b
 | [], b => by simp [vd]
 | x :: a, b => by
  rw [List.cons_append, vd, vd_app a b, vd, List.length_cons, Int.pow_succ]
  grind
theorem vd_snoc (a : List Int) (x : Int) : vd (a ++ [x]) = vd a + 16777216 ^ a.length * x := by rw [vd_app]; simp [vd]
theorem Dg.nil : Dg [] := fun d h => by cases h
theorem Dg.cons {x : Int} {l : List Int} (h0 : 0 ≤ x) (h1 : x < 16777216) (h : Dg l) : Dg (x :: l) := fun d hd => by
 rcases List.mem_cons.1 hd with rfl | hd
 ·exact ⟨h0, h1⟩
 ·exact h d hd
theorem Dg.tail {x : Int} {l : List Int} (h : Dg (x :: l)) : Dg l := fun d hd => h d (List.mem_cons_of_mem _ hd)
theorem Dg.head {x : Int} {l : List Int} (h : Dg (x :: l)) : 0 ≤ x ∧ x < 16777216 := h x (by simp)
theorem Dg.app {a b : List Int} (ha : Dg a) (hb : Dg b) : Dg (a ++ b) := fun d hd => (List.mem_append.1 hd).elim (ha d) (hb d)
theorem Dg.snoc {a : List Int} {x : Int} (ha : Dg a) (h0 : 0 ≤ x) (h1 : x < 16777216) : Dg (a ++ [x]) := ha.app (Dg.cons h0 h1 Dg.nil)
theorem Dg.take {l : List Int} (h : Dg l) (k : Nat) : Dg (l.take k) := fun d hd => h d (List.mem_of_mem_take hd)
theorem Dg.drop {l : List Int} (h : Dg l) (k : Nat) : Dg (l.drop k) := fun d hd => h d (List.mem_of_mem_drop hd)
theorem Dg.at {l : List Int} (h : Dg l) {k : Nat} (hk : k < l.length) : 0 ≤ l.getD k 0 ∧ l.getD k 0 < 16777216 := h _ (by simp [hk])
theorem vd_nonneg : ∀ {l : List Int}, Dg l → 0 ≤ vd l
 | [], _ => by simp [vd]
 | d :: r, h => by
  have := vd_nonneg h.tail; have := h.head
  rw [vd]; omega
theorem pw (k : Nat) : ((16777216 ^ k : Nat) : Int) = (16777216 : Int) ^ k := by rw [Int.natCast_pow]; rfl
theorem powB_pos (k : Nat) : (0 : Int) < 16777216 ^ k := Int.pow_pos (by decide)
theorem vd_lt : ∀ {l : List Int}, Dg l → vd l < 16777216 ^ l.length
 | [], _ => by simp [vd]
 | d :: r, h => by
  have := vd_lt h.tail; have := h.head
  rw [vd, List.length_cons, Int.pow_succ]; omega
theorem vd_dg : ∀ n : Nat, vd (dg n) = (n : Int) ∧ Dg (dg n) := by
 intro n
 induction n using Nat.strongRecOn with
 | ind n ih =>
  by_cases h : n = 0
  ·subst h; rw [dg_zero]; exact ⟨rfl, Dg.nil⟩
  ·obtain ⟨h1, h2⟩ := ih (n / 16777216) (by omega)
   rw [dg_pos h, vd, h1]
   exact ⟨by omega, Dg.cons (by omega) (by omega) h2⟩
def Trim (l : List Int) : Prop := l = [] ∨ ¬ l.getD (l.length - 1) 0 = 0
theorem dg_of : ∀ {l : List Int}, Dg l → Trim l → l = dg (vd l).toNat
 | [], _, _ => by rw [show vd [] = 0 from rfl]; exact dg_zero.symm
 | d :: r, h, ht => by
  have hd := h.head
  have hr := vd_nonneg h.tail
  have hne : ¬ d + 16777216 * vd r = 0 := by
   intro h0
   have d0 : d = 0 := by omega
   have r0 : vd r = 0 := by omega
   rcases ht with ht | ht
   ·cases ht
   ·cases r with
    | nil => simp at ht; exact ht d0
    | cons x r =>
     have ht' : Trim (x :: r) := .inr (by simpa using ht)
     have := dg_of h.tail ht'
     rw [r0, show (0 : Int).toNat = 0 from rfl, dg_zero] at this
     cases this
  have hp : (d + 16777216 * vd r).toNat ≠ 0 := by omega
  rw [vd, dg_pos hp]
  have e1 : ((d + 16777216 * vd r).toNat % 16777216 : Nat) = d.toNat := by omega
  have e2 : (d + 16777216 * vd r).toNat / 16777216 = (vd r).toNat := by omega
  have ht' : Trim r := by
   cases r with
   | nil => exact .inl rfl
   | cons x r =>
    rcases ht with ht | ht
    ·cases ht
    ·exact .inr (by simpa using ht)
  rw [e1, e2, ← dg_of h.tail ht']
  congr 1; omega
theorem dg_trim (n : Nat) : Trim (dg n) := by
 induction n using Nat.strongRecOn with
 | ind n ih =>
  by_cases h : n = 0
  ·subst h; exact .inl dg_zero
  ·have := ih (n / 16777216) (by omega)
   rw [dg_pos h]
   by_cases h2 : n / 16777216 = 0
   ·rw [h2, dg_zero]; right; simp; omega
   ·rw [dg_pos h2] at this ⊢
    rcases this with hh | hh
    ·cases hh
    ·right; simpa using hh
theorem getD_last {l : List Int} (h : 0 < l.length) : l.take (l.length - 1) ++ [l.getD (l.length - 1) 0] = l := by
 have hk : l.length - 1 < l.length := by omega
 have : l.take (l.length - 1 + 1) = l.take (l.length - 1) ++ [l.getD (l.length - 1) 0] := by
  rw [List.take_add_one, List.getD_eq_getElem?_getD, List.getElem?_eq_getElem hk]; rfl
 rw [← this, show l.length - 1 + 1 = l.length by omega, List.take_length]
theorem trim_step {l : List Int} (h : 0 < l.length) (hz : l.getD (l.length - 1) 0 = 0) : vd (l.take (l.length - 1)) = vd l := by
 have e := getD_last h
 rw [hz] at e
 conv => rhs; rw [← e]
 rw [vd_snoc]; simp
theorem drop_at {l : List Int} {k : Nat} (h : k < l.length) : vd (l.drop k) = l.getD k 0 + 16777216 * vd (l.drop (k + 1)) := by
 rw [List.drop_eq_getElem_cons h, vd]; simp [h]
theorem drop_end {l : List Int} {k : Nat} (h : l.length ≤ k) : vd (l.drop k) = 0 := by rw [List.drop_eq_nil_of_le h]; rfl
theorem dg_len {n k : Nat} (h : (nb n).length ≤ 3 * k) : (dg n).length ≤ k := by
 induction k generalizing n with
 | zero =>
  have := (nb_len_zero n).1 (by omega)
  subst this; rw [dg_zero]; simp
 | succ k ih =>
  by_cases h0 : n = 0
  ·subst h0; rw [dg_zero]; simp
  ·rw [dg_pos h0, List.length_cons]
   have : (nb (n / 16777216)).length ≤ 3 * k := by
    by_cases h1 : n / 256 = 0
    ·rw [show n / 16777216 = 0 by omega, nb_zero]; simp
    ·by_cases h2 : n / 65536 = 0
     ·rw [show n / 16777216 = 0 by omega, nb_zero]; simp
     ·by_cases h3 : n / 16777216 = 0
      ·rw [h3, nb_zero]; simp
      ·have e1 := congrArg List.length (nb_pos h0)
       have e2 := congrArg List.length (nb_pos (n := n / 256) h1)
       have e3 := congrArg List.length (nb_pos (n := n / 256 / 256) (by omega))
       rw [List.length_append] at e1 e2 e3
       have e4 : n / 256 / 256 / 256 = n / 16777216 := by omega
       rw [e4] at e3
       simp only [zq17] at e1 e2 e3
       omega
   have := ih this
   omega
theorem nb_first {n : Nat} {x : UInt8} {t : List UInt8} (h : nb n = x :: t) : ¬ x = 0 := by
 intro h0
 have e : canonL (nb n) = nb n := by rw [canon_nb, valB_nb]
 rw [h, h0] at e
 have h1 : canonL (0 :: t) = canonL t := by simp [canonL]
 rw [h1] at e
 have : (canonL t).length ≤ t.length := by unfold canonL; exact (List.dropWhile_sublist _).length_le
 rw [e, List.length_cons] at this; omega
theorem nb_take_pos {n e : Nat} (he : 0 < e) (hl : e ≤ (nb n).length) : valB ((nb n).take e) ≠ 0 := by
 cases h : nb n with
 | nil => rw [h] at hl; simp at hl; omega
 | cons x t =>
  have hx := nb_first h
  obtain ⟨k, rfl⟩ : ∃ k, e = k + 1 := ⟨e - 1, by omega⟩
  rw [List.take_succ_cons, valB_cons]
  have : 0 < x.toNat := by
   rcases Nat.eq_zero_or_pos x.toNat with h0 | h0
   ·exact absurd (UInt8.toNat_inj.1 (by simpa using h0)) hx
   ·exact h0
  have h2 : 0 < x.toNat * 256 ^ (t.take k).length := Nat.mul_pos this (Nat.pow_pos (by decide))
  omega
theorem valB_split {a : List UInt8} {s e : Nat} (h : s ≤ e) (he : e ≤ a.length) : valB (a.take e) = valB (a.take s) * 256 ^ (e - s) + valB ((a.take e).drop s) := by
 have e1 : a.take e = a.take s ++ (a.take e).drop s := by
  have := List.take_append_drop s (a.take e)
  rw [List.take_take, Nat.min_eq_left h] at this
  exact this.symm
 conv => lhs; rw [e1]
 rw [valB_app, List.length_drop, List.length_take, Nat.min_eq_left he]
theorem of_step {n e : Nat} (he : 0 < e) (hl : e ≤ (nb n).length) : dg (valB ((nb n).take e)) = (valB (((nb n).take e).drop (e - 3)) : Int) :: dg (valB ((nb n).take (e - 3))) := by
 rw [dg_pos (nb_take_pos he hl)]
 have hs := valB_split (a := nb n) (s := e - 3) (e := e) (by omega) hl
 have hlt := valB_lt (((nb n).take e).drop (e - 3))
 rw [List.length_drop, List.length_take, Nat.min_eq_left hl] at hlt
 by_cases h3 : 3 ≤ e
 ·rw [show e - (e - 3) = 3 by omega] at hs hlt
  rw [hs]
  have h1 : (valB ((nb n).take (e - 3)) * 256 ^ 3 + valB (((nb n).take e).drop (e - 3))) % 16777216 = valB (((nb n).take e).drop (e - 3)) := by omega
  have h2 : (valB ((nb n).take (e - 3)) * 256 ^ 3 + valB (((nb n).take e).drop (e - 3))) / 16777216 = valB ((nb n).take (e - 3)) := by omega
  rw [h1, h2]
 ·have h0 : e - 3 = 0 := by omega
  have hz : valB ((nb n).take (e - 3)) = 0 := by rw [h0]; rfl
  have hlt' : valB (((nb n).take e).drop (e - 3)) < 16777216 := by
   have : 256 ^ (e - (e - 3)) ≤ 256 ^ 3 := Nat.pow_le_pow_right (by decide) (by omega)
   omega
  rw [hz] at hs ⊢
  rw [Nat.zero_mul, Nat.zero_add] at hs
  rw [hs, Nat.mod_eq_of_lt hlt', Nat.div_eq_of_lt hlt']
theorem number_step {acc : List UInt8} {d : Int} (h0 : 0 ≤ d) (h1 : d < 16777216) : (valB (acc ++ [u8 (Int.fdiv d 65536)] ++ [u8 (Int.fdiv d 256)] ++ [u8 d]) : Int) = valB acc * 16777216 + d := by
 rw [valB_snoc, valB_snoc, valB_snoc]
 have f1 : Int.fdiv d 65536 = d / 65536 := Int.fdiv_eq_ediv_of_nonneg _ (by decide)
 have f2 : Int.fdiv d 256 = d / 256 := Int.fdiv_eq_ediv_of_nonneg _ (by decide)
 rw [f1, f2]
 have h2 := u8_toNat (d / 65536)
 have h3 := u8_toNat (d / 256)
 have h4 := u8_toNat d
 omega
theorem nat_step {acc : List UInt8} {n j : Nat} (hj : j < 8) (hv : valB acc = n / 2 ^ (64 - 8 * j)) : valB (acc ++ [u8 (Int.fdiv (n : Int) (2 ^ (56 - 8 * j)))]) = n / 2 ^ (64 - 8 * (j + 1)) := by
 rw [valB_snoc, hv]
 have e : ((u8 (Int.fdiv (n : Int) (2 ^ (56 - 8 * j)))).toNat : Int) = ((n / 2 ^ (56 - 8 * j) % 256 : Nat) : Int) := by
  rw [u8_toNat, Int.fdiv_eq_ediv_of_nonneg _ (Int.le_of_lt (Int.pow_pos (by decide)))]
  rw [Int.natCast_emod, Int.natCast_ediv, Int.natCast_pow]; rfl
 have e' : (u8 (Int.fdiv (n : Int) (2 ^ (56 - 8 * j)))).toNat = n / 2 ^ (56 - 8 * j) % 256 := Int.ofNat.inj e
 rw [e', show 64 - 8 * (j + 1) = 56 - 8 * j by omega, show 64 - 8 * j = (56 - 8 * j) + 8 by omega, Nat.pow_add, ← Nat.div_div_eq_div_mul]
 generalize n / 2 ^ (56 - 8 * j) = q
 omega
theorem dg_len_lt {x y : Nat} (h : (dg x).length < (dg y).length) : x < y := by
 have hx := vd_lt (vd_dg x).2
 rw [(vd_dg x).1] at hx
 have hy : (16777216 : Int) ^ ((dg y).length - 1) ≤ (y : Int) := by
  have e := getD_last (l := dg y) (by omega)
  have ht : ¬ (dg y).getD ((dg y).length - 1) 0 = 0 := by
   rcases dg_trim y with h0 | h0
   ·rw [h0] at h; simp at h
   ·exact h0
  have hd := (vd_dg y).2.at (k := (dg y).length - 1) (by omega)
  have hv := congrArg vd e
  rw [vd_snoc, (vd_dg y).1, List.length_take, Nat.min_eq_left (by omega)] at hv
  have h0 := vd_nonneg ((vd_dg y).2.take ((dg y).length - 1))
  have h1 : (16777216 : Int) ^ ((dg y).length - 1) * 1 ≤ 16777216 ^ ((dg y).length - 1) * (dg y).getD ((dg y).length - 1) 0 := Int.mul_le_mul_of_nonneg_left (by omega) (Int.le_of_lt (powB_pos _))
  omega
 have hp : (16777216 : Int) ^ (dg x).length ≤ 16777216 ^ ((dg y).length - 1) := by
  have := Nat.pow_le_pow_right (n := 16777216) (by decide) (show (dg x).length ≤ (dg y).length - 1 by omega)
  have h := Int.ofNat_le.2 this
  rw [pw, pw] at h; exact h
 omega
theorem Dg.set {l : List Int} (h : Dg l) {k : Nat} {x : Int} (h0 : 0 ≤ x) (h1 : x < 16777216) : Dg (l.set k x) := fun d hd => by
 rcases List.mem_or_eq_of_mem_set hd with h' | rfl
 ·exact h d h'
 ·exact ⟨h0, h1⟩
theorem vd_set_at {l : List Int} {k : Nat} (h : k < l.length) (x : Int) : vd (l.set k x) = vd l + 16777216 ^ k * (x - l.getD k 0) := by
 have e1 : l.set k x = l.take k ++ x :: l.drop (k + 1) := List.set_eq_take_append_cons_drop.trans (if_pos h)
 have e2 : l = l.take k ++ l.getD k 0 :: l.drop (k + 1) := by
  have := List.take_append_drop k l
  rw [List.drop_eq_getElem_cons h] at this
  simpa [h] using this.symm
 have e3 := congrArg vd e2
 rw [vd_app] at e3
 rw [e1, vd_app, e3, vd, vd]
 grind
theorem vd_zeros : ∀ n : Nat, vd (List.replicate n 0) = 0
 | 0 => rfl
 | n + 1 => by rw [List.replicate_succ, vd, vd_zeros n]; rfl
theorem Dg.zeros (n : Nat) : Dg (List.replicate n 0) := fun d hd => by rw [(List.mem_replicate.1 hd).2]; decide
end Go.Proofs.YtmpgfchkkemngaaGreatDoor
namespace Go.Proofs.YtmpgfchkkemngaaGreatDoor
open Go.RowKit Go.V
open Go.Eng (inR byteAt u8 bytesV)
variable {g : Gv}
theorem ints_snoc (acc : List Int) (x : Int) : intsD acc ++ [[D.i x]] = intsD (acc ++ [x]) := by simp [intsD, intD]
theorem ints_take (l : List Int) (k : Nat) : ((intsD l).take k).drop 0 = intsD (l.take k) := by simp [intsD]
theorem ints_len (l : List Int) : (intsD l).length = l.length := by simp [intsD]
theorem bytes_snoc3 (acc : List UInt8) (x y z : Int) : bytesD acc ++ [[D.y (IntKind.wrap .u8 x)], [D.y (IntKind.wrap .u8 y)], [D.y (IntKind.wrap .u8 z)]] = bytesD (acc ++ [u8 x] ++ [u8 y] ++ [u8 z]) := by
 rw [← bytesD_snoc, ← bytesD_snoc, ← bytesD_snoc]; simp
theorem mid_step {a : List UInt8} {s k : Nat} (hs : s ≤ k) (hk : k < a.length) : valB ((a.take (k + 1)).drop s) = 256 * valB ((a.take k).drop s) + (a.getD k 0).toNat := by
 have e : a.take (k + 1) = a.take k ++ [a.getD k 0] := by
  rw [List.take_add_one, List.getD_eq_getElem?_getD, List.getElem?_eq_getElem hk]; rfl
 rw [e, List.drop_append_of_le_length (by rw [List.length_take]; omega), valB_snoc]
theorem mid_bd {a : List UInt8} {s k : Nat} (hs : s ≤ k) (hk : k ≤ a.length) (h3 : k ≤ s + 3) : valB ((a.take k).drop s) < 16777216 ∧ (k ≤ s + 2 → valB ((a.take k).drop s) < 65536) := by
 have h := valB_lt ((a.take k).drop s)
 rw [List.length_drop, List.length_take, Nat.min_eq_left hk] at h
 have h1 : 256 ^ (k - s) ≤ 256 ^ 3 := Nat.pow_le_pow_right (by decide) (by omega)
 refine ⟨by omega, fun h2 => ?_⟩
 have h1 : 256 ^ (k - s) ≤ 256 ^ 2 := Nat.pow_le_pow_right (by decide) (by omega)
 omega
theorem byte_lt (l : List UInt8) (i : Int) : 0 ≤ byteAt (S l) i ∧ byteAt (S l) i < 256 := by
 rw [byteAt_S]; have := (l.getD i.toNat 0).toNat_lt; omega
theorem byte_wrap (l : List UInt8) (i : Int) : IntKind.wrap .i64 (byteAt (S l) i) = byteAt (S l) i := by rw [byteAt_S, wrap64_byte]
theorem nb_ge {n k : Nat} : k < (nb n).length ↔ 256 ^ k ≤ n := by
 refine ⟨fun h => ?_, nb_len_ge⟩
 rcases Nat.lt_or_ge n (256 ^ k) with h1 | h1
 ·have := nb_len h1; omega
 ·exact h1
theorem int_big {n : Nat} (h : (nb n).length > 8 ∨ ((nb n).length = 8 ∧ ((nb n).getD 0 0).toNat > 127)) : ¬ n < 2 ^ 63 := by
 intro hn
 rcases h with h | ⟨h, h'⟩
 ·have := nb_len (n := n) (k := 8) (by omega); omega
 ·have := nb_head hn h; omega
theorem int_fits {n : Nat} (h1 : ¬ (nb n).length > 8) (h2 : (nb n).length = 8 → ¬ ((nb n).getD 0 0).toNat > 127) : n < 2 ^ 63 := by
 rcases Nat.lt_or_ge n (2 ^ 63) with h | h
 ·exact h
 ·exfalso
  have hl : (nb n).length = 8 := by
   have := nb_len_ge (n := n) (k := 7) (by omega); omega
  have h3 := h2 hl
  have e : n = valB (nb n) := (valB_nb n).symm
  cases hb : nb n with
  | nil => rw [hb] at hl; simp at hl
  | cons x t =>
   rw [hb] at hl h3 e
   rw [valB_cons] at e
   have ht : t.length = 7 := by simpa using hl
   have h4 := valB_lt t
   rw [ht] at e h4
   have : x.toNat ≤ 127 := by simpa using h3
   have h5 : x.toNat * 256 ^ 7 ≤ 127 * 256 ^ 7 := Nat.mul_le_mul_right _ this
   omega
def intV (n : Nat) : Int := if n < 2 ^ 63 then (n : Int) else 0
def intK (n : Nat) : Bool := decide (n < 2 ^ 63)
def smV (n k : Nat) : Int := if n < 256 ^ k then (n : Int) else 0
def smK (n k : Nat) : Bool := decide (n < 256 ^ k)
theorem sm_int {n k : Nat} (hk : k ≤ 7) (h : n < 256 ^ k) : intV n = smV n k ∧ intK n = smK n k := by
 have h1 : 256 ^ k ≤ 256 ^ 7 := Nat.pow_le_pow_right (by decide) hk
 have h2 : n < 2 ^ 63 := by omega
 simp [intV, intK, smV, smK, h, h2]
def zq21 := And.intro @List.length_append.{0} (And.intro @List.length_cons.{0} (And.intro @List.length_map.{0, 0} (And.intro @List.length_nil.{0} (And.intro @S_size (And.intro @decide_eq_true_eq (And.intro @inR.eq_1 (And.intro @intsD.eq_1 (@maxLen.eq_1))))))))
def zq22 := And.intro @List.length_map.{0, 0} (And.intro @S_size (And.intro @blS (And.intro @byteAt_S (@intsD.eq_1))))
theorem canon_ok (l : List UInt8) (hl : l.length ≤ maxLen) :
  SpG g 138 [.c (.d (.s (S l)))] [] (.c (.d (.s (S (nb (valB l)))))) [] := by
 refine enterB 19 Tryz.func138 (by kernel_rfl) fun fr hG => ?_
 refine zL hG [] [0, 0, 1, 1] (fun (zz : Nat) => match zz with | k => (l.length - k, ⟨[(0, [], .c (.d (.s (S l)))), (2, [], .c (.d (.s (S [])))), (3, [], .c (.d (.i (k : Int))))], []⟩, k ≤ l.length ∧ canonL (l.drop k) = canonL l)) 0 (by kernel_rfl) conj0 (by kernel_rfl) ?_ ?_
 ·exact ⟨Nat.zero_le _, rfl⟩
 rintro k ⟨hk, hn⟩
 refine zc hG [] [1, 0] ((decide (((k : Int) : Int) < ((S l).size : Int))) && (decide ((byteAt (S l) (k : Int) : Int) = 0))) (by kernel_rfl) (conj1 (show (decide (((k : Int) : Int) < ((S l).size : Int))) = true → (0 : Int) ≤ (k : Int) ∧ (k : Int) < ((S l).size : Int) from (by intros; (try simp only [zq21] at *); omega))) (fun hc2 => ?_) (fun hc2 => ?_)
 ·(try simp only [zq22] at hc2)
  refine zD hG [] (k + 1) (by kernel_rfl) (conj1 (show inR ((k : Int) + 1) from (by intros; (try simp only [zq21] at *); omega))) ?_ ?_
  ·(try dsimp only); omega
  ·refine ⟨by omega, ?_⟩
   rw [← hn, canon_zero (k := k) (by omega) (by have := hc2.2; simp only [Int.toNat_natCast] at this; omega)]
 ·(try simp only [zq22] at hc2)
  refine zE hG [] (.exit 0) (⟨[(0, [], .c (.d (.s (S l)))), (2, [], .c (.d (.s (S [])))), (3, [], .c (.d (.i (k : Int))))], []⟩) (by kernel_rfl) conj0 rfl ?_
  refine zR hG [] [] (.c (.d (.s ((S l).extract k (S l).size)))) [] (by kernel_rfl) (conj1 (show (0 : Int) ≤ (k : Int) ∧ ((k : Int) : Int) ≤ ((S l).size : Int) ∧ ((S l).size : Int) ≤ ((S l).size : Int) from (by intros; (try simp only [zq21] at *); omega))) ?_ ?_
  ·have h0 : ¬ (k < l.length ∧ (l.getD k 0).toNat = 0) := by
    rintro ⟨h1, h2⟩
    rcases hc2 with h | h
    ·omega
    ·simp only [Int.toNat_natCast] at h; omega
   rw [S_drop, ← canon_nb, ← hn, canon_stop h0]
  ·rfl
theorem canonNb_ok (n : Nat) (hl : (nb n).length ≤ maxLen) : SpG g 138 [.c (.d (.s (S (nb n))))] [] (.c (.d (.s (S (nb n))))) [] := by
 have h := canon_ok (g := g) (nb n) hl
 rw [valB_nb] at h
 exact h
theorem of_ok (n : Int) (h : 0 ≤ n ∧ n ≤ 9223372036854775807) :
  SpG g 136 [.c (.d (.i n))] [] (.c (.d (.s (S (nb n.toNat))))) [] := by
 refine enterB 23 Tryz.func136 (by kernel_rfl) fun fr hG => ?_
 refine zA hG [] [0, 1, 0, 1, 1] (⟨[(0, [], .c (.d (.i n))), (2, [], .c (.d (.s (S [])))), (3, [], .c (.d (.nil))), (4, [], .c (.d (.i 56)))], []⟩) [(3, 9001, 5, 1)] [] (fun (zz : Nat × Int × List (List D) × List UInt8) => match zz with | (j, kk, es, acc) => (8 - j, ⟨[(0, [], .c (.d (.i n))), (2, [], .c (.d (.s (S [])))), (3, [], .c (.ar 9001 0)), (4, [], .c (.d (.i kk)))], [(9001, .arr 0 5 1 (es))]⟩, j ≤ 8 ∧ kk = 56 - 8 * (j : Int) ∧ es = bytesD acc ∧ acc.length = j ∧ valB acc = n.toNat / 2 ^ (64 - 8 * j))) (0, 56, [], []) (by kernel_rfl) conj0 (by kernel_rfl) (by kernel_rfl) ?_ ?_
 ·refine ⟨Nat.zero_le _, rfl, rfl, rfl, ?_⟩
  rw [valB_nil, Nat.div_eq_of_lt (by omega)]
 rintro ⟨j, kk, es, acc⟩ ⟨hj, hkk, hes, ha, hv⟩
 have hlen : es.length = j := by rw [hes, bytesD_len, ha]
 have e0 : ((n.toNat : Nat) : Int) = n := by omega
 refine zc hG [] [1, 0] ((decide ((kk : Int) ≥ 0)) && (decide ((n : Int) > 0))) (by kernel_rfl) conj0 (fun hc2 => ?_) (fun hc2 => ?_)
 ·(try simp only [zq22] at hc2)
  refine zD hG [] (j + 1, kk - 8, es ++ [[D.y (IntKind.wrap .u8 (Int.fdiv n (2 ^ min (kk : Int).toNat 64)))]], acc ++ [u8 (Int.fdiv n (2 ^ min (kk : Int).toNat 64))]) (by kernel_rfl) (conjC (show (0 : Int) ≤ kk from (by intros; (try simp only [zq21] at *); omega)) (conjC (show ((es).length + (([[.y (IntKind.wrap .u8 (Int.fdiv n (2 ^ min (kk : Int).toNat 64)))]] : List (List D))).length) * (1 + 1) ≤ 140737488355328 from (by intros; (try simp only [zq21] at *); omega)) (conj1 (show inR (kk - 8) from (by intros; (try simp only [zq21] at *); omega))))) ?_ ?_
  ·(try dsimp only); omega
  ·have e1 : min (kk : Int).toNat 64 = 56 - 8 * j := by omega
   refine ⟨by omega, by omega, by rw [hes, bytesD_snoc], by simp [ha], ?_⟩
   rw [e1]
   have h := nat_step (acc := acc) (n := n.toNat) (j := j) (by omega) hv
   rw [e0] at h; exact h
 ·(try simp only [zq22] at hc2)
  refine zE hG [] (.exit 0) (⟨[(2, [], .c (.d (.s (S [])))), (3, [], .c (.ar 9001 0))], [(9001, .arr 0 5 1 (es))]⟩) (by kernel_rfl) conj0 rfl ?_
  refine zR hG [(6, 1, .call (.c (.d (.s (S acc)))) [] []), (6, 2, .call (.c (.d (.s (S (nb (valB (acc))))))) [] [])] [] (.c (.d (.s (S (nb (valB (acc))))))) [] (by kernel_rfl) (conjC (show es = bytesD (S acc).data.toList from (by rw [hes, bytesD_S])) (conj1 ((canon_ok (acc) (by simp only [maxLen]; omega) : SpG g _ _ _ _ _)))) ?_ ?_
  ·have e : valB acc = n.toNat := by
    rw [hv]
    rcases hc2 with h | h
    ·rw [show 64 - 8 * j = 0 by omega]; simp
    ·rw [show n.toNat = 0 by omega]; simp
   rw [e]
  ·rfl
theorem ofD_ok (n : Nat) (h : (nb n).length ≤ 1000000) :
  SpG g 140 [.c (.d (.s (S (nb n))))] [] (.c (.d (.sl 1 (intsD (dg n))))) [] := by
 refine enterB 35 Tryz.func140 (by kernel_rfl) fun fr hG => ?_
 refine zA hG [(1, 1, .call (.c (.d (.s (S (nb n))))) [] [])] [0, 1, 0, 1, 1, 1] (⟨[(0, [], .c (.d (.s (S (nb n))))), (2, [], .c (.d (.nil))), (3, [], .c (.d (.nil))), (4, [], .c (.d (.i ((S (nb n)).size : Int))))], []⟩) [(3, 9001, 3, 1)] [] (fun (zz : Int × List (List D) × List Int) => match zz with | (e, es, acc) => ((e + 3).toNat, ⟨[(0, [], .c (.d (.s (S (nb n))))), (2, [], .c (.d (.nil))), (3, [], .c (.ar 9001 0)), (4, [], .c (.d (.i e)))], [(9001, .arr 0 3 1 (es))]⟩, e ≤ (nb n).length ∧ -3 < e ∧ es = intsD acc ∧ acc.length ≤ (nb n).length ∧ (acc.length : Int) + e ≤ (nb n).length ∧ acc ++ dg (valB ((nb n).take e.toNat)) = dg n)) (((S (nb n)).size : Int), [], []) (by kernel_rfl) (conj1 ((canonNb_ok n (by simp only [maxLen]; omega) : SpG g _ _ _ _ _))) (by kernel_rfl) (by kernel_rfl) ?_ ?_
 ·rw [S_size]
  refine ⟨by omega, by omega, rfl, by simp, by simp, ?_⟩
  rw [Int.toNat_natCast, List.take_length, valB_nb]; rfl
 rintro ⟨e, es, acc⟩ ⟨he, hm, hes, ha, hae, hv⟩
 have hlen : es.length = acc.length := by rw [hes, ints_len]
 refine zc hG [] [1, 0] (decide ((e : Int) > 0)) (by kernel_rfl) conj0 (fun hc2 => ?_) (fun hc2 => ?_)
 ·(try simp only [zq22] at hc2)
  refine zL hG [] [0, 1, 0, 1, 0, 0, 1] (fun (zz : Int × Int) => match zz with | (d, k) => ((e - k).toNat, ⟨[(0, [], .c (.d (.s (S (nb n))))), (2, [], .c (.d (.nil))), (3, [], .c (.ar 9001 0)), (4, [], .c (.d (.i e))), (5, [], .c (.d (.i d))), (6, [], .c (.d (.i k)))], [(9001, .arr 0 3 1 (es))]⟩, ((e.toNat - 3 : Nat) : Int) ≤ k ∧ k ≤ e ∧ d = valB (((nb n).take k.toNat).drop (e.toNat - 3)))) (0, (if (0 : Int) > (e - 3) then 0 else (e - 3))) (by kernel_rfl) (conj1 (show inR (e - 3) from (by intros; (try rw [hw]); (try have hm4 := hm3.2 (by omega)); (try simp only [zq18] at *); omega))) (by kernel_rfl) ?_ ?_
  ·refine ⟨by split <;> omega, by split <;> omega, ?_⟩
   rw [List.drop_eq_nil_of_le]
   ·rfl
   ·rw [List.length_take]; split <;> omega
  rintro ⟨d, k⟩ ⟨hk1, hk2, hd⟩
  have hb := byte_lt (nb n) k
  have hw := byte_wrap (nb n) k
  have hm3 := mid_bd (a := nb n) (s := e.toNat - 3) (k := k.toNat) (by omega) (by omega) (by omega)
  refine zc hG [] [1, 0] (decide ((k : Int) < e)) (by kernel_rfl) conj0 (fun hc4 => ?_) (fun hc4 => ?_)
  ·(try simp only [zq22] at hc4)
   refine zD hG [] (d * 256 + IntKind.wrap .i64 (byteAt (S (nb n)) k), k + 1) (by kernel_rfl) (conjC (show inR (d * 256) from (by intros; (try rw [hw]); (try have hm4 := hm3.2 (by omega)); (try simp only [zq18] at *); omega)) (conjC (show (0 : Int) ≤ k ∧ k < ((S (nb n)).size : Int) from (by intros; (try rw [hw]); (try have hm4 := hm3.2 (by omega)); (try simp only [zq18] at *); omega)) (conjC (show inR ((d * 256) + (IntKind.wrap .i64 (byteAt (S (nb n)) k))) from (by intros; (try rw [hw]); (try have hm4 := hm3.2 (by omega)); (try simp only [zq18] at *); omega)) (conj1 (show inR (k + 1) from (by intros; (try rw [hw]); (try have hm4 := hm3.2 (by omega)); (try simp only [zq18] at *); omega)))))) ?_ ?_
   ·(try dsimp only); omega
   ·refine ⟨by omega, by omega, ?_⟩
    have h1 : (k + 1).toNat = k.toNat + 1 := by omega
    rw [h1, mid_step (by omega) (by omega), hw, byteAt_S, hd]
    omega
  ·(try simp only [zq22] at hc4)
   refine zE hG [] (.exit 2) (⟨[(0, [], .c (.d (.s (S (nb n))))), (2, [], .c (.d (.nil))), (3, [], .c (.ar 9001 0)), (4, [], .c (.d (.i e))), (5, [], .c (.d (.i d)))], [(9001, .arr 0 3 1 (es))]⟩) (by kernel_rfl) conj0 rfl ?_
   refine zD hG [] (e - 3, es ++ [[D.i d]], acc ++ [d]) (by kernel_rfl) (conjC (show ((es).length + (([[.i d]] : List (List D))).length) * (8 + 1) ≤ 140737488355328 from (by intros; (try rw [hw]); (try have hm4 := hm3.2 (by omega)); (try simp only [zq18] at *); omega)) (conj1 (show inR (e - 3) from (by intros; (try rw [hw]); (try have hm4 := hm3.2 (by omega)); (try simp only [zq18] at *); omega)))) ?_ ?_
   ·(try dsimp only); omega
   ·have hk0 : k = e := by omega
    subst hk0
    have hst := of_step (n := n) (e := k.toNat) (by omega) (by omega)
    refine ⟨by omega, by omega, by rw [hes, ints_snoc], by simp; omega, by simp; omega, ?_⟩
    have e3 : (k - 3).toNat = k.toNat - 3 := by omega
    rw [e3, ← hv, hst, hd]; simp
 ·(try simp only [zq22] at hc2)
  refine zE hG [] (.exit 0) (⟨[(2, [], .c (.d (.nil))), (3, [], .c (.ar 9001 0))], [(9001, .arr 0 3 1 (es))]⟩) (by kernel_rfl) conj0 rfl ?_
  refine zR hG [] [] (.c (.d (.sl 1 (es)))) [] (by kernel_rfl) conj0 ?_ ?_
  ·have hz : (nb n).take e.toNat = [] := by rw [show e.toNat = 0 by omega]; rfl
   rw [hz, valB_nil, dg_zero, List.append_nil] at hv
   rw [hes, hv]
  ·rfl
theorem number_ok (l : List Int) (hD : Dg l) (hl : l.length ≤ 400000) :
  SpG g 146 [.c (.d (.sl 1 (intsD l)))] [] (.c (.d (.s (S (nb (vd l).toNat))))) [] := by
 refine enterB 35 Tryz.func146 (by kernel_rfl) fun fr hG => ?_
 refine stepLen 0 rfl fun hl0 => ?_
 refine zA hG [] [0, 1, 0, 1, 1] (⟨[(0, [], .c (.d (.sl 1 (intsD l)))), (2, [], .c (.d (.s (S [])))), (3, [], .c (.d (.nil))), (4, [], .c (.d (.i (((intsD l).length : Int) - 1))))], []⟩) [(3, 9001, 5, 1)] [] (fun (zz : Int × List (List D) × List UInt8) => match zz with | (k, es, acc) => ((k + 1).toNat, ⟨[(0, [], .c (.d (.sl 1 (intsD l)))), (2, [], .c (.d (.s (S [])))), (3, [], .c (.ar 9001 0)), (4, [], .c (.d (.i k)))], [(9001, .arr 0 5 1 (es))]⟩, -1 ≤ k ∧ k < l.length ∧ es = bytesD acc ∧ (acc.length : Int) + 3 * k + 3 = 3 * l.length ∧ (valB acc : Int) = vd (l.drop (k + 1).toNat))) (((intsD l).length : Int) - 1, [], []) (by kernel_rfl) (conj1 (show inR (((intsD l).length : Int) - 1) from (by intros; (try simp only [zq21] at *); omega))) (by kernel_rfl) (by kernel_rfl) ?_ ?_
 ·rw [ints_len]
  refine ⟨by omega, by omega, rfl, by rw [List.length_nil]; omega, ?_⟩
  rw [drop_end (by omega)]; rfl
 rintro ⟨k, es, acc⟩ ⟨hk1, hk2, hes, ha, hv⟩
 have hlen : es.length = acc.length := by rw [hes, bytesD_len]
 refine zc hG [] [1, 0] (decide ((k : Int) ≥ 0)) (by kernel_rfl) conj0 (fun hc2 => ?_) (fun hc2 => ?_)
 ·(try simp only [zq22] at hc2)
  refine zD hG [(5, 3, .elem (intD ((l).getD (k : Int).toNat 0))), (5, 9, .elem (intD ((l).getD (k : Int).toNat 0))), (5, 15, .elem (intD ((l).getD (k : Int).toNat 0)))] (k - 1, es ++ [[D.y (IntKind.wrap .u8 (Int.fdiv (l.getD k.toNat 0) (2 ^ min (16 : Int).toNat 64)))], [D.y (IntKind.wrap .u8 (Int.fdiv (l.getD k.toNat 0) (2 ^ min (8 : Int).toNat 64)))], [D.y (IntKind.wrap .u8 (l.getD k.toNat 0))]], acc ++ [u8 (Int.fdiv (l.getD k.toNat 0) (2 ^ min (16 : Int).toNat 64))] ++ [u8 (Int.fdiv (l.getD k.toNat 0) (2 ^ min (8 : Int).toNat 64))] ++ [u8 (l.getD k.toNat 0)]) (by kernel_rfl) (conjC (show (0 : Int) ≤ k ∧ (intsD l)[(k : Int).toNat]? = some (intD ((l).getD (k : Int).toNat 0)) from (by intros; exact map_at _ (by omega) (by (try simp only [zq10] at *); omega))) (conjC (show (0 : Int) ≤ 16 from (by intros; (try simp only [zq21] at *); omega)) (conjC (show (0 : Int) ≤ k ∧ (intsD l)[(k : Int).toNat]? = some (intD ((l).getD (k : Int).toNat 0)) from (by intros; exact map_at _ (by omega) (by (try simp only [zq10] at *); omega))) (conjC (show (0 : Int) ≤ 8 from (by intros; (try simp only [zq21] at *); omega)) (conjC (show (0 : Int) ≤ k ∧ (intsD l)[(k : Int).toNat]? = some (intD ((l).getD (k : Int).toNat 0)) from (by intros; exact map_at _ (by omega) (by (try simp only [zq10] at *); omega))) (conjC (show ((es).length + (([[.y (IntKind.wrap .u8 (Int.fdiv ((l).getD (k : Int).toNat 0) (2 ^ min (16 : Int).toNat 64)))], [.y (IntKind.wrap .u8 (Int.fdiv ((l).getD (k : Int).toNat 0) (2 ^ min (8 : Int).toNat 64)))], [.y (IntKind.wrap .u8 ((l).getD (k : Int).toNat 0))]] : List (List D))).length) * (1 + 1) ≤ 140737488355328 from (by intros; (try simp only [zq21] at *); omega)) (conj1 (show inR (k - 1) from (by intros; (try simp only [zq21] at *); omega))))))))) ?_ ?_
  ·(try dsimp only); omega
  ·have hd := hD.at (k := k.toNat) (by omega)
   refine ⟨by omega, by omega, by rw [hes, bytes_snoc3], by simp; omega, ?_⟩
   have h := number_step (acc := acc) hd.1 hd.2
   have e1 : (k - 1 + 1).toNat = k.toNat := by omega
   have e2 : (k + 1).toNat = k.toNat + 1 := by omega
   rw [e1, drop_at (by omega), ← e2, ← hv]
   have e3 : (2 : Int) ^ min (16 : Int).toNat 64 = 65536 := rfl
   have e4 : (2 : Int) ^ min (8 : Int).toNat 64 = 256 := rfl
   rw [e3, e4, h]; omega
 ·(try simp only [zq22] at hc2)
  refine zE hG [] (.exit 0) (⟨[(2, [], .c (.d (.s (S [])))), (3, [], .c (.ar 9001 0))], [(9001, .arr 0 5 1 (es))]⟩) (by kernel_rfl) conj0 rfl ?_
  refine zR hG [(6, 1, .call (.c (.d (.s (S acc)))) [] []), (6, 2, .call (.c (.d (.s (S (nb (valB (acc))))))) [] [])] [] (.c (.d (.s (S (nb (valB (acc))))))) [] (by kernel_rfl) (conjC (show es = bytesD (S acc).data.toList from (by rw [hes, bytesD_S])) (conj1 ((canon_ok (acc) (by simp only [maxLen]; omega) : SpG g _ _ _ _ _)))) ?_ ?_
  ·have e : valB acc = (vd l).toNat := by
    rw [show (k + 1).toNat = 0 by omega, List.drop_zero] at hv; omega
   rw [e]
  ·rfl
theorem trim_ok (l : List Int) (hD : Dg l) :
  SpG g 141 [.c (.d (.sl 1 (intsD l)))] [] (.c (.d (.sl 1 (intsD (dg (vd l).toNat))))) [] := by
 refine enterB 21 Tryz.func141 (by kernel_rfl) fun fr hG => ?_
 refine stepLen 0 rfl fun hl0 => ?_
 refine zL hG [] [0, 0, 1] (fun (zz : List (List D) × List Int) => match zz with | (es, cur) => (cur.length, ⟨[(0, [], .c (.d (.sl 1 (es)))), (2, [], .c (.d (.nil)))], []⟩, es = intsD cur ∧ Dg cur ∧ vd cur = vd l ∧ cur.length ≤ l.length)) (intsD l, l) (by kernel_rfl) conj0 (by kernel_rfl) ?_ ?_
 ·exact ⟨rfl, hD, rfl, Nat.le_refl _⟩
 rintro ⟨es, cur⟩ ⟨hes, hd, hv, hc⟩
 have hlen : es.length = cur.length := by rw [hes, ints_len]
 refine zc hG [(1, 8, .elem ([.i ((cur).getD (((es).length : Int) - 1 : Int).toNat 0)]))] [1, 0] ((decide ((((es).length : Int) : Int) > 0)) && (decide (((cur).getD (((es).length : Int) - 1 : Int).toNat 0 : Int) = 0))) (by kernel_rfl) (conjC (show (decide ((((es).length : Int) : Int) > 0)) = true → inR (((es).length : Int) - 1) from (by intros; (try simp only [ints_len, inR, maxLen, decide_eq_true_eq] at *); omega)) (conj1 (show (decide ((((es).length : Int) : Int) > 0)) = true → (0 : Int) ≤ (((es).length : Int) - 1) ∧ (es)[(((es).length : Int) - 1 : Int).toNat]? = some ([.i ((cur).getD (((es).length : Int) - 1 : Int).toNat 0)]) from (by intros; (try simp only [decide_eq_true_eq] at *); rw [hes]; exact map_at 0 (by (try simp only [ints_len] at *); omega) (by (try simp only [ints_len] at *); omega))))) (fun hc2 => ?_) (fun hc2 => ?_)
 ·(try simp only [zq22] at hc2)
  refine zD hG [] ((es.take (((es).length : Int) - 1).toNat).drop 0, cur.take (cur.length - 1)) (by kernel_rfl) (conjC (show inR (((es).length : Int) - 1) from (by intros; (try simp only [ints_len, inR, maxLen, decide_eq_true_eq] at *); omega)) (conj1 (show (0 : Int) ≤ 0 ∧ (0 : Int) ≤ (((es).length : Int) - 1) ∧ (((es).length : Int) - 1) ≤ ((es).length : Int) from (by intros; (try simp only [ints_len, inR, maxLen, decide_eq_true_eq] at *); omega)))) ?_ ?_
  ·(try dsimp only)
   rw [List.length_take]; omega
  ·have hz := hc2.2
   rw [show (((es).length : Int) - 1).toNat = cur.length - 1 by omega] at hz ⊢
   refine ⟨by rw [hes, ints_take], hd.take _, by rw [trim_step (by omega) hz, hv], by rw [List.length_take]; omega⟩
 ·(try simp only [zq22] at hc2)
  refine zE hG [] (.exit 0) (⟨[(0, [], .c (.d (.sl 1 (es)))), (2, [], .c (.d (.nil)))], []⟩) (by kernel_rfl) conj0 rfl ?_
  refine zR hG [] [] (.c (.d (.sl 1 (es)))) [] (by kernel_rfl) conj0 ?_ ?_
  ·have ht : Trim cur := by
    rcases hc2 with h | h
    ·left; exact List.eq_nil_of_length_eq_zero (by omega)
    ·right; rw [show (((es).length : Int) - 1).toNat = cur.length - 1 by omega] at h; exact h
   rw [hes, ← hv, ← dg_of hd ht]
  ·rfl
end Go.Proofs.YtmpgfchkkemngaaGreatDoor
namespace Go.Proofs.YtmpgfchkkemngaaGreatDoor
open Go.RowKit Go.V
open Go.Eng (inR byteAt u8 bytesV)
variable {g : Gv}
theorem toList_S (l : List UInt8) : (S l).toList = l := by
 have h := str_beq (S l) (S l)
 have : (S l).toList = (S l).data.toList := by
  simp [ByteArray.toList_eq]
 rw [this]; simp [S]
theorem bytesLess_val : ∀ {a b : List UInt8}, a.length = b.length → Op.bytesLess a b = decide (valB a < valB b)
 | [], [], _ => rfl
 | [], _ :: _, h => by simp at h
 | _ :: _, [], h => by simp at h
 | x :: a, y :: b, h => by
  have hl : a.length = b.length := by simpa using h
  have ih := bytesLess_val hl
  have ha := valB_lt a; have hb := valB_lt b
  rw [Op.bytesLess, ih, valB_cons, valB_cons]
  rw [hl] at ha ⊢
  rcases Nat.lt_trichotomy x.toNat y.toNat with h1 | h1 | h1
  ·have h2 : x < y := UInt8.lt_iff_toNat_lt.2 h1
   have h3 : x.toNat * 256 ^ b.length + 1 * 256 ^ b.length ≤ y.toNat * 256 ^ b.length := by rw [← Nat.add_mul]; exact Nat.mul_le_mul_right _ h1
   have h5 : x.toNat * 256 ^ b.length + valB a < y.toNat * 256 ^ b.length + valB b := by omega
   rw [decide_eq_true h5]; simp [h2]
  ·have h2 : x = y := UInt8.toNat_inj.1 h1
   subst h2
   simp
  ·have h2 : ¬ x < y := fun h => by have := UInt8.lt_iff_toNat_lt.1 h; omega
   have h4 : ¬ x = y := fun h => by subst h; omega
   have h3 : y.toNat * 256 ^ b.length + 1 * 256 ^ b.length ≤ x.toNat * 256 ^ b.length := by rw [← Nat.add_mul]; exact Nat.mul_le_mul_right _ h1
   have h5 : ¬ x.toNat * 256 ^ b.length + valB a < y.toNat * 256 ^ b.length + valB b := by omega
   rw [decide_eq_false h5]; simp [h2, h4]
theorem nb_less {x y : Nat} (h : (nb x).length = (nb y).length) : Op.bytesLess (S (nb x)).toList (S (nb y)).toList = decide (x < y) := by
 rw [toList_S, toList_S, bytesLess_val h, valB_nb, valB_nb]
theorem nb_shorter {x y : Nat} (h : (nb x).length < (nb y).length) : x < y := by
 have := nb_ge.1 h
 have h2 := valB_lt (nb x)
 rw [valB_nb] at h2; omega
theorem number_at {es : List (List D)} {l : List Int} (h : es = intsD l) (hD : Dg l) (hl : l.length ≤ 400000) : SpG g 146 [.c (.d (.sl 1 es))] [] (.c (.d (.s (S (nb (vd l).toNat))))) [] := by
 subst h; exact number_ok l hD hl
theorem trim_at {es : List (List D)} {l : List Int} {n : Nat} (h : es = intsD l) (hD : Dg l) (hn : vd l = (n : Int)) : SpG g 141 [.c (.d (.sl 1 es))] [] (.c (.d (.sl 1 (intsD (dg n))))) [] := by
 subst h
 have := trim_ok (g := g) l hD
 rw [hn, Int.toNat_natCast] at this; exact this
theorem tdivmod {s : Int} (h : 0 ≤ s) : Int.tmod s 16777216 = s % 16777216 ∧ Int.tdiv s 16777216 = s / 16777216 := ⟨Int.tmod_eq_emod_of_nonneg h, Int.tdiv_eq_ediv_of_nonneg h⟩
theorem carry_step {acc : List Int} {k : Nat} {s X X' T : Int} (ha : acc.length = k) (h0 : 0 ≤ s) (hX : X = s + 16777216 * X') (hI : vd acc + 16777216 ^ k * X = T) : vd (acc ++ [Int.tmod s 16777216]) + 16777216 ^ (k + 1) * (Int.tdiv s 16777216 + X') = T := by
 obtain ⟨e1, e2⟩ := tdivmod h0
 rw [vd_snoc, ha, e1, e2, Int.pow_succ, ← hI, hX]
 have := Int.emod_add_mul_ediv s 16777216
 generalize s % 16777216 = r at *
 generalize s / 16777216 = q at *
 subst this
 grind
theorem tdiv_eq {s : Int} (h : 0 ≤ s) : Int.tdiv s 16777216 = s / 16777216 := Int.tdiv_eq_ediv_of_nonneg h
theorem mod_bd {s : Int} (h : 0 ≤ s) : 0 ≤ Int.tmod s 16777216 ∧ Int.tmod s 16777216 < 16777216 := by rw [(tdivmod h).1]; omega
theorem at_or {l : List Int} (h : Dg l) (k : Nat) : vd (l.drop k) = (if k < l.length then l.getD k 0 else 0) + 16777216 * vd (l.drop (k + 1)) ∧ 0 ≤ (if k < l.length then l.getD k 0 else 0) ∧ (if k < l.length then l.getD k 0 else 0) < 16777216 := by
 by_cases hk : k < l.length
 ·rw [if_pos hk]; exact ⟨drop_at hk, (h.at hk).1, (h.at hk).2⟩
 ·rw [if_neg hk, drop_end (by omega), drop_end (by omega)]; exact ⟨by omega, by omega, by omega⟩
theorem mul_bd {a x d c : Int} (ha : 0 ≤ a ∧ a < 16777216) (hd : 0 ≤ d ∧ d < 16777216) (hx : 0 ≤ x ∧ x < 16777216) (hc : 0 ≤ c ∧ c < 16777216) : 0 ≤ x * d ∧ x * d ≤ 281474943156225 ∧ 0 ≤ a + x * d + c ∧ Int.tdiv (a + x * d + c) 16777216 < 16777216 ∧ 0 ≤ Int.tdiv (a + x * d + c) 16777216 := by
 have h1 : 0 ≤ x * d := Int.mul_nonneg hx.1 hd.1
 have h2 : x * d ≤ 16777215 * 16777215 := Int.mul_le_mul (by omega) (by omega) hd.1 (by decide)
 have h3 : (16777215 * 16777215 : Int) = 281474943156225 := by decide
 rw [h3] at h2
 refine ⟨h1, h2, by omega, ?_, ?_⟩ <;> rw [Int.tdiv_eq_ediv_of_nonneg (by omega)] <;> omega
theorem minus_end {acc : List Int} {k : Nat} {V b : Int} {x y : Nat} (ha : acc.length = k) (hD : Dg acc) (hV : 0 ≤ V) (hb : 0 ≤ b) (h : y ≤ x) (hI : vd acc + 16777216 ^ k * (0 - V - b) = (x : Int) - y) : vd acc = ((x - y : Nat) : Int) := by
 have h1 := vd_lt hD
 rw [ha] at h1
 by_cases hz : V + b = 0
 ·rw [show 0 - V - b = 0 by omega, Int.mul_zero] at hI; omega
 ·exfalso
  have h2 : 16777216 ^ k * (0 - V - b) ≤ 16777216 ^ k * (-1) := Int.mul_le_mul_of_nonneg_left (by omega) (Int.le_of_lt (powB_pos k))
  omega
theorem minus_step {acc : List Int} {k : Nat} {e b b' U U' V V' u v T : Int} (ha : acc.length = k) (hU : U = u + 16777216 * U') (hV : V = v + 16777216 * V') (he : e = u - b - v + 16777216 * b') (hI : vd acc + 16777216 ^ k * (U - V - b) = T) : vd (acc ++ [e]) + 16777216 ^ (k + 1) * (U' - V' - b') = T := by
 rw [vd_snoc, ha, Int.pow_succ, ← hI, hU, hV, he]
 grind
theorem take_vd {l : List Int} {k : Nat} (h : k < l.length) : vd (l.take (k + 1)) = vd (l.take k) + 16777216 ^ k * l.getD k 0 := by
 have e : l.take (k + 1) = l.take k ++ [l.getD k 0] := by
  rw [List.take_add_one, List.getD_eq_getElem?_getD, List.getElem?_eq_getElem h]; rfl
 rw [e, vd_snoc, List.length_take, Nat.min_eq_left (by omega)]
theorem ints_set (l : List Int) (k : Nat) (x : Int) : (intsD l).set k [D.i x] = intsD (l.set k x) := by
 simp [intsD, intD, List.map_set]
theorem rep_ints (n : Nat) : List.replicate n [D.i 0] = intsD (List.replicate n 0) := by simp [intsD, intD]
theorem getD_set {l : List Int} {k p : Nat} {x : Int} : (l.set k x).getD p 0 = if k = p ∧ k < l.length then x else l.getD p 0 := by
 simp only [List.getD_eq_getElem?_getD, List.getElem?_set]
 by_cases h : k = p
 ·subst h
  by_cases hk : k < l.length
  ·simp [hk]
  ·simp [hk]
 ·simp [h]
theorem mul_step {acc : List Int} {i j : Nat} {c s ui vj X Y : Int} (hl : i + j < acc.length) (hs : s = acc.getD (i + j) 0 + ui * vj + c) (h0 : 0 ≤ s) (hI : vd acc + 16777216 ^ (i + j) * c = X + ui * 16777216 ^ i * Y) : vd (acc.set (i + j) (Int.tmod s 16777216)) + 16777216 ^ (i + (j + 1)) * Int.tdiv s 16777216 = X + ui * 16777216 ^ i * (Y + 16777216 ^ j * vj) := by
 obtain ⟨e1, e2⟩ := tdivmod h0
 rw [vd_set_at hl, e1, e2, show i + (j + 1) = (i + j) + 1 by omega, Int.pow_succ]
 have := Int.emod_add_mul_ediv s 16777216
 have hp : (16777216 : Int) ^ (i + j) = 16777216 ^ i * 16777216 ^ j := Int.pow_add _ _ _
 generalize s % 16777216 = r at *
 generalize s / 16777216 = q at *
 generalize acc.getD (i + j) 0 = z at *
 generalize vd acc = A at *
 generalize (16777216 : Int) ^ i = P at *
 generalize (16777216 : Int) ^ j = Q at *
 rw [hp] at hI ⊢
 grind
theorem number_dg (r : Nat) (hl : (dg r).length ≤ 400000) : SpG g 146 [.c (.d (.sl 1 (intsD (dg r))))] [] (.c (.d (.s (S (nb r))))) [] := by
 have h := number_ok (g := g) (dg r) (vd_dg r).2 hl
 rw [(vd_dg r).1, Int.toNat_natCast] at h; exact h
theorem dg_mono {a b : Nat} (h : a ≤ b) : (dg a).length ≤ (dg b).length := by
 rcases Nat.lt_or_ge (dg b).length (dg a).length with h1 | h1
 ·have := dg_len_lt h1; omega
 ·exact h1
def zq23 := And.intro @S_size (And.intro @decide_eq_false_iff_not (And.intro @decide_eq_true_eq (And.intro @inR.eq_1 (@maxLen.eq_1))))
def zq24 := And.intro @S_size (And.intro @blS (And.intro @byteAt_S (@ints_len)))
theorem int_ok (n : Nat) (hl : (nb n).length ≤ 1000000) :
  SpG g 147 [.c (.d (.s (S (nb n))))] [] (.tup [(false, [.d (.i (intV n))]), (false, [.d (.b (intK n))])]) [] := by
 refine enterB 35 Tryz.func147 (by kernel_rfl) fun fr hG => ?_
 refine zC hG [(1, 1, .call (.c (.d (.s (S (nb n))))) [] [])] [1, 0, 1, 1] ((decide ((((S (nb n)).size : Int) : Int) > 8)) || ((decide ((((S (nb n)).size : Int) : Int) = 8)) && (decide ((byteAt (S (nb n)) 0 : Int) > 127)))) (⟨[(0, [], .c (.d (.s (S (nb n))))), (2, [], .c (.d (.i 0))), (3, [], .c (.d (.b false)))], []⟩) (by kernel_rfl) (conjC ((canonNb_ok n (by first | omega | (simp only [maxLen]; omega)) : SpG g _ _ _ _ _)) (conj1 (show (decide ((((S (nb n)).size : Int) : Int) = 8)) = true → (decide ((((S (nb n)).size : Int) : Int) > 8)) = false → (0 : Int) ≤ 0 ∧ 0 < ((S (nb n)).size : Int) from (by intros; first | (rw [hw, (hst (by omega)).1]; exact (hst (by omega)).2.2) | ((try simp only [zq23] at *); omega))))) (fun hc1 => ?_) (fun hc1 => ?_)
 ·(try simp only [zq24] at hc1)
  have hbd : ¬ n < 2 ^ 63 := int_big (by rw [show Int.toNat 0 = 0 from rfl] at hc1; omega)
  refine zR hG [] [] (.tup [(false, [.d (.i 0)]), (false, [.d (.b false)])]) [] (by kernel_rfl) conj0 ?_ ?_
  ·rw [intV, intK, if_neg hbd]; (try simp [hbd])
  ·rfl
 ·(try simp only [zq24] at hc1)
  have hbd : n < 2 ^ 63 := int_fits (by have := hc1.1; omega) (by intro h8; have h2 := hc1.2; rw [show Int.toNat 0 = 0 from rfl] at h2; omega)
  refine zL hG [] [0, 1, 0, 1, 1, 1, 1] (fun (zz : Nat × Int) => match zz with | (k, v) => ((nb n).length - k, ⟨[(0, [], .c (.d (.s (S (nb n))))), (2, [], .c (.d (.i 0))), (3, [], .c (.d (.b false))), (4, [], .c (.d (.i v))), (5, [], .c (.d (.i (k : Int))))], []⟩, k ≤ (nb n).length ∧ v = (valB ((nb n).take k) : Int))) (0, 0) (by kernel_rfl) conj0 (by kernel_rfl) ?_ ?_
  ·exact ⟨Nat.zero_le _, rfl⟩
  rintro ⟨k, v⟩ ⟨hk, hv⟩
  have hw := byte_wrap (nb n) (k : Int)
  have hx := byte_lt (nb n) (k : Int)
  have hst : k < (nb n).length → IntKind.wrap .i64 (v * 2 ^ 8) = v * 256 ∧ (valB ((nb n).take (k + 1)) : Int) = v * 256 + ((nb n).getD k 0).toNat ∧ inR (v * 256 + byteAt (S (nb n)) (k : Int)) := by
   intro hk2
   have h1 := valB_take_succ hk2
   have h3 := valB_take_le (nb n) (k + 1)
   rw [valB_nb] at h3
   have h4 := byteAt_S (nb n) (k : Int)
   rw [Int.toNat_natCast] at h4
   refine ⟨?_, by omega, by rw [h4]; unfold inR; omega⟩
   rw [wrap64]
   ·rfl
   ·unfold inR; omega
  refine zc hG [] [1, 0] (decide (((k : Int) : Int) < ((S (nb n)).size : Int))) (by kernel_rfl) conj0 (fun hc3 => ?_) (fun hc3 => ?_)
  ·(try simp only [zq24] at hc3)
   refine zD hG [] (k + 1, IntKind.wrap .i64 (v * 2 ^ 8) + IntKind.wrap .i64 (byteAt (S (nb n)) (k : Int))) (by kernel_rfl) (conjC (show (0 : Int) ≤ (k : Int) ∧ (k : Int) < ((S (nb n)).size : Int) from (by intros; first | (rw [hw, (hst (by omega)).1]; exact (hst (by omega)).2.2) | ((try simp only [zq23] at *); omega))) (conjC (show inR ((IntKind.wrap .i64 (v * 2 ^ 8)) + (IntKind.wrap .i64 (byteAt (S (nb n)) (k : Int)))) from (by intros; first | (rw [hw, (hst (by omega)).1]; exact (hst (by omega)).2.2) | ((try simp only [zq23] at *); omega))) (conj1 (show inR ((k : Int) + 1) from (by intros; first | (rw [hw, (hst (by omega)).1]; exact (hst (by omega)).2.2) | ((try simp only [zq23] at *); omega)))))) ?_ ?_
   ·(try dsimp only); omega
   ·have h2 := hst (by omega)
    refine ⟨by omega, ?_⟩
    rw [hw, h2.1, h2.2.1, byteAt_S, Int.toNat_natCast]
  ·(try simp only [zq24] at hc3)
   refine zE hG [] (.exit 0) (⟨[(2, [], .c (.d (.i 0))), (3, [], .c (.d (.b false))), (4, [], .c (.d (.i v)))], []⟩) (by kernel_rfl) conj0 rfl ?_
   refine zR hG [] [] (.tup [(false, [.d (.i v)]), (false, [.d (.b true)])]) [] (by kernel_rfl) conj0 ?_ ?_
   ·rw [intV, intK, if_pos hbd, hv, show k = (nb n).length by omega, List.take_length, valB_nb]; (try simp [hbd])
   ·rfl
theorem small_ok (n k : Nat) (hk : k ≤ 7) (hl : (nb n).length ≤ 1000000) :
  SpG g 139 [.c (.d (.s (S (nb n)))), .c (.d (.i (k : Int)))] [] (.tup [(false, [.d (.i (smV n k))]), (false, [.d (.b (smK n k))])]) [] := by
 refine enterB 15 Tryz.func139 (by kernel_rfl) fun fr hG => ?_
 refine zC hG [(1, 1, .call (.c (.d (.s (S (nb n))))) [] [])] [1, 0, 1] (decide ((((S (nb n)).size : Int) : Int) > (k : Int))) (⟨[(0, [], .c (.d (.s (S (nb n))))), (4, [], .c (.d (.i 0))), (5, [], .c (.d (.b false)))], []⟩) (by kernel_rfl) (conj1 ((canonNb_ok n (by first | omega | (simp only [maxLen]; omega)) : SpG g _ _ _ _ _))) (fun hc1 => ?_) (fun hc1 => ?_)
 ·(try simp only [zq24] at hc1)
  refine zR hG [] [] (.tup [(false, [.d (.i 0)]), (false, [.d (.b false)])]) [] (by kernel_rfl) conj0 ?_ ?_
  ·have h1 : ¬ n < 256 ^ k := by have := nb_ge (n := n) (k := k); have h2 := this.1 (by omega); omega
   rw [smV, smK, if_neg h1]; simp [h1]
  ·rfl
 ·(try simp only [zq24] at hc1)
  refine zR hG [(3, 1, .call (.tup [(false, [.d (.i (intV n))]), (false, [.d (.b (intK n))])]) [] [])] [] (.tup [(false, [.d (.i (intV n))]), (false, [.d (.b (intK n))])]) [] (by kernel_rfl) (conj1 ((int_ok n (by first | omega | (simp only [maxLen]; omega)) : SpG g _ _ _ _ _))) ?_ ?_
  ·have h1 : n < 256 ^ k := by
    rcases Nat.lt_or_ge n (256 ^ k) with h | h
    ·exact h
    ·have := (nb_ge (n := n) (k := k)).2 h; omega
   rw [(sm_int hk h1).1, (sm_int hk h1).2]
  ·rfl
def zq25 := And.intro @List.length_append.{0} (And.intro @List.length_cons.{0} (And.intro @List.length_nil.{0} (And.intro @decide_eq_true_eq (And.intro @inR.eq_1 (@ints_len)))))
theorem minus_ok (x y : Nat) (h : y ≤ x) (hl : (dg x).length ≤ 400000) (hl2 : (dg y).length ≤ 400000) :
  SpG g 144 [.c (.d (.sl 1 (intsD (dg x)))), .c (.d (.sl 1 (intsD (dg y))))] [] (.c (.d (.sl 1 (intsD (dg (x - y)))))) [] := by
 refine enterB 41 Tryz.func144 (by kernel_rfl) fun fr hG => ?_
 refine stepLen 0 rfl fun hl0 => ?_
 refine stepLen 1 rfl fun hl1 => ?_
 refine zA hG [] [0, 1, 0, 1, 1, 1] (⟨[(0, [], .c (.d (.sl 1 (intsD (dg x))))), (1, [], .c (.d (.sl 1 (intsD (dg y))))), (4, [], .c (.d (.nil))), (5, [], .c (.d (.nil))), (6, [], .c (.d (.i 0))), (7, [], .c (.d (.i 0)))], []⟩) [(5, 9001, 3, 1)] [] (fun (zz : Nat × Int × List (List D) × List Int) => match zz with | (k, b, es, acc) => ((dg x).length - k, ⟨[(0, [], .c (.d (.sl 1 (intsD (dg x))))), (1, [], .c (.d (.sl 1 (intsD (dg y))))), (4, [], .c (.d (.nil))), (5, [], .c (.ar 9001 0)), (6, [], .c (.d (.i b))), (7, [], .c (.d (.i (k : Int))))], [(9001, .arr 0 3 1 (es))]⟩, k ≤ (dg x).length ∧ acc.length = k ∧ es = intsD acc ∧ Dg acc ∧ (0 ≤ b ∧ b ≤ 1) ∧ vd acc + 16777216 ^ k * (vd ((dg x).drop k) - vd ((dg y).drop k) - b) = (x : Int) - y)) (0, 0, [], []) (by kernel_rfl) conj0 (by kernel_rfl) (by kernel_rfl) ?_ ?_
 ·refine ⟨Nat.zero_le _, rfl, rfl, Dg.nil, by omega, ?_⟩
  rw [List.drop_zero, List.drop_zero, (vd_dg y).1, (vd_dg x).1, vd]; simp
 rintro ⟨k, b, es, acc⟩ ⟨hk, ha, hes, hD, hb, hI⟩
 have hlen : es.length = k := by rw [hes, ints_len, ha]
 obtain ⟨hu1, hu2, hu3⟩ := at_or (vd_dg x).2 k
 obtain ⟨hv1, hv2, hv3⟩ := at_or (vd_dg y).2 k
 have hxk : k < (dg x).length → 0 ≤ (dg x).getD k 0 ∧ (dg x).getD k 0 < 16777216 := fun h => (vd_dg x).2.at h
 have hyk : k < (dg y).length → 0 ≤ (dg y).getD k 0 ∧ (dg y).getD k 0 < 16777216 := fun h => (vd_dg y).2.at h
 refine zc hG [] [1, 0] (decide (((k : Int) : Int) < ((intsD (dg x)).length : Int))) (by kernel_rfl) conj0 (fun hc2 => ?_) (fun hc2 => ?_)
 ·(try simp only [zq24] at hc2)
  refine zC hG [(6, 2, .elem (intD ((dg x).getD k 0)))] [1, 0, 1, 0, 0, 1] (decide (((k : Int) : Int) < ((intsD (dg y)).length : Int))) (⟨[(0, [], .c (.d (.sl 1 (intsD (dg x))))), (1, [], .c (.d (.sl 1 (intsD (dg y))))), (4, [], .c (.d (.nil))), (5, [], .c (.ar 9001 0)), (6, [], .c (.d (.i b))), (7, [], .c (.d (.i (k : Int)))), (8, [], .c (.d (.i (((dg x).getD k 0) - b))))], [(9001, .arr 0 3 1 (es))]⟩) (by kernel_rfl) (conjC (show (0 : Int) ≤ (k : Int) ∧ (intsD (dg x))[k]? = some (intD ((dg x).getD k 0)) from (by intros; exact map_at _ (by omega) (by (try simp only [zq10] at *); omega))) (conj1 (show inR (((dg x).getD k 0) - b) from (by intros; (try have hx9 := hxk (by omega)); (try have hy9 := hyk (by omega)); (try simp only [zq25] at *); omega)))) (fun hc3 => ?_) (fun hc3 => ?_)
  ·(try simp only [zq24] at hc3)
   refine zC hG [(8, 3, .elem (intD ((dg y).getD k 0)))] [1, 0, 1, 1, 1, 0, 0, 1] (decide (((((dg x).getD k 0) - b) - ((dg y).getD k 0) : Int) < 0)) (⟨[(0, [], .c (.d (.sl 1 (intsD (dg x))))), (1, [], .c (.d (.sl 1 (intsD (dg y))))), (4, [], .c (.d (.nil))), (5, [], .c (.ar 9001 0)), (6, [], .c (.d (.i 0))), (7, [], .c (.d (.i (k : Int)))), (8, [], .c (.d (.i ((((dg x).getD k 0) - b) - ((dg y).getD k 0)))))], [(9001, .arr 0 3 1 (es))]⟩) (by kernel_rfl) (conjC (show (0 : Int) ≤ (k : Int) ∧ (intsD (dg y))[k]? = some (intD ((dg y).getD k 0)) from (by intros; exact map_at _ (by omega) (by (try simp only [zq10] at *); omega))) (conj1 (show inR ((((dg x).getD k 0) - b) - ((dg y).getD k 0)) from (by intros; (try have hx9 := hxk (by omega)); (try have hy9 := hyk (by omega)); (try simp only [zq25] at *); omega)))) (fun hc4 => ?_) (fun hc4 => ?_)
   ·(try simp only [zq24] at hc4)
    refine zD hG [] (k + 1, 1, es ++ [[D.i ((((dg x).getD k 0 - b) - (dg y).getD k 0) + 16777216)]], acc ++ [(((dg x).getD k 0 - b) - (dg y).getD k 0) + 16777216]) (by kernel_rfl) (conjC (show inR (((((dg x).getD k 0) - b) - ((dg y).getD k 0)) + 16777216) from (by intros; (try have hx9 := hxk (by omega)); (try have hy9 := hyk (by omega)); (try simp only [zq25] at *); omega)) (conjC (show ((es).length + (([[.i (((((dg x).getD k 0) - b) - ((dg y).getD k 0)) + 16777216)]] : List (List D))).length) * (8 + 1) ≤ 140737488355328 from (by intros; (try have hx9 := hxk (by omega)); (try have hy9 := hyk (by omega)); (try simp only [zq25] at *); omega)) (conj1 (show inR ((k : Int) + 1) from (by intros; (try have hx9 := hxk (by omega)); (try have hy9 := hyk (by omega)); (try simp only [zq25] at *); omega))))) ?_ ?_
    ·(try dsimp only); omega
    ·rw [if_pos (by omega)] at hu1 hu2 hu3
     rw [if_pos (by omega)] at hv1 hv2 hv3
     refine ⟨by omega, by simp [ha], by rw [hes, ints_snoc], hD.snoc (by omega) (by omega), by omega, ?_⟩
     exact minus_step (e := (((dg x).getD k 0 - b) - (dg y).getD k 0) + 16777216) (b' := 1) ha hu1 hv1 (by omega) hI
   ·(try simp only [zq24] at hc4)
    refine zD hG [] (k + 1, 0, es ++ [[D.i (((dg x).getD k 0 - b) - (dg y).getD k 0)]], acc ++ [((dg x).getD k 0 - b) - (dg y).getD k 0]) (by kernel_rfl) (conjC (show ((es).length + (([[.i ((((dg x).getD k 0) - b) - ((dg y).getD k 0))]] : List (List D))).length) * (8 + 1) ≤ 140737488355328 from (by intros; (try have hx9 := hxk (by omega)); (try have hy9 := hyk (by omega)); (try simp only [zq25] at *); omega)) (conj1 (show inR ((k : Int) + 1) from (by intros; (try have hx9 := hxk (by omega)); (try have hy9 := hyk (by omega)); (try simp only [zq25] at *); omega)))) ?_ ?_
    ·(try dsimp only); omega
    ·rw [if_pos (by omega)] at hu1 hu2 hu3
     rw [if_pos (by omega)] at hv1 hv2 hv3
     refine ⟨by omega, by simp [ha], by rw [hes, ints_snoc], hD.snoc (by omega) (by omega), by omega, ?_⟩
     exact minus_step (e := ((dg x).getD k 0 - b) - (dg y).getD k 0) (b' := 0) ha hu1 hv1 (by omega) hI
  ·(try simp only [zq24] at hc3)
   refine zC hG [] [1, 0, 1, 1, 1, 0, 0, 1] (decide ((((dg x).getD k 0) - b : Int) < 0)) (⟨[(0, [], .c (.d (.sl 1 (intsD (dg x))))), (1, [], .c (.d (.sl 1 (intsD (dg y))))), (4, [], .c (.d (.nil))), (5, [], .c (.ar 9001 0)), (6, [], .c (.d (.i 0))), (7, [], .c (.d (.i (k : Int)))), (8, [], .c (.d (.i (((dg x).getD k 0) - b))))], [(9001, .arr 0 3 1 (es))]⟩) (by kernel_rfl) conj0 (fun hc5 => ?_) (fun hc5 => ?_)
   ·(try simp only [zq24] at hc5)
    refine zD hG [] (k + 1, 1, es ++ [[D.i (((dg x).getD k 0 - b) + 16777216)]], acc ++ [((dg x).getD k 0 - b) + 16777216]) (by kernel_rfl) (conjC (show inR ((((dg x).getD k 0) - b) + 16777216) from (by intros; (try have hx9 := hxk (by omega)); (try have hy9 := hyk (by omega)); (try simp only [zq25] at *); omega)) (conjC (show ((es).length + (([[.i ((((dg x).getD k 0) - b) + 16777216)]] : List (List D))).length) * (8 + 1) ≤ 140737488355328 from (by intros; (try have hx9 := hxk (by omega)); (try have hy9 := hyk (by omega)); (try simp only [zq25] at *); omega)) (conj1 (show inR ((k : Int) + 1) from (by intros; (try have hx9 := hxk (by omega)); (try have hy9 := hyk (by omega)); (try simp only [zq25] at *); omega))))) ?_ ?_
    ·(try dsimp only); omega
    ·rw [if_pos (by omega)] at hu1 hu2 hu3
     rw [if_neg (by omega)] at hv1 hv2 hv3
     refine ⟨by omega, by simp [ha], by rw [hes, ints_snoc], hD.snoc (by omega) (by omega), by omega, ?_⟩
     exact minus_step (e := ((dg x).getD k 0 - b) + 16777216) (b' := 1) ha hu1 hv1 (by omega) hI
   ·(try simp only [zq24] at hc5)
    refine zD hG [] (k + 1, 0, es ++ [[D.i ((dg x).getD k 0 - b)]], acc ++ [(dg x).getD k 0 - b]) (by kernel_rfl) (conjC (show ((es).length + (([[.i (((dg x).getD k 0) - b)]] : List (List D))).length) * (8 + 1) ≤ 140737488355328 from (by intros; (try have hx9 := hxk (by omega)); (try have hy9 := hyk (by omega)); (try simp only [zq25] at *); omega)) (conj1 (show inR ((k : Int) + 1) from (by intros; (try have hx9 := hxk (by omega)); (try have hy9 := hyk (by omega)); (try simp only [zq25] at *); omega)))) ?_ ?_
    ·(try dsimp only); omega
    ·rw [if_pos (by omega)] at hu1 hu2 hu3
     rw [if_neg (by omega)] at hv1 hv2 hv3
     refine ⟨by omega, by simp [ha], by rw [hes, ints_snoc], hD.snoc (by omega) (by omega), by omega, ?_⟩
     exact minus_step (e := (dg x).getD k 0 - b) (b' := 0) ha hu1 hv1 (by omega) hI
 ·(try simp only [zq24] at hc2)
  refine zE hG [] (.exit 0) (⟨[(4, [], .c (.d (.nil))), (5, [], .c (.ar 9001 0))], [(9001, .arr 0 3 1 (es))]⟩) (by kernel_rfl) conj0 rfl ?_
  refine stepK hG (⟨[(4, [], .c (.d (.nil))), (5, [], .c (.d (.sl 1 (es))))], []⟩) (by kernel_rfl) ?_
  exact zr hG [(14, 1, .call (.c (.d (.sl 1 (intsD (dg (x - y)))))) [] [])] [] (by kernel_rfl) (conj1 ((trim_at (es := es) (l := acc) (n := x - y) hes hD (by
  have hk9 : k = (dg x).length := by omega
  have hz : vd ((dg x).drop k) = 0 := drop_end (by omega)
  rw [hz] at hI
  exact minus_end ha hD (vd_nonneg ((vd_dg y).2.drop k)) hb.1 h hI) : SpG g _ _ _ _ _)))
theorem add_ok (x y : Nat) (hx : (nb x).length ≤ 900000) (hy : (nb y).length ≤ 900000) :
  SpG g 91 [.c (.d (.s (S (nb x)))), .c (.d (.s (S (nb y))))] [] (.c (.d (.s (S (nb (x + y)))))) [] := by
 have lx := dg_len (n := x) (k := 300000) (by omega)
 have ly := dg_len (n := y) (k := 300000) (by omega)
 have hsx : 0 ≤ smV x 7 ∧ smV x 7 < 72057594037927936 := by unfold smV; split <;> omega
 have hsy : 0 ≤ smV y 7 ∧ smV y 7 < 72057594037927936 := by unfold smV; split <;> omega
 refine enterB 83 Tryz.func91 (by kernel_rfl) fun fr hG => ?_
 refine zC hG [(1, 1, .call (.tup [(false, [.d (.i (smV x 7))]), (false, [.d (.b (smK x 7))])]) [] []), (2, 1, .call (.tup [(false, [.d (.i (smV y 7))]), (false, [.d (.b (smK y 7))])]) [] [])] [1, 0, 1, 1, 1] ((smK x 7) && (smK y 7)) (⟨[(0, [], .c (.d (.s (S (nb x))))), (1, [], .c (.d (.s (S (nb y))))), (4, [], .c (.d (.s (S [])))), (5, [], .c (.d (.i (smV x 7)))), (7, [], .c (.d (.i (smV y 7))))], []⟩) (by kernel_rfl) (conjC ((small_ok x 7 (by decide) (by omega) : SpG g _ _ _ _ _)) (conj1 ((small_ok y 7 (by decide) (by omega) : SpG g _ _ _ _ _)))) (fun hc1 => ?_) (fun hc1 => ?_)
 ·(try simp only [zq24] at hc1)
  refine zR hG [(4, 3, .call (.c (.d (.s (S (nb ((smV x 7) + (smV y 7)).toNat))))) [] [])] [] (.c (.d (.s (S (nb ((smV x 7) + (smV y 7)).toNat))))) [] (by kernel_rfl) (conjC (show inR ((smV x 7) + (smV y 7)) from (by intros; (try have hx9 := hxk (by omega)); (try have hy9 := hyk (by omega)); (try simp only [zq25] at *); first | omega | (rw [tdiv_eq] <;> omega))) (conj1 ((of_ok ((smV x 7) + (smV y 7)) (by omega) : SpG g _ _ _ _ _)))) ?_ ?_
  ·have h1 : x < 256 ^ 7 ∧ y < 256 ^ 7 := by simpa [smK] using hc1
   have e1 : smV x 7 = x := if_pos h1.1
   have e2 : smV y 7 = y := if_pos h1.2
   rw [e1, e2, show ((x : Int) + y).toNat = x + y by omega]
  ·rfl
 ·(try simp only [zq24] at hc1)
  refine zA hG [(5, 1, .call (.c (.d (.sl 1 (intsD (dg x))))) [] []), (6, 1, .call (.c (.d (.sl 1 (intsD (dg y))))) [] [])] [0, 1, 0, 1, 1, 1, 1, 1, 1, 1, 1] (⟨[(4, [], .c (.d (.s (S [])))), (9, [], .c (.d (.sl 1 (intsD (dg x))))), (10, [], .c (.d (.sl 1 (intsD (dg y))))), (11, [], .c (.d (.nil))), (12, [], .c (.d (.i 0))), (13, [], .c (.d (.i 0)))], []⟩) [(11, 9001, 3, 1)] [] (fun (zz : Nat × Int × List (List D) × List Int) => match zz with | (k, c, es, acc) => ((max (dg x).length (dg y).length) + 1 - k, ⟨[(4, [], .c (.d (.s (S [])))), (9, [], .c (.d (.sl 1 (intsD (dg x))))), (10, [], .c (.d (.sl 1 (intsD (dg y))))), (11, [], .c (.ar 9001 0)), (12, [], .c (.d (.i c))), (13, [], .c (.d (.i (k : Int))))], [(9001, .arr 0 3 1 (es))]⟩, k ≤ (max (dg x).length (dg y).length) + 1 ∧ (k = (max (dg x).length (dg y).length) + 1 → c = 0) ∧ acc.length = k ∧ es = intsD acc ∧ Dg acc ∧ (0 ≤ c ∧ c ≤ 1) ∧ vd acc + 16777216 ^ k * (c + vd ((dg x).drop k) + vd ((dg y).drop k)) = (x : Int) + y)) (0, 0, [], []) (by kernel_rfl) (conjC ((ofD_ok x (by omega) : SpG g _ _ _ _ _)) (conj1 ((ofD_ok y (by omega) : SpG g _ _ _ _ _)))) (by kernel_rfl) (by kernel_rfl) ?_ ?_
  ·refine ⟨Nat.zero_le _, by omega, rfl, rfl, Dg.nil, by omega, ?_⟩
   rw [List.drop_zero, List.drop_zero, (vd_dg y).1, (vd_dg x).1, vd]; simp
  rintro ⟨k, c, es, acc⟩ ⟨hk, hkc, ha, hes, hD, hc, hI⟩
  have hlen : es.length = k := by rw [hes, ints_len, ha]
  obtain ⟨hu1, hu2, hu3⟩ := at_or (vd_dg x).2 k
  obtain ⟨hv1, hv2, hv3⟩ := at_or (vd_dg y).2 k
  have hxk : k < (dg x).length → 0 ≤ (dg x).getD k 0 ∧ (dg x).getD k 0 < 16777216 := fun h => (vd_dg x).2.at h
  have hyk : k < (dg y).length → 0 ≤ (dg y).getD k 0 ∧ (dg y).getD k 0 < 16777216 := fun h => (vd_dg y).2.at h
  refine zc hG [] [1, 0] (((decide (((k : Int) : Int) < ((intsD (dg x)).length : Int))) || (decide (((k : Int) : Int) < ((intsD (dg y)).length : Int)))) || (decide ((c : Int) > 0))) (by kernel_rfl) conj0 (fun hc3 => ?_) (fun hc3 => ?_)
  ·(try simp only [zq24] at hc3)
   refine zC hG [] [1, 0, 1, 0, 0, 1] (decide (((k : Int) : Int) < ((intsD (dg x)).length : Int))) (⟨[(4, [], .c (.d (.s (S [])))), (9, [], .c (.d (.sl 1 (intsD (dg x))))), (10, [], .c (.d (.sl 1 (intsD (dg y))))), (11, [], .c (.ar 9001 0)), (12, [], .c (.d (.i c))), (13, [], .c (.d (.i (k : Int)))), (14, [], .c (.d (.i c)))], [(9001, .arr 0 3 1 (es))]⟩) (by kernel_rfl) conj0 (fun hc4 => ?_) (fun hc4 => ?_)
   ·(try simp only [zq24] at hc4)
    refine zC hG [(14, 3, .elem (intD ((dg x).getD k 0)))] [1, 0, 1, 1, 0, 0, 1] (decide (((k : Int) : Int) < ((intsD (dg y)).length : Int))) (⟨[(4, [], .c (.d (.s (S [])))), (9, [], .c (.d (.sl 1 (intsD (dg x))))), (10, [], .c (.d (.sl 1 (intsD (dg y))))), (11, [], .c (.ar 9001 0)), (12, [], .c (.d (.i c))), (13, [], .c (.d (.i (k : Int)))), (14, [], .c (.d (.i (c + ((dg x).getD k 0)))))], [(9001, .arr 0 3 1 (es))]⟩) (by kernel_rfl) (conjC (show (0 : Int) ≤ (k : Int) ∧ (intsD (dg x))[k]? = some (intD ((dg x).getD k 0)) from (by intros; exact map_at _ (by omega) (by (try simp only [zq10] at *); omega))) (conj1 (show inR (c + ((dg x).getD k 0)) from (by intros; (try have hx9 := hxk (by omega)); (try have hy9 := hyk (by omega)); (try simp only [zq25] at *); first | omega | (rw [tdiv_eq] <;> omega))))) (fun hc5 => ?_) (fun hc5 => ?_)
    ·(try simp only [zq24] at hc5)
     refine zD hG [(16, 3, .elem (intD ((dg y).getD k 0)))] (k + 1, Int.tdiv ((c + (dg x).getD k 0) + (dg y).getD k 0) 16777216, es ++ [[D.i (Int.tmod ((c + (dg x).getD k 0) + (dg y).getD k 0) 16777216)]], acc ++ [Int.tmod ((c + (dg x).getD k 0) + (dg y).getD k 0) 16777216]) (by kernel_rfl) (conjC (show (0 : Int) ≤ (k : Int) ∧ (intsD (dg y))[k]? = some (intD ((dg y).getD k 0)) from (by intros; exact map_at _ (by omega) (by (try simp only [zq10] at *); omega))) (conjC (show inR ((c + ((dg x).getD k 0)) + ((dg y).getD k 0)) from (by intros; (try have hx9 := hxk (by omega)); (try have hy9 := hyk (by omega)); (try simp only [zq25] at *); first | omega | (rw [tdiv_eq] <;> omega))) (conjC (show 16777216 ≠ (0 : Int) from (by intros; (try have hx9 := hxk (by omega)); (try have hy9 := hyk (by omega)); (try simp only [zq25] at *); first | omega | (rw [tdiv_eq] <;> omega))) (conjC (show ((es).length + (([[.i (Int.tmod ((c + ((dg x).getD k 0)) + ((dg y).getD k 0)) 16777216)]] : List (List D))).length) * (8 + 1) ≤ 140737488355328 from (by intros; (try have hx9 := hxk (by omega)); (try have hy9 := hyk (by omega)); (try simp only [zq25] at *); first | omega | (rw [tdiv_eq] <;> omega))) (conjC (show 16777216 ≠ (0 : Int) ∧ inR (Int.tdiv ((c + ((dg x).getD k 0)) + ((dg y).getD k 0)) 16777216) from (by intros; (try have hx9 := hxk (by omega)); (try have hy9 := hyk (by omega)); (try simp only [zq25] at *); first | omega | (rw [tdiv_eq] <;> omega))) (conj1 (show inR ((k : Int) + 1) from (by intros; (try have hx9 := hxk (by omega)); (try have hy9 := hyk (by omega)); (try simp only [zq25] at *); first | omega | (rw [tdiv_eq] <;> omega))))))))) ?_ ?_
     ·(try dsimp only); omega
     ·rw [if_pos (by omega)] at hu1 hu2 hu3
      rw [if_pos (by omega)] at hv1 hv2 hv3
      have hm := mod_bd (s := (c + (dg x).getD k 0) + (dg y).getD k 0) (by omega)
      have hq := (tdivmod (s := (c + (dg x).getD k 0) + (dg y).getD k 0) (by omega)).2
      refine ⟨by omega, by omega, by simp [ha], by rw [hes, ints_snoc], hD.snoc hm.1 hm.2, by omega, ?_⟩
      have hst := carry_step (s := (c + (dg x).getD k 0) + (dg y).getD k 0) (X' := vd ((dg x).drop (k + 1)) + vd ((dg y).drop (k + 1))) ha (by omega) (by rw [hu1, hv1]; omega) hI
      rw [← Int.add_assoc] at hst; exact hst
    ·(try simp only [zq24] at hc5)
     refine zD hG [] (k + 1, Int.tdiv (c + (dg x).getD k 0) 16777216, es ++ [[D.i (Int.tmod (c + (dg x).getD k 0) 16777216)]], acc ++ [Int.tmod (c + (dg x).getD k 0) 16777216]) (by kernel_rfl) (conjC (show 16777216 ≠ (0 : Int) from (by intros; (try have hx9 := hxk (by omega)); (try have hy9 := hyk (by omega)); (try simp only [zq25] at *); first | omega | (rw [tdiv_eq] <;> omega))) (conjC (show ((es).length + (([[.i (Int.tmod (c + ((dg x).getD k 0)) 16777216)]] : List (List D))).length) * (8 + 1) ≤ 140737488355328 from (by intros; (try have hx9 := hxk (by omega)); (try have hy9 := hyk (by omega)); (try simp only [zq25] at *); first | omega | (rw [tdiv_eq] <;> omega))) (conjC (show 16777216 ≠ (0 : Int) ∧ inR (Int.tdiv (c + ((dg x).getD k 0)) 16777216) from (by intros; (try have hx9 := hxk (by omega)); (try have hy9 := hyk (by omega)); (try simp only [zq25] at *); first | omega | (rw [tdiv_eq] <;> omega))) (conj1 (show inR ((k : Int) + 1) from (by intros; (try have hx9 := hxk (by omega)); (try have hy9 := hyk (by omega)); (try simp only [zq25] at *); first | omega | (rw [tdiv_eq] <;> omega))))))) ?_ ?_
     ·(try dsimp only); omega
     ·rw [if_pos (by omega)] at hu1 hu2 hu3
      rw [if_neg (by omega)] at hv1 hv2 hv3
      have hm := mod_bd (s := c + (dg x).getD k 0) (by omega)
      have hq := (tdivmod (s := c + (dg x).getD k 0) (by omega)).2
      refine ⟨by omega, by omega, by simp [ha], by rw [hes, ints_snoc], hD.snoc hm.1 hm.2, by omega, ?_⟩
      have hst := carry_step (s := c + (dg x).getD k 0) (X' := vd ((dg x).drop (k + 1)) + vd ((dg y).drop (k + 1))) ha (by omega) (by rw [hu1, hv1]; omega) hI
      rw [← Int.add_assoc] at hst; exact hst
   ·(try simp only [zq24] at hc4)
    refine zc hG [] [1, 0, 1, 1, 0, 0, 1] (decide (((k : Int) : Int) < ((intsD (dg y)).length : Int))) (by kernel_rfl) conj0 (fun hc6 => ?_) (fun hc6 => ?_)
    ·(try simp only [zq24] at hc6)
     refine zD hG [(16, 3, .elem (intD ((dg y).getD k 0)))] (k + 1, Int.tdiv (c + (dg y).getD k 0) 16777216, es ++ [[D.i (Int.tmod (c + (dg y).getD k 0) 16777216)]], acc ++ [Int.tmod (c + (dg y).getD k 0) 16777216]) (by kernel_rfl) (conjC (show (0 : Int) ≤ (k : Int) ∧ (intsD (dg y))[k]? = some (intD ((dg y).getD k 0)) from (by intros; exact map_at _ (by omega) (by (try simp only [zq10] at *); omega))) (conjC (show inR (c + ((dg y).getD k 0)) from (by intros; (try have hx9 := hxk (by omega)); (try have hy9 := hyk (by omega)); (try simp only [zq25] at *); first | omega | (rw [tdiv_eq] <;> omega))) (conjC (show 16777216 ≠ (0 : Int) from (by intros; (try have hx9 := hxk (by omega)); (try have hy9 := hyk (by omega)); (try simp only [zq25] at *); first | omega | (rw [tdiv_eq] <;> omega))) (conjC (show ((es).length + (([[.i (Int.tmod (c + ((dg y).getD k 0)) 16777216)]] : List (List D))).length) * (8 + 1) ≤ 140737488355328 from (by intros; (try have hx9 := hxk (by omega)); (try have hy9 := hyk (by omega)); (try simp only [zq25] at *); first | omega | (rw [tdiv_eq] <;> omega))) (conjC (show 16777216 ≠ (0 : Int) ∧ inR (Int.tdiv (c + ((dg y).getD k 0)) 16777216) from (by intros; (try have hx9 := hxk (by omega)); (try have hy9 := hyk (by omega)); (try simp only [zq25] at *); first | omega | (rw [tdiv_eq] <;> omega))) (conj1 (show inR ((k : Int) + 1) from (by intros; (try have hx9 := hxk (by omega)); (try have hy9 := hyk (by omega)); (try simp only [zq25] at *); first | omega | (rw [tdiv_eq] <;> omega))))))))) ?_ ?_
     ·(try dsimp only); omega
     ·rw [if_neg (by omega)] at hu1 hu2 hu3
      rw [if_pos (by omega)] at hv1 hv2 hv3
      have hm := mod_bd (s := c + (dg y).getD k 0) (by omega)
      have hq := (tdivmod (s := c + (dg y).getD k 0) (by omega)).2
      refine ⟨by omega, by omega, by simp [ha], by rw [hes, ints_snoc], hD.snoc hm.1 hm.2, by omega, ?_⟩
      have hst := carry_step (s := c + (dg y).getD k 0) (X' := vd ((dg x).drop (k + 1)) + vd ((dg y).drop (k + 1))) ha (by omega) (by rw [hu1, hv1]; omega) hI
      rw [← Int.add_assoc] at hst; exact hst
    ·(try simp only [zq24] at hc6)
     refine zD hG [] (k + 1, Int.tdiv (c) 16777216, es ++ [[D.i (Int.tmod (c) 16777216)]], acc ++ [Int.tmod (c) 16777216]) (by kernel_rfl) (conjC (show 16777216 ≠ (0 : Int) from (by intros; (try have hx9 := hxk (by omega)); (try have hy9 := hyk (by omega)); (try simp only [zq25] at *); first | omega | (rw [tdiv_eq] <;> omega))) (conjC (show ((es).length + (([[.i (Int.tmod c 16777216)]] : List (List D))).length) * (8 + 1) ≤ 140737488355328 from (by intros; (try have hx9 := hxk (by omega)); (try have hy9 := hyk (by omega)); (try simp only [zq25] at *); first | omega | (rw [tdiv_eq] <;> omega))) (conjC (show 16777216 ≠ (0 : Int) ∧ inR (Int.tdiv c 16777216) from (by intros; (try have hx9 := hxk (by omega)); (try have hy9 := hyk (by omega)); (try simp only [zq25] at *); first | omega | (rw [tdiv_eq] <;> omega))) (conj1 (show inR ((k : Int) + 1) from (by intros; (try have hx9 := hxk (by omega)); (try have hy9 := hyk (by omega)); (try simp only [zq25] at *); first | omega | (rw [tdiv_eq] <;> omega))))))) ?_ ?_
     ·(try dsimp only); omega
     ·rw [if_neg (by omega)] at hu1 hu2 hu3
      rw [if_neg (by omega)] at hv1 hv2 hv3
      have hm := mod_bd (s := c) (by omega)
      have hq := (tdivmod (s := c) (by omega)).2
      refine ⟨by omega, by omega, by simp [ha], by rw [hes, ints_snoc], hD.snoc hm.1 hm.2, by omega, ?_⟩
      have hst := carry_step (s := c) (X' := vd ((dg x).drop (k + 1)) + vd ((dg y).drop (k + 1))) ha (by omega) (by rw [hu1, hv1]; omega) hI
      rw [← Int.add_assoc] at hst; exact hst
  ·(try simp only [zq24] at hc3)
   refine zE hG [] (.exit 0) (⟨[(4, [], .c (.d (.s (S [])))), (11, [], .c (.ar 9001 0))], [(9001, .arr 0 3 1 (es))]⟩) (by kernel_rfl) conj0 rfl ?_
   refine zR hG [(19, 1, .call (.c (.d (.s (S (nb (vd acc).toNat))))) [] [])] [] (.c (.d (.s (S (nb (vd acc).toNat))))) [] (by kernel_rfl) (conj1 ((number_at hes hD (by omega) : SpG g _ _ _ _ _))) ?_ ?_
   ·have hz1 : vd ((dg x).drop k) = 0 := drop_end (by omega)
    have hz2 : vd ((dg y).drop k) = 0 := drop_end (by omega)
    rw [hz1, hz2, show c = 0 by omega] at hI
    rw [show (vd acc).toNat = x + y by omega]
   ·rfl
theorem mul_ok (x y : Nat) (hx : (nb x).length ≤ 900000) (hy : (nb y).length ≤ 900000) (hxy : (nb x).length + (nb y).length ≤ 900000) :
  SpG g 137 [.c (.d (.s (S (nb x)))), .c (.d (.s (S (nb y))))] [] (.c (.d (.s (S (nb (x * y)))))) [] := by
 have lx := dg_len (n := x) (k := (nb x).length / 3 + 1) (by omega)
 have ly := dg_len (n := y) (k := (nb y).length / 3 + 1) (by omega)
 have hsx : 0 ≤ smV x 3 ∧ smV x 3 < 16777216 := by unfold smV; split <;> omega
 have hsy : 0 ≤ smV y 4 ∧ smV y 4 < 4294967296 := by unfold smV; split <;> omega
 have hsp : 0 ≤ smV x 3 * smV y 4 ∧ smV x 3 * smV y 4 ≤ 16777215 * 4294967295 := ⟨Int.mul_nonneg hsx.1 hsy.1, Int.mul_le_mul (by omega) (by omega) hsy.1 (by decide)⟩
 refine enterB 92 Tryz.func137 (by kernel_rfl) fun fr hG => ?_
 refine zC hG [(1, 1, .call (.tup [(false, [.d (.i (smV x 3))]), (false, [.d (.b (smK x 3))])]) [] []), (2, 1, .call (.tup [(false, [.d (.i (smV y 4))]), (false, [.d (.b (smK y 4))])]) [] [])] [1, 0, 1, 1, 1] ((smK x 3) && (smK y 4)) (⟨[(0, [], .c (.d (.s (S (nb x))))), (1, [], .c (.d (.s (S (nb y))))), (4, [], .c (.d (.s (S [])))), (5, [], .c (.d (.i (smV x 3)))), (7, [], .c (.d (.i (smV y 4))))], []⟩) (by kernel_rfl) (conjC ((small_ok x 3 (by decide) (by omega) : SpG g _ _ _ _ _)) (conj1 ((small_ok y 4 (by decide) (by omega) : SpG g _ _ _ _ _)))) (fun hc1 => ?_) (fun hc1 => ?_)
 ·(try simp only [zq24] at hc1)
  refine zR hG [(4, 3, .call (.c (.d (.s (S (nb ((smV x 3) * (smV y 4)).toNat))))) [] [])] [] (.c (.d (.s (S (nb ((smV x 3) * (smV y 4)).toNat))))) [] (by kernel_rfl) (conjC (show inR ((smV x 3) * (smV y 4)) from (by intros; first | (refine ⟨?_, rfl, ?_, ?_⟩ <;> (simp only [ints_len]; omega)) | skip; (try have h9 := mul_bd (haij (by omega)) (hyj (by omega)) hxi hc); (try rw [hidx]); (try simp only [zq25] at *); first | omega | (rw [tdiv_eq] <;> omega))) (conj1 ((of_ok ((smV x 3) * (smV y 4)) (by omega) : SpG g _ _ _ _ _)))) ?_ ?_
  ·have h1 : x < 256 ^ 3 ∧ y < 256 ^ 4 := by simpa [smK] using hc1
   have e1 : smV x 3 = x := if_pos h1.1
   have e2 : smV y 4 = y := if_pos h1.2
   have e3 : ((x : Int) * y).toNat = x * y := by rw [← Int.natCast_mul]; rfl
   rw [e1, e2, e3]
  ·rfl
 ·(try simp only [zq24] at hc1)
  refine zL hG [(5, 1, .call (.c (.d (.sl 1 (intsD (dg x))))) [] []), (6, 1, .call (.c (.d (.sl 1 (intsD (dg y))))) [] []), (7, 5, .mask [none])] [0, 1, 0, 1, 1, 1, 1, 1, 1, 1] (fun (zz : Nat × List (List D) × List Int) => match zz with | (i, es, acc) => ((dg x).length - i, ⟨[(4, [], .c (.d (.s (S [])))), (9, [], .c (.d (.sl 1 (intsD (dg x))))), (10, [], .c (.d (.sl 1 (intsD (dg y))))), (11, [], .c (.ar 805 0)), (12, [], .c (.d (.i (i : Int))))], [(805, .arr 0 3 1 (es))]⟩, i ≤ (dg x).length ∧ es = intsD acc ∧ Dg acc ∧ acc.length = (dg x).length + (dg y).length ∧ (∀ p, i + (dg y).length ≤ p → acc.getD p 0 = 0) ∧ vd acc = vd ((dg x).take i) * y)) (0, List.replicate (((intsD (dg x)).length : Int) + ((intsD (dg y)).length : Int) : Int).toNat [.i 0], List.replicate ((dg x).length + (dg y).length) 0) (by kernel_rfl) (conjC ((ofD_ok x (by omega) : SpG g _ _ _ _ _)) (conjC ((ofD_ok y (by omega) : SpG g _ _ _ _ _)) (conjC (show inR (((intsD (dg x)).length : Int) + ((intsD (dg y)).length : Int)) from (by intros; first | (refine ⟨?_, rfl, ?_, ?_⟩ <;> (simp only [ints_len]; omega)) | skip; (try have h9 := mul_bd (haij (by omega)) (hyj (by omega)) hxi hc); (try rw [hidx]); (try simp only [zq25] at *); first | omega | (rw [tdiv_eq] <;> omega))) (conj1 (show (0 : Int) ≤ (((intsD (dg x)).length : Int) + ((intsD (dg y)).length : Int)) ∧ (((intsD (dg x)).length : Int) + ((intsD (dg y)).length : Int)) = (((intsD (dg x)).length : Int) + ((intsD (dg y)).length : Int)) ∧ ((8 : Nat) : Int) * (((intsD (dg x)).length : Int) + ((intsD (dg y)).length : Int)) ≤ 281474976710656 ∧ (((intsD (dg x)).length : Int) + ((intsD (dg y)).length : Int)) ≤ 9223372036854775807 from (by intros; first | (refine ⟨?_, rfl, ?_, ?_⟩ <;> (simp only [ints_len]; omega)) | skip; (try have h9 := mul_bd (haij (by omega)) (hyj (by omega)) hxi hc); (try rw [hidx]); (try simp only [zq25] at *); first | omega | (rw [tdiv_eq] <;> omega))))))) (by kernel_rfl) ?_ ?_
  ·refine ⟨Nat.zero_le _, ?_, Dg.zeros _, by simp, ?_, ?_⟩
   ·rw [← rep_ints, ints_len, ints_len]; congr 1
   ·intro p _; rw [List.getD_eq_getElem?_getD, List.getElem?_replicate]; split <;> rfl
   ·rw [vd_zeros]; simp [vd]
  rintro ⟨i, es, acc⟩ ⟨hi, hes, hD, ha, hz, hI⟩
  have hlen : es.length = (dg x).length + (dg y).length := by rw [hes, ints_len, ha]
  refine zc hG [] [1, 0] (decide (((i : Int) : Int) < ((intsD (dg x)).length : Int))) (by kernel_rfl) conj0 (fun hc3 => ?_) (fun hc3 => ?_)
  ·(try simp only [zq24] at hc3)
   refine zL hG [] [0, 1, 0, 1, 0, 0, 1] (fun (zz : Nat × Int × List (List D) × List Int) => match zz with | (j, c, es, acc) => ((dg y).length - j, ⟨[(4, [], .c (.d (.s (S [])))), (9, [], .c (.d (.sl 1 (intsD (dg x))))), (10, [], .c (.d (.sl 1 (intsD (dg y))))), (11, [], .c (.ar 805 0)), (12, [], .c (.d (.i (i : Int)))), (13, [], .c (.d (.i c))), (14, [], .c (.d (.i (j : Int))))], [(805, .arr 0 3 1 (es))]⟩, j ≤ (dg y).length ∧ (0 ≤ c ∧ c < 16777216) ∧ es = intsD acc ∧ Dg acc ∧ acc.length = (dg x).length + (dg y).length ∧ (∀ p, i + (dg y).length ≤ p → acc.getD p 0 = 0) ∧ vd acc + 16777216 ^ (i + j) * c = vd ((dg x).take i) * y + (dg x).getD i 0 * 16777216 ^ i * vd ((dg y).take j))) (0, 0, es, acc) (by kernel_rfl) conj0 (by kernel_rfl) ?_ ?_
   ·refine ⟨Nat.zero_le _, by omega, hes, hD, ha, hz, ?_⟩
    rw [hI]; simp [vd]
   rintro ⟨j, c, es, acc⟩ ⟨hj, hc, hes, hD, ha, hz, hI⟩
   have hlen : es.length = (dg x).length + (dg y).length := by rw [hes, ints_len, ha]
   have hidx : ((i : Int) + (j : Int) : Int).toNat = i + j := by omega
   have hxi := (vd_dg x).2.at (k := i) (by omega)
   have hyj : j < (dg y).length → 0 ≤ (dg y).getD j 0 ∧ (dg y).getD j 0 < 16777216 := fun h => (vd_dg y).2.at h
   have haij : j < (dg y).length → 0 ≤ acc.getD (i + j) 0 ∧ acc.getD (i + j) 0 < 16777216 := fun h => hD.at (by omega)
   refine zc hG [] [1, 0] (decide (((j : Int) : Int) < ((intsD (dg y)).length : Int))) (by kernel_rfl) conj0 (fun hc5 => ?_) (fun hc5 => ?_)
   ·(try simp only [zq24] at hc5)
    refine zD hG [(15, 5, .elem ([.i (acc.getD ((i : Int) + (j : Int) : Int).toNat 0)])), (15, 8, .elem (intD ((dg x).getD i 0))), (15, 12, .elem (intD ((dg y).getD j 0)))] (j + 1, Int.tdiv (((acc.getD ((i : Int) + (j : Int) : Int).toNat 0) + (((dg x).getD i 0) * ((dg y).getD j 0))) + c) 16777216, (es).set ((i : Int) + (j : Int) : Int).toNat [.i (Int.tmod (((acc.getD ((i : Int) + (j : Int) : Int).toNat 0) + (((dg x).getD i 0) * ((dg y).getD j 0))) + c) 16777216)], acc.set ((i : Int) + (j : Int) : Int).toNat ((Int.tmod (((acc.getD ((i : Int) + (j : Int) : Int).toNat 0) + (((dg x).getD i 0) * ((dg y).getD j 0))) + c) 16777216))) (by kernel_rfl) (conjC (show inR ((i : Int) + (j : Int)) from (by intros; first | (refine ⟨?_, rfl, ?_, ?_⟩ <;> (simp only [ints_len]; omega)) | skip; (try have h9 := mul_bd (haij (by omega)) (hyj (by omega)) hxi hc); (try rw [hidx]); (try simp only [zq25] at *); first | omega | (rw [tdiv_eq] <;> omega))) (conjC (show (0 : Int) ≤ ((i : Int) + (j : Int)) ∧ ((i : Int) + (j : Int)) < ((es).length : Int) from (by intros; first | (refine ⟨?_, rfl, ?_, ?_⟩ <;> (simp only [ints_len]; omega)) | skip; (try have h9 := mul_bd (haij (by omega)) (hyj (by omega)) hxi hc); (try rw [hidx]); (try simp only [zq25] at *); first | omega | (rw [tdiv_eq] <;> omega))) (conjC (show (es)[((i : Int) + (j : Int) : Int).toNat]? = some ([.i (acc.getD ((i : Int) + (j : Int) : Int).toNat 0)]) from (by intros; rw [hes]; exact map_nat 0 (by (try simp only [ints_len] at *); omega))) (conjC (show (0 : Int) ≤ (i : Int) ∧ (intsD (dg x))[i]? = some (intD ((dg x).getD i 0)) from (by intros; exact map_at _ (by omega) (by (try simp only [zq10] at *); omega))) (conjC (show (0 : Int) ≤ (j : Int) ∧ (intsD (dg y))[j]? = some (intD ((dg y).getD j 0)) from (by intros; exact map_at _ (by omega) (by (try simp only [zq10] at *); omega))) (conjC (show inR (((dg x).getD i 0) * ((dg y).getD j 0)) from (by intros; first | (refine ⟨?_, rfl, ?_, ?_⟩ <;> (simp only [ints_len]; omega)) | skip; (try have h9 := mul_bd (haij (by omega)) (hyj (by omega)) hxi hc); (try rw [hidx]); (try simp only [zq25] at *); first | omega | (rw [tdiv_eq] <;> omega))) (conjC (show inR ((acc.getD ((i : Int) + (j : Int) : Int).toNat 0) + (((dg x).getD i 0) * ((dg y).getD j 0))) from (by intros; first | (refine ⟨?_, rfl, ?_, ?_⟩ <;> (simp only [ints_len]; omega)) | skip; (try have h9 := mul_bd (haij (by omega)) (hyj (by omega)) hxi hc); (try rw [hidx]); (try simp only [zq25] at *); first | omega | (rw [tdiv_eq] <;> omega))) (conjC (show inR (((acc.getD ((i : Int) + (j : Int) : Int).toNat 0) + (((dg x).getD i 0) * ((dg y).getD j 0))) + c) from (by intros; first | (refine ⟨?_, rfl, ?_, ?_⟩ <;> (simp only [ints_len]; omega)) | skip; (try have h9 := mul_bd (haij (by omega)) (hyj (by omega)) hxi hc); (try rw [hidx]); (try simp only [zq25] at *); first | omega | (rw [tdiv_eq] <;> omega))) (conjC (show inR ((i : Int) + (j : Int)) from (by intros; first | (refine ⟨?_, rfl, ?_, ?_⟩ <;> (simp only [ints_len]; omega)) | skip; (try have h9 := mul_bd (haij (by omega)) (hyj (by omega)) hxi hc); (try rw [hidx]); (try simp only [zq25] at *); first | omega | (rw [tdiv_eq] <;> omega))) (conjC (show 16777216 ≠ (0 : Int) from (by intros; first | (refine ⟨?_, rfl, ?_, ?_⟩ <;> (simp only [ints_len]; omega)) | skip; (try have h9 := mul_bd (haij (by omega)) (hyj (by omega)) hxi hc); (try rw [hidx]); (try simp only [zq25] at *); first | omega | (rw [tdiv_eq] <;> omega))) (conjC (show (0 : Int) ≤ ((i : Int) + (j : Int)) ∧ ((i : Int) + (j : Int)) < ((es).length : Int) from (by intros; first | (refine ⟨?_, rfl, ?_, ?_⟩ <;> (simp only [ints_len]; omega)) | skip; (try have h9 := mul_bd (haij (by omega)) (hyj (by omega)) hxi hc); (try rw [hidx]); (try simp only [zq25] at *); first | omega | (rw [tdiv_eq] <;> omega))) (conjC (show 16777216 ≠ (0 : Int) ∧ inR (Int.tdiv (((acc.getD ((i : Int) + (j : Int) : Int).toNat 0) + (((dg x).getD i 0) * ((dg y).getD j 0))) + c) 16777216) from (by intros; first | (refine ⟨?_, rfl, ?_, ?_⟩ <;> (simp only [ints_len]; omega)) | skip; (try have h9 := mul_bd (haij (by omega)) (hyj (by omega)) hxi hc); (try rw [hidx]); (try simp only [zq25] at *); first | omega | (rw [tdiv_eq] <;> omega))) (conj1 (show inR ((j : Int) + 1) from (by intros; first | (refine ⟨?_, rfl, ?_, ?_⟩ <;> (simp only [ints_len]; omega)) | skip; (try have h9 := mul_bd (haij (by omega)) (hyj (by omega)) hxi hc); (try rw [hidx]); (try simp only [zq25] at *); first | omega | (rw [tdiv_eq] <;> omega)))))))))))))))) ?_ ?_
    ·(try dsimp only); omega
    ·rw [hidx]
     have hb := mul_bd (haij (by omega)) (hyj (by omega)) hxi hc
     have hm := mod_bd hb.2.2.1
     refine ⟨by omega, ⟨hb.2.2.2.2, hb.2.2.2.1⟩, by rw [hes, ints_set], hD.set hm.1 hm.2, by simp [ha], fun p hp => ?_, ?_⟩
     ·rw [getD_set, if_neg (by omega)]; exact hz p hp
     ·have h := mul_step (by omega) rfl hb.2.2.1 hI
      rw [take_vd (by omega)]; exact h
   ·(try simp only [zq24] at hc5)
    refine zE hG [] (.exit 2) (⟨[(4, [], .c (.d (.s (S [])))), (9, [], .c (.d (.sl 1 (intsD (dg x))))), (10, [], .c (.d (.sl 1 (intsD (dg y))))), (11, [], .c (.ar 805 0)), (12, [], .c (.d (.i (i : Int)))), (13, [], .c (.d (.i c)))], [(805, .arr 0 3 1 (es))]⟩) (by kernel_rfl) conj0 rfl ?_
    refine zD hG [] (i + 1, (es).set ((i : Int) + ((intsD (dg y)).length : Int) : Int).toNat [.i c], acc.set ((i : Int) + ((intsD (dg y)).length : Int) : Int).toNat (c)) (by kernel_rfl) (conjC (show inR ((i : Int) + ((intsD (dg y)).length : Int)) from (by intros; first | (refine ⟨?_, rfl, ?_, ?_⟩ <;> (simp only [ints_len]; omega)) | skip; (try have h9 := mul_bd (haij (by omega)) (hyj (by omega)) hxi hc); (try rw [hidx]); (try simp only [zq25] at *); first | omega | (rw [tdiv_eq] <;> omega))) (conjC (show (0 : Int) ≤ ((i : Int) + ((intsD (dg y)).length : Int)) ∧ ((i : Int) + ((intsD (dg y)).length : Int)) < ((es).length : Int) from (by intros; first | (refine ⟨?_, rfl, ?_, ?_⟩ <;> (simp only [ints_len]; omega)) | skip; (try have h9 := mul_bd (haij (by omega)) (hyj (by omega)) hxi hc); (try rw [hidx]); (try simp only [zq25] at *); first | omega | (rw [tdiv_eq] <;> omega))) (conj1 (show inR ((i : Int) + 1) from (by intros; first | (refine ⟨?_, rfl, ?_, ?_⟩ <;> (simp only [ints_len]; omega)) | skip; (try have h9 := mul_bd (haij (by omega)) (hyj (by omega)) hxi hc); (try rw [hidx]); (try simp only [zq25] at *); first | omega | (rw [tdiv_eq] <;> omega)))))) ?_ ?_
    ·(try dsimp only); omega
    ·have hidx : ((i : Int) + ((intsD (dg y)).length : Int) : Int).toNat = i + (dg y).length := by rw [ints_len]; omega
     have hj9 : j = (dg y).length := by omega
     rw [hidx]
     have h0 := hz (i + (dg y).length) (Nat.le_refl _)
     refine ⟨by omega, by rw [hes, ints_set], hD.set hc.1 hc.2, by simp [ha], fun p hp => ?_, ?_⟩
     ·rw [getD_set, if_neg (by omega)]; exact hz p (by omega)
     ·rw [vd_set_at (by omega), h0, take_vd (by omega)]
      rw [hj9, List.take_length, (vd_dg y).1] at hI
      grind
  ·(try simp only [zq24] at hc3)
   refine zE hG [] (.exit 0) (⟨[(4, [], .c (.d (.s (S [])))), (11, [], .c (.ar 805 0))], [(805, .arr 0 3 1 (es))]⟩) (by kernel_rfl) conj0 rfl ?_
   refine zR hG [(19, 1, .call (.c (.d (.s (S (nb (vd acc).toNat))))) [] [])] [] (.c (.d (.s (S (nb (vd acc).toNat))))) [] (by kernel_rfl) (conj1 ((number_at hes hD (by omega) : SpG g _ _ _ _ _))) ?_ ?_
   ·rw [show i = (dg x).length by omega, List.take_length, (vd_dg x).1] at hI
    have e3 : (vd acc).toNat = x * y := by rw [hI, ← Int.natCast_mul]; rfl
    rw [e3]
   ·rfl
theorem cmpN_ok (x y : Nat) (hx : (nb x).length ≤ 1000000) (hy : (nb y).length ≤ 1000000) :
  SpG g 185 [.c (.d (.s (S (nb x)))), .c (.d (.s (S (nb y))))] [] (.c (.d (.i (Lib.compareInt (x : Int) y)))) [] := by
 refine enterB 25 Tryz.func185 (by kernel_rfl) fun fr hG => ?_
 refine zC hG [(1, 1, .call (.c (.d (.s (S (nb x))))) [] []), (2, 1, .call (.c (.d (.s (S (nb y))))) [] [])] [1, 0, 1, 1, 1] (!decide ((((S (nb x)).size : Int) : Int) = ((S (nb y)).size : Int))) (⟨[(0, [], .c (.d (.s (S (nb x))))), (1, [], .c (.d (.s (S (nb y))))), (4, [], .c (.d (.i 0)))], []⟩) (by kernel_rfl) (conjC ((canonNb_ok x (by first | omega | (simp only [maxLen]; omega)) : SpG g _ _ _ _ _)) (conj1 ((canonNb_ok y (by first | omega | (simp only [maxLen]; omega)) : SpG g _ _ _ _ _)))) (fun hc1 => ?_) (fun hc1 => ?_)
 ·(try simp only [zq24] at hc1)
  refine zc hG [] [1, 0, 0, 1, 0, 1, 1, 1] (decide ((((S (nb x)).size : Int) : Int) < ((S (nb y)).size : Int))) (by kernel_rfl) conj0 (fun hc2 => ?_) (fun hc2 => ?_)
  ·(try simp only [zq24] at hc2)
   refine zR hG [] [] (.c (.d (.i (-1)))) [] (by kernel_rfl) conj0 ?_ ?_
   ·have h := nb_shorter (x := x) (y := y) (by omega)
    rw [Lib.compareInt, if_pos (by omega)]
   ·rfl
  ·(try simp only [zq24] at hc2)
   refine zR hG [] [] (.c (.d (.i 1))) [] (by kernel_rfl) conj0 ?_ ?_
   ·have h := nb_shorter (x := y) (y := x) (by omega)
    rw [Lib.compareInt, if_neg (by omega), if_pos (by omega)]
   ·rfl
 ·(try simp only [zq24] at hc1)
  refine zc hG [] [1, 0, 1, 1, 1, 1] (Op.bytesLess (S (nb x)).toList (S (nb y)).toList) (by kernel_rfl) conj0 (fun hc3 => ?_) (fun hc3 => ?_)
  ·(try simp only [zq24] at hc3)
   refine zR hG [] [] (.c (.d (.i (-1)))) [] (by kernel_rfl) conj0 ?_ ?_
   ·rw [nb_less (by omega), decide_eq_true_eq] at hc3
    rw [Lib.compareInt, if_pos (by omega)]
   ·rfl
  ·(try simp only [zq24] at hc3)
   refine zC hG [] [1, 0, 1, 1, 1, 1, 1] (!(Op.bytesLess (S (nb x)).toList (S (nb y)).toList || ((S (nb x)).toList == (S (nb y)).toList))) (⟨[(4, [], .c (.d (.i 0)))], []⟩) (by kernel_rfl) conj0 (fun hc4 => ?_) (fun hc4 => ?_)
   ·(try simp only [zq24] at hc4)
    refine zR hG [] [] (.c (.d (.i 1))) [] (by kernel_rfl) conj0 ?_ ?_
    ·rw [nb_less (by omega), decide_eq_false_iff_not] at hc3
     have hne : ¬ x = y := fun e => by subst e; have h2 := hc4.2; simp at h2
     rw [Lib.compareInt, if_neg (by omega), if_pos (by omega)]
    ·rfl
   ·(try simp only [zq24] at hc4)
    refine zR hG [] [] (.c (.d (.i 0))) [] (by kernel_rfl) conj0 ?_ ?_
    ·rw [nb_less (by omega), decide_eq_false_iff_not] at hc3
     have e : x = y := by
      rcases hc4 with h | h
      ·rw [nb_less (by omega), decide_eq_true_eq] at h; omega
      ·rw [S_beq, decide_eq_true_eq] at h; exact nb_inj h
     rw [Lib.compareInt, if_neg (by omega), if_neg (by omega)]
    ·rfl
theorem sub_ok (x y : Nat) (h : y ≤ x) (hx : (nb x).length ≤ 900000) (hy : (nb y).length ≤ 900000) :
  SpG g 186 [.c (.d (.s (S (nb x)))), .c (.d (.s (S (nb y))))] [] (.tup [(false, [.d (.s (S (nb (x - y))))]), (false, [.d (.b true)])]) [] := by
 have lx := dg_len (n := x) (k := 300000) (by omega)
 have ly := dg_len (n := y) (k := 300000) (by omega)
 have hc0 : ¬ Lib.compareInt (x : Int) y < 0 := by unfold Lib.compareInt; rw [if_neg (by omega)]; split <;> omega
 refine enterB 16 Tryz.func186 (by kernel_rfl) fun fr hG => ?_
 refine zC hG [(1, 2, .call (.c (.d (.i (Lib.compareInt (x : Int) y)))) [] [])] [1, 0, 1] (decide ((Lib.compareInt (x : Int) y : Int) < 0)) (⟨[(0, [], .c (.d (.s (S (nb x))))), (1, [], .c (.d (.s (S (nb y))))), (4, [], .c (.d (.s (S [])))), (5, [], .c (.d (.b false)))], []⟩) (by kernel_rfl) (conj1 ((cmpN_ok x y (by omega) (by omega) : SpG g _ _ _ _ _))) (fun hc1 => ?_) (fun hc1 => ?_)
 ·(try simp only [zq24] at hc1)
  exact absurd hc1 hc0
 ·(try simp only [zq24] at hc1)
  exact zr hG [(3, 1, .call (.c (.d (.sl 1 (intsD (dg x))))) [] []), (3, 3, .call (.c (.d (.sl 1 (intsD (dg y))))) [] []), (3, 4, .call (.c (.d (.sl 1 (intsD (dg (x - y)))))) [] []), (3, 5, .call (.c (.d (.s (S (nb (x - y)))))) [] [])] [] (by kernel_rfl) (conjC ((ofD_ok x (by omega) : SpG g _ _ _ _ _)) (conjC ((ofD_ok y (by omega) : SpG g _ _ _ _ _)) (conjC ((minus_ok x y (by omega) (by omega) (by omega) : SpG g _ _ _ _ _)) (conj1 ((number_dg (x - y) (by have := dg_mono (a := x - y) (b := x) (by omega); omega) : SpG g _ _ _ _ _))))))
end Go.Proofs.YtmpgfchkkemngaaGreatDoor
namespace Go.Proofs.YtmpgfchkkemngaaGreatDoor
open Go.RowKit Go.V
open Go.Eng (inR byteAt u8 bytesV)
variable {g : Gv}
def plN (p q : Bool) (x y : Nat) : Nat := if p = q then x + y else if x < y then y - x else x - y
def plS (p q : Bool) (x y : Nat) : Bool := if p = q then p else if x < y then q && decide (y - x > 0) else p && decide (x - y > 0)
theorem nb10 : (nb 10).length = 1 := by rw [nb_pos (by decide), show 10 / 256 = 0 from rfl, nb_zero]; rfl
theorem nb1 : (nb 1).length = 1 := by rw [nb_pos (by decide), show 1 / 256 = 0 from rfl, nb_zero]; rfl
theorem ci_neg {x y : Nat} : Lib.compareInt (x : Int) y < 0 ↔ x < y := by
 unfold Lib.compareInt; split
 ·omega
 ·split <;> omega
theorem pow10_len {k : Nat} (h : k ≤ 18) : (nb (10 ^ k)).length ≤ 8 := nb_len (by
 have : 10 ^ k ≤ 10 ^ 18 := Nat.pow_le_pow_right (by decide) h
 omega)
theorem mul10_len {m k : Nat} (hm : m ≤ 1000000000000000) (h : k ≤ 6) : (nb (m * 10 ^ k)).length ≤ 9 := nb_len (by
 have h1 : 10 ^ k ≤ 10 ^ 6 := Nat.pow_le_pow_right (by decide) h
 have h2 : m * 10 ^ k ≤ 1000000000000000 * 10 ^ 6 := Nat.mul_le_mul hm h1
 omega)
theorem sz_pos (n : Nat) : (0 < (S (nb n)).size) = (0 < n) := by
 rw [S_size]; have := nb_len_zero n; apply propext; omega
theorem natural_ok (n : Int) (h : inR n) :
  SpG g 135 [.c (.d (.i n))] [] (.c (.d (.s (S (nb n.natAbs))))) [] := by
 unfold inR at h
 have hw : n < 0 → IntKind.wrap .i64 (0 - (n + 1)) = -(n + 1) := fun h0 => by rw [wrap64 (by unfold inR; omega)]; omega
 refine enterB 13 Tryz.func135 (by kernel_rfl) fun fr hG => ?_
 refine zC hG [] [1, 0, 1] (decide ((n : Int) ≥ 0)) (⟨[(0, [], .c (.d (.i n))), (2, [], .c (.d (.s (S []))))], []⟩) (by kernel_rfl) conj0 (fun hc1 => ?_) (fun hc1 => ?_)
 ·(try simp only [blS] at hc1)
  refine zR hG [(2, 1, .call (.c (.d (.s (S (nb (n).toNat))))) [] [])] [] (.c (.d (.s (S (nb (n).toNat))))) [] (by kernel_rfl) (conj1 ((of_ok (n) (by first | omega | (rw [hw (by omega)]; omega)) : SpG g _ _ _ _ _))) ?_ ?_
  ·rw [show n.toNat = n.natAbs by omega]
  ·rfl
 ·(try simp only [blS] at hc1)
  refine zR hG [(3, 3, .call (.c (.d (.s (S (nb (IntKind.wrap .i64 (0 - (n + 1))).toNat))))) [] []), (3, 4, .call (.c (.d (.s (S (nb 1))))) [] []), (3, 5, .call (.c (.d (.s (S (nb (((IntKind.wrap .i64 (0 - (n + 1))).toNat) + 1)))))) [] [])] [] (.c (.d (.s (S (nb (((IntKind.wrap .i64 (0 - (n + 1))).toNat) + 1)))))) [] (by kernel_rfl) (conjC (show inR (n + 1) from (by intros; first | omega | ((try simp only [decide_eq_true_eq, inR, S_size] at *) <;> omega))) (conjC ((of_ok (IntKind.wrap .i64 (0 - (n + 1))) (by first | omega | (rw [hw (by omega)]; omega)) : SpG g _ _ _ _ _)) (conjC ((of_ok 1 (by decide) : SpG g _ _ _ _ _)) (conj1 ((add_ok ((IntKind.wrap .i64 (0 - (n + 1))).toNat) 1 (by rw [hw (by omega)]; exact Nat.le_trans (nb_len (k := 8) (by omega)) (by decide)) (by have := nb1; omega) : SpG g _ _ _ _ _)))))) ?_ ?_
  ·rw [hw (by omega), show (-(n + 1)).toNat + 1 = n.natAbs by omega]
  ·rfl
theorem big_ok (n s : Int) (h : decB n s = true) :
  SpG g 87 [.agg [.d (.i n), .d (.i s)]] [] (.agg [.d (.b (decide (n < 0))), .d (.s (S (nb n.natAbs))), .d (.i s)]) [] := by
 have hb := decB_bd h
 refine enterB 18 Tryz.func87 (by kernel_rfl) fun fr hG => ?_
 refine zC hG [(1, 1, .call (.c (.d (.b (decB n s)))) [] [])] [1, 0, 1, 1] (!(decB n s)) (⟨[(1, [], .c (.bx 100 0)), (2, [], .c (.bx 101 0))], [(100, .box 26 [.d (.i n), .d (.i s)]), (101, .box 123 [.d (.b false), .d (.s (S [])), .d (.i 0)])]⟩) (by kernel_rfl) (conj1 ((refDecRight_ok n s : SpG g _ _ _ _ _))) (fun hc1 => ?_) (fun hc1 => ?_)
 ·(try simp only [blS] at hc1)
  rw [h] at hc1; cases hc1
 ·(try simp only [blS] at hc1)
  exact zr hG [(4, 5, .call (.c (.d (.s (S (nb n.natAbs))))) [] [])] [] (by kernel_rfl) (conj1 ((natural_ok n (by unfold inR; omega) : SpG g _ _ _ _ _)))
theorem power_ok (n : Int) (h0 : 0 ≤ n) (h1 : n ≤ 18) :
  SpG g 88 [.c (.d (.i n))] [] (.c (.d (.s (S (nb (10 ^ n.toNat)))))) [] := by
 refine enterB 15 Tryz.func88 (by kernel_rfl) fun fr hG => ?_
 refine zL hG [(1, 0, .call (.c (.d (.s (S (nb 1))))) [] [])] [0, 1, 0, 1, 1] (fun (zz : Nat × Nat) => match zz with | (k, p) => (n.toNat - k, ⟨[(0, [], .c (.d (.i n))), (2, [], .c (.d (.s (S [])))), (3, [], .c (.d (.s (S (nb p))))), (4, [], .c (.d (.i (k : Int))))], []⟩, (k : Int) ≤ n ∧ p = 10 ^ k)) (0, 1) (by kernel_rfl) (conj1 ((of_ok 1 (by decide) : SpG g _ _ _ _ _))) (by kernel_rfl) ?_ ?_
 ·exact ⟨by omega, rfl⟩
 rintro ⟨k, p⟩ ⟨hk, hp⟩
 have hl : (nb p).length ≤ 8 := by rw [hp]; exact pow10_len (by omega)
 refine zc hG [] [1, 0] (decide (((k : Int) : Int) < n)) (by kernel_rfl) conj0 (fun hc2 => ?_) (fun hc2 => ?_)
 ·(try simp only [blS] at hc2)
  refine zD hG [(5, 1, .call (.c (.d (.s (S (nb 10))))) [] []), (5, 2, .call (.c (.d (.s (S (nb (p * 10)))))) [] [])] (k + 1, p * 10) (by kernel_rfl) (conjC ((of_ok 10 (by decide) : SpG g _ _ _ _ _)) (conjC ((mul_ok p 10 (by omega) (by have := nb10; omega) (by have := nb10; omega) : SpG g _ _ _ _ _)) (conj1 (show inR ((k : Int) + 1) from (by intros; first | omega | ((try simp only [decide_eq_true_eq, inR, S_size] at *) <;> omega)))))) ?_ ?_
  ·(try dsimp only); omega
  ·exact ⟨by omega, by rw [hp, Nat.pow_succ]⟩
 ·(try simp only [blS] at hc2)
  refine zE hG [] (.exit 0) (⟨[(2, [], .c (.d (.s (S [])))), (3, [], .c (.d (.s (S (nb p)))))], []⟩) (by kernel_rfl) conj0 rfl ?_
  refine zR hG [] [] (.c (.d (.s (S (nb p))))) [] (by kernel_rfl) conj0 ?_ ?_
  ·rw [hp, show k = n.toNat by omega]
  ·rfl
theorem wider_ok (q : Bool) (m : Nat) (s t : Int) (hm : m ≤ 1000000000000000) (hs : 0 ≤ s) (hst : s ≤ t) (ht : t ≤ 6) :
  SpG g 184 [.agg [.d (.b q), .d (.s (S (nb m))), .d (.i s)], .c (.d (.i t))] [] (.agg [.d (.b q), .d (.s (S (nb (m * 10 ^ (t - s).toNat)))), .d (.i t)]) [] := by
 have l1 := nb_len (n := m) (k := 7) (by omega)
 have l2 := pow10_len (k := (t - s).toNat) (by omega)
 refine enterB 17 Tryz.func184 (by kernel_rfl) fun fr hG => ?_
 exact zr hG [(1, 8, .call (.c (.d (.s (S (nb (10 ^ (t - s).toNat)))))) [] []), (1, 9, .call (.c (.d (.s (S (nb (m * (10 ^ (t - s).toNat))))))) [] [])] [] (by kernel_rfl) (conjC (show inR (t - s) from (by intros; first | omega | ((try simp only [decide_eq_true_eq, inR, S_size] at *) <;> omega))) (conjC ((power_ok (t - s) (by omega) (by omega) : SpG g _ _ _ _ _)) (conj1 ((mul_ok m (10 ^ (t - s).toNat) (by omega) (by omega) (by omega) : SpG g _ _ _ _ _)))))
theorem plus_ok (p q : Bool) (m1 m2 : Nat) (s1 s2 : Int) (h1 : m1 ≤ 1000000000000000) (h2 : m2 ≤ 1000000000000000) (a1 : 0 ≤ s1) (a2 : s1 ≤ 6) (b1 : 0 ≤ s2) (b2 : s2 ≤ 6) :
  SpG g 158 [.agg [.d (.b p), .d (.s (S (nb m1))), .d (.i s1)], .agg [.d (.b q), .d (.s (S (nb m2))), .d (.i s2)]] [] (.agg [.d (.b (plS p q (m1 * 10 ^ ((if (s2 : Int) > s1 then s2 else s1) - s1).toNat) (m2 * 10 ^ ((if (s2 : Int) > s1 then s2 else s1) - s2).toNat))), .d (.s (S (nb (plN p q (m1 * 10 ^ ((if (s2 : Int) > s1 then s2 else s1) - s1).toNat) (m2 * 10 ^ ((if (s2 : Int) > s1 then s2 else s1) - s2).toNat))))), .d (.i (if (s2 : Int) > s1 then s2 else s1))]) [] := by
 have lx := mul10_len (m := m1) (k := ((if (s2 : Int) > s1 then s2 else s1) - s1).toNat) h1 (by split <;> omega)
 have ly := mul10_len (m := m2) (k := ((if (s2 : Int) > s1 then s2 else s1) - s2).toNat) h2 (by split <;> omega)
 refine enterB 67 Tryz.func158 (by kernel_rfl) fun fr hG => ?_
 refine zC hG [(1, 6, .call (.agg [.d (.b p), .d (.s (S (nb (m1 * 10 ^ ((if (s2 : Int) > s1 then s2 else s1) - s1).toNat)))), .d (.i (if (s2 : Int) > s1 then s2 else s1))]) [] []), (2, 6, .call (.agg [.d (.b q), .d (.s (S (nb (m2 * 10 ^ ((if (s2 : Int) > s1 then s2 else s1) - s2).toNat)))), .d (.i (if (s2 : Int) > s1 then s2 else s1))]) [] [])] [1, 0, 1, 1, 1] (p == q) (⟨[(4, [], .c (.bx 102 0)), (5, [], .c (.bx 207 0)), (6, [], .c (.bx 307 0))], [(102, .box 123 [.d (.b false), .d (.s (S [])), .d (.i 0)]), (207, .box 123 [.d (.b p), .d (.s (S (nb (m1 * 10 ^ ((if (s2 : Int) > s1 then s2 else s1) - s1).toNat)))), .d (.i (if (s2 : Int) > s1 then s2 else s1))]), (307, .box 123 [.d (.b q), .d (.s (S (nb (m2 * 10 ^ ((if (s2 : Int) > s1 then s2 else s1) - s2).toNat)))), .d (.i (if (s2 : Int) > s1 then s2 else s1))])]⟩) (by kernel_rfl) (conjC ((wider_ok p m1 s1 (if (s2 : Int) > s1 then s2 else s1) (by assumption) (by omega) (by split <;> omega) (by split <;> omega) : SpG g _ _ _ _ _)) (conj1 ((wider_ok q m2 s2 (if (s2 : Int) > s1 then s2 else s1) (by assumption) (by omega) (by split <;> omega) (by split <;> omega) : SpG g _ _ _ _ _)))) (fun hc1 => ?_) (fun hc1 => ?_)
 ·(try simp only [blS] at hc1)
  have hpq : p = q := by simpa using hc1
  refine zR hG [(4, 6, .call (.c (.d (.s (S (nb ((m1 * 10 ^ ((if (s2 : Int) > s1 then s2 else s1) - s1).toNat) + (m2 * 10 ^ ((if (s2 : Int) > s1 then s2 else s1) - s2).toNat))))))) [] [])] [] (.agg [.d (.b p), .d (.s (S (nb ((m1 * 10 ^ ((if (s2 : Int) > s1 then s2 else s1) - s1).toNat) + (m2 * 10 ^ ((if (s2 : Int) > s1 then s2 else s1) - s2).toNat))))), .d (.i (if (s2 : Int) > s1 then s2 else s1))]) [] (by kernel_rfl) (conj1 ((add_ok (m1 * 10 ^ ((if (s2 : Int) > s1 then s2 else s1) - s1).toNat) (m2 * 10 ^ ((if (s2 : Int) > s1 then s2 else s1) - s2).toNat) (by omega) (by omega) : SpG g _ _ _ _ _))) ?_ ?_
  ·simp [plS, plN, hpq, sz_pos, *]
  ·rfl
 ·(try simp only [blS] at hc1)
  have hpq : ¬ p = q := by simpa using hc1
  refine zc hG [(5, 4, .call (.c (.d (.i (Lib.compareInt (((m1 * 10 ^ ((if (s2 : Int) > s1 then s2 else s1) - s1).toNat) : Nat) : Int) (((m2 * 10 ^ ((if (s2 : Int) > s1 then s2 else s1) - s2).toNat) : Nat) : Int))))) [] [])] [1, 0, 1, 1, 1, 1] (decide ((Lib.compareInt (((m1 * 10 ^ ((if (s2 : Int) > s1 then s2 else s1) - s1).toNat) : Nat) : Int) (((m2 * 10 ^ ((if (s2 : Int) > s1 then s2 else s1) - s2).toNat) : Nat) : Int) : Int) < 0)) (by kernel_rfl) (conj1 ((cmpN_ok (m1 * 10 ^ ((if (s2 : Int) > s1 then s2 else s1) - s1).toNat) (m2 * 10 ^ ((if (s2 : Int) > s1 then s2 else s1) - s2).toNat) (by omega) (by omega) : SpG g _ _ _ _ _))) (fun hc2 => ?_) (fun hc2 => ?_)
  ·(try simp only [blS] at hc2)
   have hlt := ci_neg.1 hc2
   refine zR hG [(9, 4, .call (.tup [(false, [.d (.s (S (nb ((m2 * 10 ^ ((if (s2 : Int) > s1 then s2 else s1) - s2).toNat) - (m1 * 10 ^ ((if (s2 : Int) > s1 then s2 else s1) - s1).toNat)))))]), (false, [.d (.b true)])]) [] [])] [] (.agg [.d (.b (q && (decide ((((S (nb ((m2 * 10 ^ ((if (s2 : Int) > s1 then s2 else s1) - s2).toNat) - (m1 * 10 ^ ((if (s2 : Int) > s1 then s2 else s1) - s1).toNat)))).size : Int) : Int) > 0)))), .d (.s (S (nb ((m2 * 10 ^ ((if (s2 : Int) > s1 then s2 else s1) - s2).toNat) - (m1 * 10 ^ ((if (s2 : Int) > s1 then s2 else s1) - s1).toNat))))), .d (.i (if (s2 : Int) > s1 then s2 else s1))]) [] (by kernel_rfl) (conj1 ((sub_ok (m2 * 10 ^ ((if (s2 : Int) > s1 then s2 else s1) - s2).toNat) (m1 * 10 ^ ((if (s2 : Int) > s1 then s2 else s1) - s1).toNat) (by omega) (by omega) (by omega) : SpG g _ _ _ _ _))) ?_ ?_
   ·simp [plS, plN, hpq, sz_pos, *]
   ·rfl
  ·(try simp only [blS] at hc2)
   have hlt := mt ci_neg.2 hc2
   refine zR hG [(9, 4, .call (.tup [(false, [.d (.s (S (nb ((m1 * 10 ^ ((if (s2 : Int) > s1 then s2 else s1) - s1).toNat) - (m2 * 10 ^ ((if (s2 : Int) > s1 then s2 else s1) - s2).toNat)))))]), (false, [.d (.b true)])]) [] [])] [] (.agg [.d (.b (p && (decide ((((S (nb ((m1 * 10 ^ ((if (s2 : Int) > s1 then s2 else s1) - s1).toNat) - (m2 * 10 ^ ((if (s2 : Int) > s1 then s2 else s1) - s2).toNat)))).size : Int) : Int) > 0)))), .d (.s (S (nb ((m1 * 10 ^ ((if (s2 : Int) > s1 then s2 else s1) - s1).toNat) - (m2 * 10 ^ ((if (s2 : Int) > s1 then s2 else s1) - s2).toNat))))), .d (.i (if (s2 : Int) > s1 then s2 else s1))]) [] (by kernel_rfl) (conj1 ((sub_ok (m1 * 10 ^ ((if (s2 : Int) > s1 then s2 else s1) - s1).toNat) (m2 * 10 ^ ((if (s2 : Int) > s1 then s2 else s1) - s2).toNat) (by omega) (by omega) (by omega) : SpG g _ _ _ _ _))) ?_ ?_
   ·simp [plS, plN, hpq, sz_pos, *]
   ·rfl
end Go.Proofs.YtmpgfchkkemngaaGreatDoor
namespace Go.Proofs.YtmpgfchkkemngaaGreatDoor
open Go.RowKit Go.V
open Go.Eng (inR byteAt u8 bytesV)
variable {m : Int}
theorem cmpB_less : ∀ {a b : List UInt8}, Lib.compareBytes a b = if Op.bytesLess a b = true then -1 else if a = b then 0 else 1
 | [], [] => rfl
 | [], _ :: _ => rfl
 | _ :: _, [] => by simp [Lib.compareBytes, Op.bytesLess]
 | x :: a, y :: b => by
  have ih := cmpB_less (a := a) (b := b)
  rw [Lib.compareBytes, ih, Op.bytesLess]
  by_cases h1 : x < y
  ·simp [h1]
  ·by_cases h2 : y < x
   ·have h3 : ¬ x = y := fun e => by subst e; exact h1 h2
    simp [h1, h2, h3]
   ·have h3 : x = y := by
     have a1 : ¬ x.toNat < y.toNat := fun h => h1 (UInt8.lt_iff_toNat_lt.2 h)
     have a2 : ¬ y.toNat < x.toNat := fun h => h2 (UInt8.lt_iff_toNat_lt.2 h)
     exact UInt8.toNat_inj.1 (by omega)
    subst h3
    simp
def rkC (k : Int) (a b : Cl) : Int := if k = 1 then Lib.compareBytes a.s b.s else if k = 2 then decCmp a.dn a.ds b.dn b.ds else a.n - b.n
def rclC (a b : Cl) : Int := if a.kind = b.kind then rkC a.kind a b else a.kind - b.kind
def rlC {α : Type} (f : α → α → Int) : List α → List α → Int
 | x :: a, y :: b => if f x y = 0 then rlC f a b else f x y
 | a, b => (a.length : Int) - b.length
def rtC (a b : Vl) : Int := if rlC Lib.compareBytes a.cols b.cols = 0 then rlC (rlC rclC) a.rows b.rows else rlC Lib.compareBytes a.cols b.cols
def rvC (a b : Vl) : Int := if a.kind = b.kind then (if a.kind = 5 then rtC a b else rkC a.kind a.c b.c) else a.kind - b.kind
def Sg (x y : Int) : Prop := (x < 0 ↔ y < 0) ∧ (x = 0 ↔ y = 0)
theorem Sg.refl (x : Int) : Sg x x := ⟨Iff.rfl, Iff.rfl⟩
theorem sg_sub (x y : Int) : Sg (x - y) (Lib.compareInt x y) := by
 rcases ci_cases x y with ⟨h, h'⟩ | ⟨h, h'⟩ | ⟨h, h'⟩ <;> rw [h'] <;> constructor <;> constructor <;> intro <;> omega
theorem sg_list {α : Type} {f h : α → α → Int} : ∀ {a b : List α}, (∀ x, x ∈ a → ∀ y, y ∈ b → Sg (f x y) (h x y)) → Sg (rlC f a b) (listC h a b)
 | [], [], _ => by simp [rlC, listC]; exact Sg.refl 0
 | [], y :: b, _ => by
  have e : rlC f ([] : List α) (y :: b) = (([] : List α).length : Int) - (y :: b).length := by simp [rlC]
  rw [e, listC]
  constructor <;> simp <;> omega
 | x :: a, [], _ => by
  have e : rlC f (x :: a) ([] : List α) = ((x :: a).length : Int) - ([] : List α).length := by simp [rlC]
  rw [e, listC]
  constructor <;> simp <;> omega
 | x :: a, y :: b, hh => by
  have h1 := hh x (by simp) y (by simp)
  have ih := sg_list (a := a) (b := b) (fun z hz w hw => hh z (by simp [hz]) w (by simp [hw]))
  rw [rlC, listC]
  by_cases h0 : f x y = 0
  ·rw [if_pos h0, if_pos (h1.2.1 h0)]; exact ih
  ·rw [if_neg h0, if_neg (fun e => h0 (h1.2.2 e))]; exact h1
theorem sg_kd (k : Int) (a b : Cl) : Sg (rkC k a b) (kdC k a b) := by
 unfold rkC kdC
 split
 ·exact Sg.refl _
 ·split
  ·exact Sg.refl _
  ·exact sg_sub _ _
theorem sg_cl (a b : Cl) : Sg (rclC a b) (clC a b) := by
 unfold rclC clC
 split
 ·exact sg_kd _ _ _
 ·exact sg_sub _ _
theorem sg_val (a b : Vl) : Sg (rvC a b) (valC a b) := by
 unfold rvC valC
 split
 ·unfold vlK
  split
  ·unfold rtC tbC
   have h1 : Sg (rlC Lib.compareBytes a.cols b.cols) (listC Lib.compareBytes a.cols b.cols) := sg_list fun x _ y _ => Sg.refl _
   by_cases h0 : rlC Lib.compareBytes a.cols b.cols = 0
   ·rw [if_pos h0, if_pos (h1.2.1 h0)]; exact sg_list fun x _ y _ => sg_list fun z _ w _ => sg_cl z w
   ·rw [if_neg h0, if_neg (fun e => h0 (h1.2.2 e))]; exact h1
  ·exact sg_kd _ _ _
 ·exact sg_sub _ _
theorem rlC_step {α : Type} (f : α → α → Int) (z : α) {a b : List α} {k : Nat} (h1 : k < a.length) (h2 : k < b.length) :
  rlC f (a.drop k) (b.drop k) = if f (a.getD k z) (b.getD k z) = 0 then rlC f (a.drop (k + 1)) (b.drop (k + 1)) else f (a.getD k z) (b.getD k z) := by
 rw [List.drop_eq_getElem_cons h1, List.drop_eq_getElem_cons h2]
 simp [rlC, h1, h2]
theorem rlC_end {α : Type} (f : α → α → Int) {a b : List α} {k : Nat} (h : ¬ (k < a.length ∧ k < b.length)) (h1 : k ≤ a.length) (h2 : k ≤ b.length) : rlC f (a.drop k) (b.drop k) = (a.length : Int) - b.length := by
 have e : a.drop k = [] ∨ b.drop k = [] := by
  by_cases h3 : k < a.length
  ·right; exact List.drop_eq_nil_of_le (by omega)
  ·left; exact List.drop_eq_nil_of_le (by omega)
 have : rlC f (a.drop k) (b.drop k) = ((a.drop k).length : Int) - (b.drop k).length := by
  cases h4 : a.drop k with
  | nil => cases b.drop k <;> simp [rlC]
  | cons x t =>
   rcases e with e | e
   ·rw [h4] at e; cases e
   ·rw [e]; simp [rlC]
 rw [this, List.length_drop, List.length_drop]; omega
theorem ci_mul {a b p : Int} (hp : 0 < p) : Lib.compareInt (a * p) (b * p) = Lib.compareInt a b := by
 have h1 : a * p < b * p ↔ a < b := Int.mul_lt_mul_right hp
 have h2 : b * p < a * p ↔ b < a := Int.mul_lt_mul_right hp
 rcases ci_cases (a * p) (b * p) with ⟨h, h'⟩ | ⟨h, h'⟩ | ⟨h, h'⟩ <;> rcases ci_cases a b with ⟨j, j'⟩ | ⟨j, j'⟩ | ⟨j, j'⟩ <;> rw [h', j'] <;> first | rfl | (exfalso; omega)
theorem decV_pow {n s : Int} (h0 : 0 ≤ s) (h1 : s ≤ 6) : decV n s = n * 10 ^ (6 - s).toNat := by
 have hs : s = 0 ∨ s = 1 ∨ s = 2 ∨ s = 3 ∨ s = 4 ∨ s = 5 ∨ s = 6 := by omega
 rcases hs with rfl | rfl | rfl | rfl | rfl | rfl | rfl <;> rfl
theorem sgn_abs (a : Int) (k : Nat) : (if decide (a < 0) = true then -((a.natAbs * 10 ^ k : Nat) : Int) else ((a.natAbs * 10 ^ k : Nat) : Int)) = a * 10 ^ k := by
 rw [Int.natCast_mul, Int.natCast_pow, show (((10 : Nat) : Int)) = 10 from rfl]
 by_cases h : a < 0
 ·rw [if_pos (by simpa using h), show ((a.natAbs : Nat) : Int) = -a by omega, Int.neg_mul, Int.neg_neg]
 ·rw [if_neg (by simpa using h), show ((a.natAbs : Nat) : Int) = a by omega]
theorem pl_sign {p q : Bool} {x y : Nat} : (plN p q x y = 0 ↔ (if p = true then -(x : Int) else x) + (if q = true then -(y : Int) else y) = 0) ∧ (plN p q x y ≠ 0 → (plS p q x y = true ↔ (if p = true then -(x : Int) else x) + (if q = true then -(y : Int) else y) < 0)) := by
 cases p <;> cases q <;> simp only [plN, plS, if_true, if_false, Bool.false_eq_true, reduceCtorEq]
 ·exact ⟨by omega, fun h => ⟨fun hf => by simp at hf, fun hl => by omega⟩⟩
 ·by_cases h : x < y
  ·simp only [h, if_true, Bool.true_and, decide_eq_true_eq]; exact ⟨by omega, fun _ => by omega⟩
  ·simp only [h, if_false, Bool.false_and, Bool.false_eq_true, false_iff]; exact ⟨by omega, fun _ => by omega⟩
 ·by_cases h : x < y
  ·simp only [h, if_true, Bool.false_and, Bool.false_eq_true, false_iff]; exact ⟨by omega, fun _ => by omega⟩
  ·simp only [h, if_false, Bool.true_and, decide_eq_true_eq]; exact ⟨by omega, fun _ => by omega⟩
 ·exact ⟨by omega, fun h => ⟨fun _ => by omega, fun _ => by trivial⟩⟩
def mxS (s t : Int) : Int := if t > s then t else s
def rdX (a b d : Int) : Nat := a.natAbs * 10 ^ (mxS b d - b).toNat
def rdY (b c d : Int) : Nat := c.natAbs * 10 ^ (mxS b d - d).toNat
theorem refdec_eq {a b c d : Int} (h1 : decB a b = true) (h2 : decB c d = true) :
  decCmp a b c d = if plN (decide (a < 0)) (!decide (c < 0)) (rdX a b d) (rdY b c d) = 0 then 0 else if plS (decide (a < 0)) (!decide (c < 0)) (rdX a b d) (rdY b c d) = true then -1 else 1 := by
 rw [decCmp_eq h1 h2]
 obtain ⟨x1, x2, x3, x4, _⟩ := decB_bd h1
 obtain ⟨y1, y2, y3, y4, _⟩ := decB_bd h2
 have t1 : b ≤ mxS b d := by unfold mxS; split <;> omega
 have t2 : d ≤ mxS b d := by unfold mxS; split <;> omega
 have t3 : mxS b d ≤ 6 := by unfold mxS; split <;> omega
 have hA := sgn_abs a (mxS b d - b).toNat
 have hC := sgn_abs c (mxS b d - d).toNat
 have eA : decV a b = a * 10 ^ (mxS b d - b).toNat * 10 ^ (6 - mxS b d).toNat := by
  rw [decV_pow x1 x2, Int.mul_assoc, ← Int.pow_add]; congr 2; omega
 have eC : decV c d = c * 10 ^ (mxS b d - d).toNat * 10 ^ (6 - mxS b d).toNat := by
  rw [decV_pow y1 y2, Int.mul_assoc, ← Int.pow_add]; congr 2; omega
 rw [eA, eC, ci_mul (Int.pow_pos (by decide))]
 obtain ⟨p1, p2⟩ := pl_sign (p := decide (a < 0)) (q := !decide (c < 0)) (x := rdX a b d) (y := rdY b c d)
 have hX : (if decide (a < 0) = true then -((rdX a b d : Nat) : Int) else ((rdX a b d : Nat) : Int)) = a * 10 ^ (mxS b d - b).toNat := hA
 have hY : (if (!decide (c < 0)) = true then -((rdY b c d : Nat) : Int) else ((rdY b c d : Nat) : Int)) = -(c * 10 ^ (mxS b d - d).toNat) := by
  rw [← hC]
  unfold rdY
  cases decide (c < 0) <;> simp
 rw [hX, hY] at p1 p2
 generalize a * 10 ^ (mxS b d - b).toNat = A at *
 generalize c * 10 ^ (mxS b d - d).toNat = C at *
 by_cases h0 : plN (decide (a < 0)) (!decide (c < 0)) (rdX a b d) (rdY b c d) = 0
 ·rw [if_pos h0]
  have := p1.1 h0
  rcases ci_cases A C with ⟨h, h'⟩ | ⟨h, h'⟩ | ⟨h, h'⟩ <;> omega
 ·rw [if_neg h0]
  have h3 := p2 h0
  have h4 : ¬ A + -C = 0 := fun e => h0 (p1.2 e)
  by_cases h5 : plS (decide (a < 0)) (!decide (c < 0)) (rdX a b d) (rdY b c d) = true
  ·rw [if_pos h5]
   have := h3.1 h5
   rcases ci_cases A C with ⟨h, h'⟩ | ⟨h, h'⟩ | ⟨h, h'⟩ <;> omega
  ·rw [if_neg h5]
   have : ¬ A + -C < 0 := fun e => h5 (h3.2 e)
   rcases ci_cases A C with ⟨h, h'⟩ | ⟨h, h'⟩ | ⟨h, h'⟩ <;> omega
structure Cl.ordr (c : Cl) : Prop where
 k0 : 0 ≤ c.kind
 k4 : c.kind ≤ 4
 d : c.kind = 2 → decB c.dn c.ds = true
 n0 : 0 ≤ c.n
 n1 : c.n ≤ 3652058
theorem n_bd {T : Bool} {v : Vl} (h : rightK T v = true) : 0 ≤ v.n ∧ v.n ≤ 3652058 := by
 unfold rightK bareB at h
 obtain ⟨k, s, dn, ds, n, cols, rows⟩ := v
 by_cases h0 : k = 0
 ·subst h0; simp at h; simp; omega
 ·by_cases h1 : k = 1
  ·subst h1; simp at h; simp; omega
  ·by_cases h2 : k = 2
   ·subst h2; simp at h; simp; omega
   ·by_cases h3 : k = 3
    ·subst h3; simp at h; simp; omega
    ·by_cases h4 : k = 4
     ·subst h4; simp at h; simp; omega
     ·by_cases h5 : k = 5
      ·subst h5; simp at h; simp; omega
      ·simp [h0, h1, h2, h3, h4, h5] at h
theorem fine_ordr {c : Cl} (h : c.fine) : c.ordr := by
 have h1 := cell_ord h.1 h.2
 have h2 := n_bd h.2
 exact ⟨h1.k0, h1.k4, h1.d, h2.1, h2.2⟩
theorem table_lens {cols : List (List UInt8)} {rows : List (List Cl)} (h : tableB cols rows = true) : cols.length ≤ 8 ∧ rows.length ≤ 100 ∧ ∀ r, r ∈ rows → r.length ≤ 8 ∧ ∀ c, c ∈ r → c.ordr := by
 have hf := table_fine h
 have h' := h
 simp only [tableB, Bool.and_eq_true, decide_eq_true_eq] at h
 refine ⟨h.1.1.1, h.1.1.2, fun r hr => ⟨?_, fun c hc => fine_ordr (hf r hr c hc)⟩⟩
 obtain ⟨i, hi, rfl⟩ := List.mem_iff_getElem.1 hr
 have h1 := allR_get h.2 hi
 simp only [rowAt, Bool.and_eq_true, decide_eq_true_eq, getD_at hi] at h1
 omega
theorem refBytes_ok (a b : List UInt8) :
  SpG (gT m) 108 [.c (.d (.s (S a))), .c (.d (.s (S b)))] [] (.c (.d (.i (Lib.compareBytes a b)))) [] := by
 refine enterB 11 Tryz.func108 (by kernel_rfl) fun fr hG => ?_
 refine zC hG [] [1, 0, 1] (Op.bytesLess (S a).toList (S b).toList) (⟨[(0, [], .c (.d (.s (S a)))), (1, [], .c (.d (.s (S b)))), (4, [], .c (.d (.i 0)))], []⟩) (by kernel_rfl) conj0 (fun hc1 => ?_) (fun hc1 => ?_)
 ·(try simp only [blS] at hc1)
  refine zR hG [] [] (.c (.d (.i (-1)))) [] (by kernel_rfl) conj0 ?_ ?_
  ·rw [toList_S, toList_S] at hc1; rw [cmpB_less, if_pos hc1]
  ·rfl
 ·(try simp only [blS] at hc1)
  refine zC hG [] [1, 0, 1, 1] (!(Op.bytesLess (S a).toList (S b).toList || ((S a).toList == (S b).toList))) (⟨[(4, [], .c (.d (.i 0)))], []⟩) (by kernel_rfl) conj0 (fun hc2 => ?_) (fun hc2 => ?_)
  ·(try simp only [blS] at hc2)
   refine zR hG [] [] (.c (.d (.i 1))) [] (by kernel_rfl) conj0 ?_ ?_
   ·simp only [toList_S] at hc2 hc1
    have hne : ¬ a = b := by have := hc2.2; simpa using this
    rw [cmpB_less, if_neg (by simp [hc1]), if_neg hne]
   ·rfl
  ·(try simp only [blS] at hc2)
   refine zR hG [] [] (.c (.d (.i 0))) [] (by kernel_rfl) conj0 ?_ ?_
   ·simp only [toList_S] at hc2 hc1
    have he : a = b := by
     rcases hc2 with h | h
     ·rw [h] at hc1; cases hc1
     ·simpa using h
    rw [cmpB_less, if_neg (by simp [hc1]), if_pos he]
   ·rfl
theorem refCmp_ok (a b c d : Int) (h1 : decB a b = true) (h2 : decB c d = true) :
  SpG (gT m) 109 [.agg [.d (.i a), .d (.i b)], .agg [.d (.i c), .d (.i d)]] [] (.c (.d (.i (decCmp a b c d)))) [] := by
 have k1 := decB_bd h1
 have k2 := decB_bd h2
 refine enterB 25 Tryz.func109 (by kernel_rfl) fun fr hG => ?_
 refine zC hG [(1, 1, .call (.agg [.d (.b (decide (a < 0))), .d (.s (S (nb a.natAbs))), .d (.i b)]) [] []), (2, 1, .call (.agg [.d (.b (decide (c < 0))), .d (.s (S (nb c.natAbs))), .d (.i d)]) [] []), (4, 2, .call (.agg [.d (.b (plS (decide (a < 0)) (!(decide (c < 0))) (rdX a b d) (rdY b c d))), .d (.s (S (nb (plN (decide (a < 0)) (!(decide (c < 0))) (rdX a b d) (rdY b c d))))), .d (.i (mxS b d))]) [] [])] [1, 0, 1, 1, 1, 1, 1] (decide ((((S (nb (plN (decide (a < 0)) (!(decide (c < 0))) (rdX a b d) (rdY b c d)))).size : Int) : Int) = 0)) (⟨[(4, [], .c (.d (.i 0))), (7, [], .c (.bx 503 0))], [(503, .box 123 [.d (.b (plS (decide (a < 0)) (!(decide (c < 0))) (rdX a b d) (rdY b c d))), .d (.s (S (nb (plN (decide (a < 0)) (!(decide (c < 0))) (rdX a b d) (rdY b c d))))), .d (.i (mxS b d))])]⟩) (by kernel_rfl) (conjC ((big_ok a b (by assumption) : SpG (gT m) _ _ _ _ _)) (conjC ((big_ok c d (by assumption) : SpG (gT m) _ _ _ _ _)) (conj1 ((plus_ok (decide (a < 0)) (!(decide (c < 0))) a.natAbs c.natAbs b d (by omega) (by omega) (by omega) (by omega) (by omega) (by omega) : SpG (gT m) _ _ _ _ _))))) (fun hc1 => ?_) (fun hc1 => ?_)
 ·(try simp only [zq3] at hc1)
  refine zR hG [] [] (.c (.d (.i 0))) [] (by kernel_rfl) conj0 ?_ ?_
  ·rw [refdec_eq h1 h2, if_pos ((nb_len_zero _).1 (by omega))]
  ·rfl
 ·(try simp only [zq3] at hc1)
  refine zC hG [] [1, 0, 1, 1, 1, 1, 1, 1] (plS (decide (a < 0)) (!(decide (c < 0))) (rdX a b d) (rdY b c d)) (⟨[(4, [], .c (.d (.i 0)))], []⟩) (by kernel_rfl) conj0 (fun hc2 => ?_) (fun hc2 => ?_)
  ·(try simp only [zq3] at hc2)
   refine zR hG [] [] (.c (.d (.i (-1)))) [] (by kernel_rfl) conj0 ?_ ?_
   ·rw [refdec_eq h1 h2, if_neg (fun e => hc1 (by rw [e, nb_zero]; rfl)), if_pos hc2]
   ·rfl
  ·(try simp only [zq3] at hc2)
   refine zR hG [] [] (.c (.d (.i 1))) [] (by kernel_rfl) conj0 ?_ ?_
   ·rw [refdec_eq h1 h2, if_neg (fun e => hc1 (by rw [e, nb_zero]; rfl)), if_neg (by simp [hc2])]
   ·rfl
theorem rcl_ok (x y : Cl) (hx : x.ordr) (hy : y.ordr) :
  SpG (gT m) 66 [.agg [.d (.i ((x).kind)), .d (.s (S (x).s)), .d (.i ((x).dn)), .d (.i ((x).ds)), .d (.i ((x).n)), .d (.sl 1 ([])), .d (.sl 1 ([]))], .agg [.d (.i ((y).kind)), .d (.s (S (y).s)), .d (.i ((y).dn)), .d (.i ((y).ds)), .d (.i ((y).n)), .d (.sl 1 ([])), .d (.sl 1 ([]))]] [] (.c (.d (.i (rclC x y)))) [] := by
 have a1 := hx.k0; have a2 := hx.k4; have a3 := hy.k0; have a4 := hy.k4; have a5 := hx.n0; have a6 := hx.n1; have a7 := hy.n0; have a8 := hy.n1
 refine enterB 119 Tryz.func66 (by kernel_rfl) fun fr hG => ?_
 refine zC hG [] [1, 0, 1] (!decide (((x).kind : Int) = ((y).kind))) (⟨[(2, [], .c (.bx 100 0)), (3, [], .c (.bx 101 0)), (4, [], .c (.d (.i 0)))], [(100, .box 30 [.d (.i ((x).kind)), .d (.s (S (x).s)), .d (.i ((x).dn)), .d (.i ((x).ds)), .d (.i ((x).n)), .d (.sl 1 ([])), .d (.sl 1 ([]))]), (101, .box 30 [.d (.i ((y).kind)), .d (.s (S (y).s)), .d (.i ((y).dn)), .d (.i ((y).ds)), .d (.i ((y).n)), .d (.sl 1 ([])), .d (.sl 1 ([]))])]⟩) (by kernel_rfl) conj0 (fun hc1 => ?_) (fun hc1 => ?_)
 ·(try simp only [blS] at hc1)
  refine zR hG [] [] (.c (.d (.i (((x).kind) - ((y).kind))))) [] (by kernel_rfl) (conj1 (show inR (((x).kind) - ((y).kind)) from (by intros; first | decide | omega | (unfold inR; omega)))) ?_ ?_
  ·rw [rclC, if_neg (by simpa using hc1)]
  ·rfl
 ·(try simp only [blS] at hc1)
  refine zC hG [] [1, 0, 1, 0, 1, 1] (decide (((x).kind : Int) = 1)) (⟨[(2, [], .c (.bx 100 0)), (3, [], .c (.bx 101 0)), (4, [], .c (.d (.i 0))), (20, [], .c (.d (.i ((x).kind))))], [(100, .box 30 [.d (.i ((x).kind)), .d (.s (S (x).s)), .d (.i ((x).dn)), .d (.i ((x).ds)), .d (.i ((x).n)), .d (.sl 1 ([])), .d (.sl 1 ([]))]), (101, .box 30 [.d (.i ((y).kind)), .d (.s (S (y).s)), .d (.i ((y).dn)), .d (.i ((y).ds)), .d (.i ((y).n)), .d (.sl 1 ([])), .d (.sl 1 ([]))])]⟩) (by kernel_rfl) conj0 (fun hc2 => ?_) (fun hc2 => ?_)
  ·(try simp only [blS] at hc2)
   refine zR hG [(5, 4, .call (.c (.d (.i (Lib.compareBytes ((x).s) ((y).s))))) [] [])] [] (.c (.d (.i (Lib.compareBytes ((x).s) ((y).s))))) [] (by kernel_rfl) (conj1 ((refBytes_ok ((x).s) ((y).s) : SpG (gT m) _ _ _ _ _))) ?_ ?_
   ·rw [rclC, if_pos (by omega), rkC, if_pos hc2]
   ·rfl
  ·(try simp only [blS] at hc2)
   refine zc hG [] [1, 1, 1, 0, 1, 0, 1, 1] (decide (((x).kind : Int) = 2)) (by kernel_rfl) conj0 (fun hc3 => ?_) (fun hc3 => ?_)
   ·(try simp only [blS] at hc3)
    refine zR hG [(7, 4, .call (.c (.d (.i (decCmp x.dn x.ds y.dn y.ds)))) [] [])] [] (.c (.d (.i (decCmp x.dn x.ds y.dn y.ds)))) [] (by kernel_rfl) (conj1 ((refCmp_ok x.dn x.ds y.dn y.ds (hx.d (by omega)) (hy.d (by omega)) : SpG (gT m) _ _ _ _ _))) ?_ ?_
    ·rw [rclC, if_pos (by omega), rkC, if_neg (by omega), if_pos hc3]
    ·rfl
   ·(try simp only [blS] at hc3)
    refine zC hG [] [1, 1, 1, 1, 1, 0, 1, 0, 1, 1] (decide (((x).kind : Int) = 5)) (⟨[(2, [], .c (.bx 100 0)), (3, [], .c (.bx 101 0)), (4, [], .c (.d (.i 0)))], [(100, .box 30 [.d (.i ((x).kind)), .d (.s (S (x).s)), .d (.i ((x).dn)), .d (.i ((x).ds)), .d (.i ((x).n)), .d (.sl 1 ([])), .d (.sl 1 ([]))]), (101, .box 30 [.d (.i ((y).kind)), .d (.s (S (y).s)), .d (.i ((y).dn)), .d (.i ((y).ds)), .d (.i ((y).n)), .d (.sl 1 ([])), .d (.sl 1 ([]))])]⟩) (by kernel_rfl) conj0 (fun hc4 => ?_) (fun hc4 => ?_)
    ·(try simp only [blS] at hc4)
     exfalso; omega
    ·(try simp only [blS] at hc4)
     refine zR hG [] [] (.c (.d (.i (((x).n) - ((y).n))))) [] (by kernel_rfl) (conj1 (show inR (((x).n) - ((y).n)) from (by intros; first | decide | omega | (unfold inR; omega)))) ?_ ?_
     ·rw [rclC, if_pos (by omega), rkC, if_neg (by omega), if_neg (by omega)]
     ·rfl
def zq26 := And.intro @List.length_map.{0, 0} (And.intro @decide_eq_true_eq (And.intro @inR.eq_1 (And.intro @maxLen.eq_1 (And.intro @rowD.eq_1 (And.intro @rowsD.eq_1 (@strs.eq_1))))))
theorem rcells_ok (a b : List Cl) (ha : ∀ c, c ∈ a → c.ordr) (hb : ∀ c, c ∈ b → c.ordr) :
  SpG (gT m) 110 [.c (.d (.sl 7 (rowD a))), .c (.d (.sl 7 (rowD b)))] [] (.c (.d (.i (rlC rclC a b)))) [] := by
 refine enterB 36 Tryz.func110 (by kernel_rfl) fun fr hG => ?_
 refine stepLen 0 rfl fun hl0 => ?_
 refine stepLen 1 rfl fun hl1 => ?_
 refine zL hG [] [0, 1, 0, 1] (fun (zz : Nat) => match zz with | k => (a.length - k, ⟨[(0, [], .c (.d (.sl 7 (rowD a)))), (1, [], .c (.d (.sl 7 (rowD b)))), (4, [], .c (.d (.i 0))), (5, [], .c (.d (.i (k : Int))))], []⟩, k ≤ a.length ∧ k ≤ b.length ∧ rlC rclC a b = rlC rclC (a.drop k) (b.drop k))) 0 (by kernel_rfl) conj0 (by kernel_rfl) ?_ ?_
 ·exact ⟨Nat.zero_le _, Nat.zero_le _, rfl⟩
 rintro k ⟨hk1, hk2, hl⟩
 refine zc hG [] [1, 0] ((decide (((k : Int) : Int) < ((rowD a).length : Int))) && (decide (((k : Int) : Int) < ((rowD b).length : Int)))) (by kernel_rfl) conj0 (fun hc2 => ?_) (fun hc2 => ?_)
 ·(try simp only [zq4] at hc2)
  refine zC hG [(4, 2, .elem (ClD ((a).getD k Cl.z))), (4, 6, .elem (ClD ((b).getD k Cl.z))), (4, 8, .call (.c (.d (.i (rclC ((a).getD k Cl.z) ((b).getD k Cl.z))))) [] [])] [1, 1, 0, 0, 1] (!decide ((rclC ((a).getD k Cl.z) ((b).getD k Cl.z) : Int) = 0)) (⟨[(0, [], .c (.d (.sl 7 (rowD a)))), (1, [], .c (.d (.sl 7 (rowD b)))), (4, [], .c (.d (.i 0))), (5, [], .c (.d (.i (k : Int)))), (6, [], .c (.d (.i (rclC ((a).getD k Cl.z) ((b).getD k Cl.z)))))], []⟩) (by kernel_rfl) (conjC (show (0 : Int) ≤ (k : Int) ∧ (rowD a)[k]? = some (ClD ((a).getD k Cl.z)) from (by intros; exact map_at _ (by omega) (by (try simp only [zq7] at *); omega))) (conjC (show (0 : Int) ≤ (k : Int) ∧ (rowD b)[k]? = some (ClD ((b).getD k Cl.z)) from (by intros; exact map_at _ (by omega) (by (try simp only [zq7] at *); omega))) (conj1 ((rcl_ok ((a).getD k Cl.z) ((b).getD k Cl.z) (ha _ (getD_mem (by omega))) (hb _ (getD_mem (by omega))) : SpG (gT m) _ _ _ _ _))))) (fun hc3 => ?_) (fun hc3 => ?_)
  ·(try simp only [zq4] at hc3)
   refine zE hG [] .ret (⟨[(0, [], .c (.d (.sl 7 (rowD a)))), (1, [], .c (.d (.sl 7 (rowD b)))), (4, [], .c (.d (.i (rclC ((a).getD k Cl.z) ((b).getD k Cl.z)))))], []⟩) (by kernel_rfl) conj0 rfl ?_
   refine zR hG [] [] (.c (.d (.i (rclC ((a).getD k Cl.z) ((b).getD k Cl.z))))) [] (by kernel_rfl) conj0 ?_ ?_
   ·rw [hl, rlC_step _ Cl.z (by omega) (by omega), if_neg hc3]
   ·rfl
  ·(try simp only [zq4] at hc3)
   refine zD hG [] (k + 1) (by kernel_rfl) (conj1 (show inR ((k : Int) + 1) from (by intros; (try simp only [zq26] at *); omega))) ?_ ?_
   ·(try dsimp only); omega
   ·refine ⟨by omega, by omega, ?_⟩
    rw [hl, rlC_step _ Cl.z (by omega) (by omega), if_pos (by omega)]
 ·(try simp only [zq4] at hc2)
  refine zE hG [] (.exit 0) (⟨[(0, [], .c (.d (.sl 7 (rowD a)))), (1, [], .c (.d (.sl 7 (rowD b)))), (4, [], .c (.d (.i 0)))], []⟩) (by kernel_rfl) conj0 rfl ?_
  refine zR hG [] [] (.c (.d (.i (((rowD a).length : Int) - ((rowD b).length : Int))))) [] (by kernel_rfl) (conj1 (show inR (((rowD a).length : Int) - ((rowD b).length : Int)) from (by intros; (try simp only [zq26] at *); omega))) ?_ ?_
  ·rw [hl, rlC_end _ (by omega) hk1 hk2]; simp [rowD]
  ·rfl
theorem rvl_ok (a b : Vl) (ha : rightB a = true) (hb : rightB b = true) :
  SpG (gT m) 66 [.agg [.d (.i a.kind), .d (.s (S a.s)), .d (.i a.dn), .d (.i a.ds), .d (.i a.n), .d (.sl 1 (strs a.cols)), .d (.sl 1 (rowsD a.rows))], .agg [.d (.i b.kind), .d (.s (S b.s)), .d (.i b.dn), .d (.i b.ds), .d (.i b.n), .d (.sl 1 (strs b.cols)), .d (.sl 1 (rowsD b.rows))]] [] (.c (.d (.i (rvC a b)))) [] := by
 have a1 := ord_of ha
 have a2 := ord_of hb
 have a3 := n_bd ha
 have a4 := n_bd hb
 refine enterB 119 Tryz.func66 (by kernel_rfl) fun fr hG => ?_
 refine zC hG [] [1, 0, 1] (!decide ((a.kind : Int) = b.kind)) (⟨[(2, [], .c (.bx 100 0)), (3, [], .c (.bx 101 0)), (4, [], .c (.d (.i 0)))], [(100, .box 30 [.d (.i a.kind), .d (.s (S a.s)), .d (.i a.dn), .d (.i a.ds), .d (.i a.n), .d (.sl 1 (strs a.cols)), .d (.sl 1 (rowsD a.rows))]), (101, .box 30 [.d (.i b.kind), .d (.s (S b.s)), .d (.i b.dn), .d (.i b.ds), .d (.i b.n), .d (.sl 1 (strs b.cols)), .d (.sl 1 (rowsD b.rows))])]⟩) (by kernel_rfl) conj0 (fun hc1 => ?_) (fun hc1 => ?_)
 ·(try simp only [zq4] at hc1)
  refine zR hG [] [] (.c (.d (.i (a.kind - b.kind)))) [] (by kernel_rfl) (conj1 (show inR (a.kind - b.kind) from (by intros; first | decide | omega | ((try simp only [zq26] at *); omega)))) ?_ ?_
  ·rw [rvC, if_neg (by simpa using hc1)]
  ·rfl
 ·(try simp only [zq4] at hc1)
  refine zC hG [] [1, 0, 1, 0, 1, 1] (decide ((a.kind : Int) = 1)) (⟨[(2, [], .c (.bx 100 0)), (3, [], .c (.bx 101 0)), (4, [], .c (.d (.i 0))), (20, [], .c (.d (.i a.kind)))], [(100, .box 30 [.d (.i a.kind), .d (.s (S a.s)), .d (.i a.dn), .d (.i a.ds), .d (.i a.n), .d (.sl 1 (strs a.cols)), .d (.sl 1 (rowsD a.rows))]), (101, .box 30 [.d (.i b.kind), .d (.s (S b.s)), .d (.i b.dn), .d (.i b.ds), .d (.i b.n), .d (.sl 1 (strs b.cols)), .d (.sl 1 (rowsD b.rows))])]⟩) (by kernel_rfl) conj0 (fun hc2 => ?_) (fun hc2 => ?_)
  ·(try simp only [zq4] at hc2)
   refine zR hG [(5, 4, .call (.c (.d (.i (Lib.compareBytes (a.s) (b.s))))) [] [])] [] (.c (.d (.i (Lib.compareBytes (a.s) (b.s))))) [] (by kernel_rfl) (conj1 ((refBytes_ok (a.s) (b.s) : SpG (gT m) _ _ _ _ _))) ?_ ?_
   ·rw [rvC, if_pos (by omega), if_neg (by omega), rkC, if_pos hc2]; rfl
   ·rfl
  ·(try simp only [zq4] at hc2)
   refine zc hG [] [1, 1, 1, 0, 1, 0, 1, 1] (decide ((a.kind : Int) = 2)) (by kernel_rfl) conj0 (fun hc3 => ?_) (fun hc3 => ?_)
   ·(try simp only [zq4] at hc3)
    refine zR hG [(7, 4, .call (.c (.d (.i (decCmp a.dn a.ds b.dn b.ds)))) [] [])] [] (.c (.d (.i (decCmp a.dn a.ds b.dn b.ds)))) [] (by kernel_rfl) (conj1 ((refCmp_ok a.dn a.ds b.dn b.ds ((ord_of ha).2.2.1 (by omega)) ((ord_of hb).2.2.1 (by omega)) : SpG (gT m) _ _ _ _ _))) ?_ ?_
    ·rw [rvC, if_pos (by omega), if_neg (by omega), rkC, if_neg (by omega), if_pos hc3]; rfl
    ·rfl
   ·(try simp only [zq4] at hc3)
    refine zC hG [] [1, 1, 1, 1, 1, 0, 1, 0, 1, 1] (decide ((a.kind : Int) = 5)) (⟨[(2, [], .c (.bx 100 0)), (3, [], .c (.bx 101 0)), (4, [], .c (.d (.i 0)))], [(100, .box 30 [.d (.i a.kind), .d (.s (S a.s)), .d (.i a.dn), .d (.i a.ds), .d (.i a.n), .d (.sl 1 (strs a.cols)), .d (.sl 1 (rowsD a.rows))]), (101, .box 30 [.d (.i b.kind), .d (.s (S b.s)), .d (.i b.dn), .d (.i b.ds), .d (.i b.n), .d (.sl 1 (strs b.cols)), .d (.sl 1 (rowsD b.rows))])]⟩) (by kernel_rfl) conj0 (fun hc4 => ?_) (fun hc4 => ?_)
    ·(try simp only [zq4] at hc4)
     obtain ⟨hca, hna, hra⟩ := table_lens ((ord_of ha).2.2.2 (by omega))
     obtain ⟨hcb, hnb, hrb⟩ := table_lens ((ord_of hb).2.2.2 (by omega))
     refine zL hG [] [0, 1, 0, 0, 1, 1, 1, 1, 1, 0, 1, 0, 1, 1] (fun (zz : Nat) => match zz with | k => (a.cols.length - k, ⟨[(2, [], .c (.bx 100 0)), (3, [], .c (.bx 101 0)), (4, [], .c (.d (.i 0))), (5, [], .c (.d (.i (k : Int))))], [(100, .box 30 [.d (.i a.kind), .d (.s (S a.s)), .d (.i a.dn), .d (.i a.ds), .d (.i a.n), .d (.sl 1 (strs a.cols)), .d (.sl 1 (rowsD a.rows))]), (101, .box 30 [.d (.i b.kind), .d (.s (S b.s)), .d (.i b.dn), .d (.i b.ds), .d (.i b.n), .d (.sl 1 (strs b.cols)), .d (.sl 1 (rowsD b.rows))])]⟩, k ≤ a.cols.length ∧ k ≤ b.cols.length ∧ rlC Lib.compareBytes a.cols b.cols = rlC Lib.compareBytes (a.cols.drop k) (b.cols.drop k))) 0 (by kernel_rfl) conj0 (by kernel_rfl) ?_ ?_
     ·exact ⟨Nat.zero_le _, Nat.zero_le _, rfl⟩
     rintro k ⟨hk1, hk2, hl⟩
     refine zc hG [] [1, 0] ((decide (((k : Int) : Int) < ((strs a.cols).length : Int))) && (decide (((k : Int) : Int) < ((strs b.cols).length : Int)))) (by kernel_rfl) conj0 (fun hc6 => ?_) (fun hc6 => ?_)
     ·(try simp only [zq4] at hc6)
      refine zC hG [(12, 3, .elem (strD ((a.cols).getD k []))), (12, 8, .elem (strD ((b.cols).getD k []))), (12, 10, .call (.c (.d (.i (Lib.compareBytes ((a.cols).getD k []) ((b.cols).getD k []))))) [] [])] [1, 1, 0, 0, 1] (!decide ((Lib.compareBytes ((a.cols).getD k []) ((b.cols).getD k []) : Int) = 0)) (⟨[(2, [], .c (.bx 100 0)), (3, [], .c (.bx 101 0)), (4, [], .c (.d (.i 0))), (5, [], .c (.d (.i (k : Int)))), (6, [], .c (.d (.i (Lib.compareBytes ((a.cols).getD k []) ((b.cols).getD k [])))))], [(100, .box 30 [.d (.i a.kind), .d (.s (S a.s)), .d (.i a.dn), .d (.i a.ds), .d (.i a.n), .d (.sl 1 (strs a.cols)), .d (.sl 1 (rowsD a.rows))]), (101, .box 30 [.d (.i b.kind), .d (.s (S b.s)), .d (.i b.dn), .d (.i b.ds), .d (.i b.n), .d (.sl 1 (strs b.cols)), .d (.sl 1 (rowsD b.rows))])]⟩) (by kernel_rfl) (conjC (show (0 : Int) ≤ (k : Int) ∧ (strs a.cols)[k]? = some (strD ((a.cols).getD k [])) from (by intros; exact map_at [] (by omega) (by (try simp only [zq5] at *); omega))) (conjC (show (0 : Int) ≤ (k : Int) ∧ (strs b.cols)[k]? = some (strD ((b.cols).getD k [])) from (by intros; exact map_at [] (by omega) (by (try simp only [zq5] at *); omega))) (conj1 ((refBytes_ok ((a.cols).getD k []) ((b.cols).getD k []) : SpG (gT m) _ _ _ _ _))))) (fun hc7 => ?_) (fun hc7 => ?_)
      ·(try simp only [zq4] at hc7)
       refine zE hG [] .ret (⟨[(2, [], .c (.bx 100 0)), (3, [], .c (.bx 101 0)), (4, [], .c (.d (.i (Lib.compareBytes ((a.cols).getD k []) ((b.cols).getD k [])))))], [(100, .box 30 [.d (.i a.kind), .d (.s (S a.s)), .d (.i a.dn), .d (.i a.ds), .d (.i a.n), .d (.sl 1 (strs a.cols)), .d (.sl 1 (rowsD a.rows))]), (101, .box 30 [.d (.i b.kind), .d (.s (S b.s)), .d (.i b.dn), .d (.i b.ds), .d (.i b.n), .d (.sl 1 (strs b.cols)), .d (.sl 1 (rowsD b.rows))])]⟩) (by kernel_rfl) conj0 rfl ?_
       refine zR hG [] [] (.c (.d (.i (Lib.compareBytes ((a.cols).getD k []) ((b.cols).getD k []))))) [] (by kernel_rfl) conj0 ?_ ?_
       ·have e : rlC Lib.compareBytes a.cols b.cols = Lib.compareBytes (a.cols.getD k []) (b.cols.getD k []) := by rw [hl, rlC_step _ [] (by omega) (by omega), if_neg hc7]
        rw [rvC, if_pos (by omega), if_pos (by omega), rtC, e, if_neg hc7]
       ·rfl
      ·(try simp only [zq4] at hc7)
       refine zD hG [] (k + 1) (by kernel_rfl) (conj1 (show inR ((k : Int) + 1) from (by intros; first | decide | omega | ((try simp only [zq26] at *); omega)))) ?_ ?_
       ·(try dsimp only); omega
       ·refine ⟨by omega, by omega, ?_⟩
        rw [hl, rlC_step _ [] (by omega) (by omega), if_pos (by omega)]
     ·(try simp only [zq4] at hc6)
      refine zE hG [] (.exit 1) (⟨[(2, [], .c (.bx 100 0)), (3, [], .c (.bx 101 0)), (4, [], .c (.d (.i 0)))], [(100, .box 30 [.d (.i a.kind), .d (.s (S a.s)), .d (.i a.dn), .d (.i a.ds), .d (.i a.n), .d (.sl 1 (strs a.cols)), .d (.sl 1 (rowsD a.rows))]), (101, .box 30 [.d (.i b.kind), .d (.s (S b.s)), .d (.i b.dn), .d (.i b.ds), .d (.i b.n), .d (.sl 1 (strs b.cols)), .d (.sl 1 (rowsD b.rows))])]⟩) (by kernel_rfl) conj0 rfl ?_
      refine zc hG [] [1, 0, 1, 0, 1, 1, 1, 1, 1, 0, 1, 0, 1, 1] (!decide ((((strs a.cols).length : Int) : Int) = ((strs b.cols).length : Int))) (by kernel_rfl) conj0 (fun hc8 => ?_) (fun hc8 => ?_)
      ·(try simp only [zq4] at hc8)
       refine zR hG [] [] (.c (.d (.i (((strs a.cols).length : Int) - ((strs b.cols).length : Int))))) [] (by kernel_rfl) (conj1 (show inR (((strs a.cols).length : Int) - ((strs b.cols).length : Int)) from (by intros; first | decide | omega | ((try simp only [zq26] at *); omega)))) ?_ ?_
       ·have e : rlC Lib.compareBytes a.cols b.cols = (a.cols.length : Int) - b.cols.length := by rw [hl, rlC_end _ (by omega) hk1 hk2]
        rw [rvC, if_pos (by omega), if_pos (by omega), rtC, e, if_neg (by omega)]; simp [strs]
       ·rfl
      ·(try simp only [zq4] at hc8)
       have hlc : rlC Lib.compareBytes a.cols b.cols = 0 := by rw [hl, rlC_end _ (by omega) hk1 hk2]; omega
       refine zL hG [] [0, 1, 0, 1, 1, 0, 1, 1, 1, 1, 1, 0, 1, 0, 1, 1] (fun (zz : Nat) => match zz with | k => (a.rows.length - k, ⟨[(2, [], .c (.bx 100 0)), (3, [], .c (.bx 101 0)), (4, [], .c (.d (.i 0))), (7, [], .c (.d (.i (k : Int))))], [(100, .box 30 [.d (.i a.kind), .d (.s (S a.s)), .d (.i a.dn), .d (.i a.ds), .d (.i a.n), .d (.sl 1 (strs a.cols)), .d (.sl 1 (rowsD a.rows))]), (101, .box 30 [.d (.i b.kind), .d (.s (S b.s)), .d (.i b.dn), .d (.i b.ds), .d (.i b.n), .d (.sl 1 (strs b.cols)), .d (.sl 1 (rowsD b.rows))])]⟩, k ≤ a.rows.length ∧ k ≤ b.rows.length ∧ rlC (rlC rclC) a.rows b.rows = rlC (rlC rclC) (a.rows.drop k) (b.rows.drop k))) 0 (by kernel_rfl) conj0 (by kernel_rfl) ?_ ?_
       ·exact ⟨Nat.zero_le _, Nat.zero_le _, rfl⟩
       rintro k ⟨hk1, hk2, hl⟩
       refine zc hG [] [1, 0] ((decide (((k : Int) : Int) < ((rowsD a.rows).length : Int))) && (decide (((k : Int) : Int) < ((rowsD b.rows).length : Int)))) (by kernel_rfl) conj0 (fun hc10 => ?_) (fun hc10 => ?_)
       ·(try simp only [zq4] at hc10)
        refine zC hG [(20, 3, .elem (rows1 ((a.rows).getD k []))), (20, 8, .elem (rows1 ((b.rows).getD k []))), (20, 10, .call (.c (.d (.i (rlC rclC ((a.rows).getD k []) ((b.rows).getD k []))))) [] [])] [1, 1, 0, 0, 1] (!decide ((rlC rclC ((a.rows).getD k []) ((b.rows).getD k []) : Int) = 0)) (⟨[(2, [], .c (.bx 100 0)), (3, [], .c (.bx 101 0)), (4, [], .c (.d (.i 0))), (7, [], .c (.d (.i (k : Int)))), (8, [], .c (.d (.i (rlC rclC ((a.rows).getD k []) ((b.rows).getD k [])))))], [(100, .box 30 [.d (.i a.kind), .d (.s (S a.s)), .d (.i a.dn), .d (.i a.ds), .d (.i a.n), .d (.sl 1 (strs a.cols)), .d (.sl 1 (rowsD a.rows))]), (101, .box 30 [.d (.i b.kind), .d (.s (S b.s)), .d (.i b.dn), .d (.i b.ds), .d (.i b.n), .d (.sl 1 (strs b.cols)), .d (.sl 1 (rowsD b.rows))])]⟩) (by kernel_rfl) (conjC (show (0 : Int) ≤ (k : Int) ∧ (rowsD a.rows)[k]? = some (rows1 ((a.rows).getD k [])) from (by intros; exact map_at _ (by omega) (by (try simp only [zq7] at *); omega))) (conjC (show (0 : Int) ≤ (k : Int) ∧ (rowsD b.rows)[k]? = some (rows1 ((b.rows).getD k [])) from (by intros; exact map_at _ (by omega) (by (try simp only [zq7] at *); omega))) (conj1 ((rcells_ok ((a.rows).getD k []) ((b.rows).getD k []) (hra _ (getD_mem (by omega))).2 (hrb _ (getD_mem (by omega))).2 : SpG (gT m) _ _ _ _ _))))) (fun hc11 => ?_) (fun hc11 => ?_)
        ·(try simp only [zq4] at hc11)
         refine zE hG [] .ret (⟨[(2, [], .c (.bx 100 0)), (3, [], .c (.bx 101 0)), (4, [], .c (.d (.i (rlC rclC ((a.rows).getD k []) ((b.rows).getD k [])))))], [(100, .box 30 [.d (.i a.kind), .d (.s (S a.s)), .d (.i a.dn), .d (.i a.ds), .d (.i a.n), .d (.sl 1 (strs a.cols)), .d (.sl 1 (rowsD a.rows))]), (101, .box 30 [.d (.i b.kind), .d (.s (S b.s)), .d (.i b.dn), .d (.i b.ds), .d (.i b.n), .d (.sl 1 (strs b.cols)), .d (.sl 1 (rowsD b.rows))])]⟩) (by kernel_rfl) conj0 rfl ?_
         refine zR hG [] [] (.c (.d (.i (rlC rclC ((a.rows).getD k []) ((b.rows).getD k []))))) [] (by kernel_rfl) conj0 ?_ ?_
         ·have e := hlc
          rw [rvC, if_pos (by omega), if_pos (by omega), rtC, if_pos e, hl, rlC_step _ [] (by omega) (by omega), if_neg hc11]
         ·rfl
        ·(try simp only [zq4] at hc11)
         refine zD hG [] (k + 1) (by kernel_rfl) (conj1 (show inR ((k : Int) + 1) from (by intros; first | decide | omega | ((try simp only [zq26] at *); omega)))) ?_ ?_
         ·(try dsimp only); omega
         ·refine ⟨by omega, by omega, ?_⟩
          rw [hl, rlC_step _ [] (by omega) (by omega), if_pos (by omega)]
       ·(try simp only [zq4] at hc10)
        refine zE hG [] (.exit 3) (⟨[(2, [], .c (.bx 100 0)), (3, [], .c (.bx 101 0)), (4, [], .c (.d (.i 0)))], [(100, .box 30 [.d (.i a.kind), .d (.s (S a.s)), .d (.i a.dn), .d (.i a.ds), .d (.i a.n), .d (.sl 1 (strs a.cols)), .d (.sl 1 (rowsD a.rows))]), (101, .box 30 [.d (.i b.kind), .d (.s (S b.s)), .d (.i b.dn), .d (.i b.ds), .d (.i b.n), .d (.sl 1 (strs b.cols)), .d (.sl 1 (rowsD b.rows))])]⟩) (by kernel_rfl) conj0 rfl ?_
        refine zR hG [] [] (.c (.d (.i (((rowsD a.rows).length : Int) - ((rowsD b.rows).length : Int))))) [] (by kernel_rfl) (conj1 (show inR (((rowsD a.rows).length : Int) - ((rowsD b.rows).length : Int)) from (by intros; first | decide | omega | ((try simp only [zq26] at *); omega)))) ?_ ?_
        ·have e := hlc
         rw [rvC, if_pos (by omega), if_pos (by omega), rtC, if_pos e, hl, rlC_end _ (by omega) hk1 hk2]; simp [rowsD]
        ·rfl
    ·(try simp only [zq4] at hc4)
     refine zR hG [] [] (.c (.d (.i (a.n - b.n)))) [] (by kernel_rfl) (conj1 (show inR (a.n - b.n) from (by intros; first | decide | omega | ((try simp only [zq26] at *); omega)))) ?_ ?_
     ·rw [rvC, if_pos (by omega), if_neg (by omega), rkC, if_neg (by omega), if_neg (by omega)]; rfl
     ·rfl
end Go.Proofs.YtmpgfchkkemngaaGreatDoor
namespace Go.Proofs.YtmpgfchkkemngaaGreatDoor
open Go.RowKit Go.V
open Go.Eng (inR byteAt u8 bytesV)
variable {m : Int}
def allV (x y : List Int) (a b c d e f : Int) : List Vl := [madeV x, madeV y, oddV (madeV x) a b c, oddV (madeV y) d e f, oddV (madeV x) d e f]
theorem all_len (x y : List Int) (a b c d e f : Int) : (allV x y a b c d e f).length = 5 := rfl
theorem all_fit (x y : List Int) (a b c d e f : Int) : ∀ v, v ∈ allV x y a b c d e f → v.fit := by
 intro v hv
 have t0 := made_tiny x
 have t1 := made_tiny y
 simp only [allV, List.mem_cons, List.mem_nil_iff, or_false] at hv
 rcases hv with rfl | rfl | rfl | rfl | rfl
 ·exact t0.fit (by decide)
 ·exact t1.fit (by decide)
 ·exact (odd_tiny t0 a b c).fit (by decide)
 ·exact (odd_tiny t1 d e f).fit (by decide)
 ·exact (odd_tiny t0 d e f).fit (by decide)
theorem refLess_ok (a b : Vl) (ha : a.fit) (hb : b.fit) :
  SpG (gT m) 32 [.agg [.d (.i a.kind), .d (.s (S a.s)), .d (.i a.dn), .d (.i a.ds), .d (.i a.n), .d (.sl 1 (strs a.cols)), .d (.sl 1 (rowsD a.rows))], .agg [.d (.i b.kind), .d (.s (S b.s)), .d (.i b.dn), .d (.i b.ds), .d (.i b.n), .d (.sl 1 (strs b.cols)), .d (.sl 1 (rowsD b.rows))]] [] (.c (.d (.b (lessB a b)))) [] := by
 refine enterB 26 Tryz.func32 (by kernel_rfl) fun fr hG => ?_
 refine zC hG [(1, 1, .call (.c (.d (.b (rightB a)))) [] []), (2, 1, .call (.c (.d (.b (rightB b)))) [] [])] [1, 0, 1, 1, 1] ((!(rightB a)) || (!(rightB b))) (⟨[(2, [], .c (.bx 100 0)), (3, [], .c (.bx 101 0)), (4, [], .c (.d (.b false))), (5, [], .c (.d (.b (rightB a)))), (6, [], .c (.d (.b (rightB b))))], [(100, .box 30 [.d (.i a.kind), .d (.s (S a.s)), .d (.i a.dn), .d (.i a.ds), .d (.i a.n), .d (.sl 1 (strs a.cols)), .d (.sl 1 (rowsD a.rows))]), (101, .box 30 [.d (.i b.kind), .d (.s (S b.s)), .d (.i b.dn), .d (.i b.ds), .d (.i b.n), .d (.sl 1 (strs b.cols)), .d (.sl 1 (rowsD b.rows))])]⟩) (by kernel_rfl) (conjC ((refRight_ok a (by assumption) : SpG (gT m) _ _ _ _ _)) (conj1 ((refRight_ok b (by assumption) : SpG (gT m) _ _ _ _ _)))) (fun hc1 => ?_) (fun hc1 => ?_)
 ·(try simp only [blS] at hc1)
  refine zR hG [] [] (.c (.d (.b ((rightB a) && (!(rightB b)))))) [] (by kernel_rfl) conj0 ?_ ?_
  ·rw [lessB, if_neg (by rintro ⟨h1, h2⟩; rcases hc1 with h | h <;> simp_all)]
   rcases hc1 with h | h <;> simp [h]
  ·rfl
 ·(try simp only [blS] at hc1)
  obtain ⟨hra, hrb⟩ : rightB a = true ∧ rightB b = true := hc1
  refine zR hG [(5, 2, .call (.c (.d (.i (rvC a b)))) [] [])] [] (.c (.d (.b (decide ((rvC a b : Int) < 0))))) [] (by kernel_rfl) (conj1 ((rvl_ok a b (by assumption) (by assumption) : SpG (gT m) _ _ _ _ _))) ?_ ?_
  ·have hs := (sg_val a b).1
   rw [lessB_eq hra hrb]; simp only [hs]
  ·rfl
def zq27 := And.intro @List.length_map.{0, 0} (And.intro @blS (@valsD.eq_1))
def zq28 := And.intro @List.length_map.{0, 0} (And.intro @inR.eq_1 (@valsD.eq_1))
theorem valueLess_ok (x y : List Int) (a b c d e f : Int) :
  SpG (gT m) 8 [.agg [.d (.sl 1 (intsD x)), .d (.sl 1 (intsD y))], .agg [.d (.i a), .d (.i b), .d (.i c)], .agg [.d (.i d), .d (.i e), .d (.i f)]] [] (.c (.d (.b true))) [] := by
 have t0 := made_tiny x
 have t1 := made_tiny y
 refine enterB 85 Tryz.func8 (by kernel_rfl) fun fr hG => ?_
 refine zL hG [(1, 0, .call (.c (.d (.b true))) [] []), (2, 2, .call (.agg [.d (.i ((madeV x).kind)), .d (.s (S (madeV x).s)), .d (.i ((madeV x).dn)), .d (.i ((madeV x).ds)), .d (.i ((madeV x).n)), .d (.sl 1 (strs ((madeV x).cols))), .d (.sl 1 (rowsD ((madeV x).rows)))]) [] []), (2, 5, .call (.agg [.d (.i ((madeV y).kind)), .d (.s (S (madeV y).s)), .d (.i ((madeV y).dn)), .d (.i ((madeV y).ds)), .d (.i ((madeV y).n)), .d (.sl 1 (strs ((madeV y).cols))), .d (.sl 1 (rowsD ((madeV y).rows)))]) [] []), (3, 4, .call (.agg [.d (.i ((oddV (madeV x) a b c).kind)), .d (.s (S (oddV (madeV x) a b c).s)), .d (.i ((oddV (madeV x) a b c).dn)), .d (.i ((oddV (madeV x) a b c).ds)), .d (.i ((oddV (madeV x) a b c).n)), .d (.sl 1 (strs ((oddV (madeV x) a b c).cols))), .d (.sl 1 (rowsD ((oddV (madeV x) a b c).rows)))]) [] []), (3, 7, .call (.agg [.d (.i ((oddV (madeV y) d e f).kind)), .d (.s (S (oddV (madeV y) d e f).s)), .d (.i ((oddV (madeV y) d e f).dn)), .d (.i ((oddV (madeV y) d e f).ds)), .d (.i ((oddV (madeV y) d e f).n)), .d (.sl 1 (strs ((oddV (madeV y) d e f).cols))), .d (.sl 1 (rowsD ((oddV (madeV y) d e f).rows)))]) [] []), (3, 10, .call (.agg [.d (.i ((oddV (madeV x) d e f).kind)), .d (.s (S (oddV (madeV x) d e f).s)), .d (.i ((oddV (madeV x) d e f).dn)), .d (.i ((oddV (madeV x) d e f).ds)), .d (.i ((oddV (madeV x) d e f).n)), .d (.sl 1 (strs ((oddV (madeV x) d e f).cols))), .d (.sl 1 (rowsD ((oddV (madeV x) d e f).rows)))]) [] [])] [0, 1, 0, 1, 1, 1, 1] (fun (zz : Nat) => match zz with | i => (5 - i, ⟨[(6, [], .c (.d (.b false))), (7, [], .c (.d (.b true))), (10, [], .c (.ar 411 0)), (11, [], .c (.d (.i (i : Int))))], [(411, .arr 0 30 7 (valsD (allV x y a b c d e f)))]⟩, i ≤ 5)) 0 (by kernel_rfl) (conjC ((sanity_ok : SpG (gT m) _ _ _ _ _)) (conjC ((made_ok x : SpG (gT m) _ _ _ _ _)) (conjC ((made_ok y : SpG (gT m) _ _ _ _ _)) (conjC ((odd_ok (madeV x) (t0.small (by decide)) a b c : SpG (gT m) _ _ _ _ _)) (conjC ((odd_ok (madeV y) (t1.small (by decide)) d e f : SpG (gT m) _ _ _ _ _)) (conj1 ((odd_ok (madeV x) (t0.small (by decide)) d e f : SpG (gT m) _ _ _ _ _)))))))) (by kernel_rfl) ?_ ?_
 ·exact Nat.zero_le _
 rintro i hi
 refine zc hG [] [1, 0] (decide (((i : Int) : Int) < ((valsD (allV x y a b c d e f)).length : Int))) (by kernel_rfl) conj0 (fun hc2 => ?_) (fun hc2 => ?_)
 ·(try simp only [zq27, all_len] at hc2)
  refine zL hG [] [0, 1, 0, 0, 1] (fun (zz : Nat) => match zz with | j => (5 - j, ⟨[(6, [], .c (.d (.b false))), (7, [], .c (.d (.b true))), (10, [], .c (.ar 411 0)), (11, [], .c (.d (.i (i : Int)))), (12, [], .c (.d (.i (j : Int))))], [(411, .arr 0 30 7 (valsD (allV x y a b c d e f)))]⟩, j ≤ 5)) 0 (by kernel_rfl) conj0 (by kernel_rfl) ?_ ?_
  ·exact Nat.zero_le _
  rintro j hj
  refine zc hG [] [1, 0] (decide (((j : Int) : Int) < ((valsD (allV x y a b c d e f)).length : Int))) (by kernel_rfl) conj0 (fun hc4 => ?_) (fun hc4 => ?_)
  ·(try simp only [zq27, all_len] at hc4)
   refine zc hG [(10, 3, .elem (VlD ((allV x y a b c d e f).getD i Vl.z))), (10, 7, .elem (VlD ((allV x y a b c d e f).getD j Vl.z))), (10, 8, .call (.c (.d (.b (lessB ((allV x y a b c d e f).getD i Vl.z) ((allV x y a b c d e f).getD j Vl.z))))) [] []), (10, 12, .elem (VlD ((allV x y a b c d e f).getD i Vl.z))), (10, 16, .elem (VlD ((allV x y a b c d e f).getD j Vl.z))), (10, 17, .call (.c (.d (.b (lessB ((allV x y a b c d e f).getD i Vl.z) ((allV x y a b c d e f).getD j Vl.z))))) [] []), (10, 23, .elem (VlD ((allV x y a b c d e f).getD i Vl.z))), (10, 27, .elem (VlD ((allV x y a b c d e f).getD j Vl.z))), (10, 28, .call (.c (.d (.b (decide (((allV x y a b c d e f).getD i Vl.z) = ((allV x y a b c d e f).getD j Vl.z)))))) [] []), (10, 32, .elem (VlD ((allV x y a b c d e f).getD i Vl.z))), (10, 36, .elem (VlD ((allV x y a b c d e f).getD j Vl.z))), (10, 37, .call (.c (.d (.b (decide (((allV x y a b c d e f).getD i Vl.z) = ((allV x y a b c d e f).getD j Vl.z)))))) [] [])] [1, 0, 0, 1] ((!((lessB ((allV x y a b c d e f).getD i Vl.z) ((allV x y a b c d e f).getD j Vl.z)) == (lessB ((allV x y a b c d e f).getD i Vl.z) ((allV x y a b c d e f).getD j Vl.z)))) || (!((decide (((allV x y a b c d e f).getD i Vl.z) = ((allV x y a b c d e f).getD j Vl.z))) == (decide (((allV x y a b c d e f).getD i Vl.z) = ((allV x y a b c d e f).getD j Vl.z)))))) (by kernel_rfl) (conjC (show (0 : Int) ≤ (i : Int) ∧ (i : Int) < ((valsD (allV x y a b c d e f)).length : Int) from (by intros; first | decide | (simp only [zq28, all_len] at *; omega) | exact map_nat _ (by rw [all_len]; omega))) (conjC (show (valsD (allV x y a b c d e f))[i]? = some (VlD ((allV x y a b c d e f).getD i Vl.z)) from (by intros; exact map_nat _ (by rw [all_len]; omega))) (conjC (show (0 : Int) ≤ (j : Int) ∧ (j : Int) < ((valsD (allV x y a b c d e f)).length : Int) from (by intros; first | decide | (simp only [zq28, all_len] at *; omega) | exact map_nat _ (by rw [all_len]; omega))) (conjC (show (valsD (allV x y a b c d e f))[j]? = some (VlD ((allV x y a b c d e f).getD j Vl.z)) from (by intros; exact map_nat _ (by rw [all_len]; omega))) (conjC ((less_ok ((allV x y a b c d e f).getD i Vl.z) ((allV x y a b c d e f).getD j Vl.z) (all_fit x y a b c d e f _ (getD_mem (by rw [all_len]; omega))) (all_fit x y a b c d e f _ (getD_mem (by rw [all_len]; omega))) : SpG (gT m) _ _ _ _ _)) (conjC (show (0 : Int) ≤ (i : Int) ∧ (i : Int) < ((valsD (allV x y a b c d e f)).length : Int) from (by intros; first | decide | (simp only [zq28, all_len] at *; omega) | exact map_nat _ (by rw [all_len]; omega))) (conjC (show (valsD (allV x y a b c d e f))[i]? = some (VlD ((allV x y a b c d e f).getD i Vl.z)) from (by intros; exact map_nat _ (by rw [all_len]; omega))) (conjC (show (0 : Int) ≤ (j : Int) ∧ (j : Int) < ((valsD (allV x y a b c d e f)).length : Int) from (by intros; first | decide | (simp only [zq28, all_len] at *; omega) | exact map_nat _ (by rw [all_len]; omega))) (conjC (show (valsD (allV x y a b c d e f))[j]? = some (VlD ((allV x y a b c d e f).getD j Vl.z)) from (by intros; exact map_nat _ (by rw [all_len]; omega))) (conjC ((refLess_ok ((allV x y a b c d e f).getD i Vl.z) ((allV x y a b c d e f).getD j Vl.z) (all_fit x y a b c d e f _ (getD_mem (by rw [all_len]; omega))) (all_fit x y a b c d e f _ (getD_mem (by rw [all_len]; omega))) : SpG (gT m) _ _ _ _ _)) (conjC (show (!((lessB ((allV x y a b c d e f).getD i Vl.z) ((allV x y a b c d e f).getD j Vl.z)) == (lessB ((allV x y a b c d e f).getD i Vl.z) ((allV x y a b c d e f).getD j Vl.z)))) = false → (0 : Int) ≤ (i : Int) ∧ (i : Int) < ((valsD (allV x y a b c d e f)).length : Int) from (by intros; first | decide | (simp only [zq28, all_len] at *; omega) | exact map_nat _ (by rw [all_len]; omega))) (conjC (show (!((lessB ((allV x y a b c d e f).getD i Vl.z) ((allV x y a b c d e f).getD j Vl.z)) == (lessB ((allV x y a b c d e f).getD i Vl.z) ((allV x y a b c d e f).getD j Vl.z)))) = false → (valsD (allV x y a b c d e f))[i]? = some (VlD ((allV x y a b c d e f).getD i Vl.z)) from (by intros; exact map_nat _ (by rw [all_len]; omega))) (conjC (show (!((lessB ((allV x y a b c d e f).getD i Vl.z) ((allV x y a b c d e f).getD j Vl.z)) == (lessB ((allV x y a b c d e f).getD i Vl.z) ((allV x y a b c d e f).getD j Vl.z)))) = false → (0 : Int) ≤ (j : Int) ∧ (j : Int) < ((valsD (allV x y a b c d e f)).length : Int) from (by intros; first | decide | (simp only [zq28, all_len] at *; omega) | exact map_nat _ (by rw [all_len]; omega))) (conjC (show (!((lessB ((allV x y a b c d e f).getD i Vl.z) ((allV x y a b c d e f).getD j Vl.z)) == (lessB ((allV x y a b c d e f).getD i Vl.z) ((allV x y a b c d e f).getD j Vl.z)))) = false → (valsD (allV x y a b c d e f))[j]? = some (VlD ((allV x y a b c d e f).getD j Vl.z)) from (by intros; exact map_nat _ (by rw [all_len]; omega))) (conjC (fun (hg1 : (!((lessB ((allV x y a b c d e f).getD i Vl.z) ((allV x y a b c d e f).getD j Vl.z)) == (lessB ((allV x y a b c d e f).getD i Vl.z) ((allV x y a b c d e f).getD j Vl.z)))) = false) => ((equal_ok ((allV x y a b c d e f).getD i Vl.z) ((allV x y a b c d e f).getD j Vl.z) : SpG (gT m) _ _ _ _ _))) (conjC (show (!((lessB ((allV x y a b c d e f).getD i Vl.z) ((allV x y a b c d e f).getD j Vl.z)) == (lessB ((allV x y a b c d e f).getD i Vl.z) ((allV x y a b c d e f).getD j Vl.z)))) = false → (0 : Int) ≤ (i : Int) ∧ (i : Int) < ((valsD (allV x y a b c d e f)).length : Int) from (by intros; first | decide | (simp only [zq28, all_len] at *; omega) | exact map_nat _ (by rw [all_len]; omega))) (conjC (show (!((lessB ((allV x y a b c d e f).getD i Vl.z) ((allV x y a b c d e f).getD j Vl.z)) == (lessB ((allV x y a b c d e f).getD i Vl.z) ((allV x y a b c d e f).getD j Vl.z)))) = false → (valsD (allV x y a b c d e f))[i]? = some (VlD ((allV x y a b c d e f).getD i Vl.z)) from (by intros; exact map_nat _ (by rw [all_len]; omega))) (conjC (show (!((lessB ((allV x y a b c d e f).getD i Vl.z) ((allV x y a b c d e f).getD j Vl.z)) == (lessB ((allV x y a b c d e f).getD i Vl.z) ((allV x y a b c d e f).getD j Vl.z)))) = false → (0 : Int) ≤ (j : Int) ∧ (j : Int) < ((valsD (allV x y a b c d e f)).length : Int) from (by intros; first | decide | (simp only [zq28, all_len] at *; omega) | exact map_nat _ (by rw [all_len]; omega))) (conjC (show (!((lessB ((allV x y a b c d e f).getD i Vl.z) ((allV x y a b c d e f).getD j Vl.z)) == (lessB ((allV x y a b c d e f).getD i Vl.z) ((allV x y a b c d e f).getD j Vl.z)))) = false → (valsD (allV x y a b c d e f))[j]? = some (VlD ((allV x y a b c d e f).getD j Vl.z)) from (by intros; exact map_nat _ (by rw [all_len]; omega))) (conj1 (fun (hg1 : (!((lessB ((allV x y a b c d e f).getD i Vl.z) ((allV x y a b c d e f).getD j Vl.z)) == (lessB ((allV x y a b c d e f).getD i Vl.z) ((allV x y a b c d e f).getD j Vl.z)))) = false) => ((refEqual_ok ((allV x y a b c d e f).getD i Vl.z) ((allV x y a b c d e f).getD j Vl.z) : SpG (gT m) _ _ _ _ _))))))))))))))))))))))) (fun hc5 => ?_) (fun hc5 => ?_)
   ·(try simp only [zq27, all_len] at hc5)
    exfalso; simp at hc5
   ·(try simp only [zq27, all_len] at hc5)
    refine zD hG [] (j + 1) (by kernel_rfl) (conj1 (show inR ((j : Int) + 1) from (by intros; first | decide | (simp only [zq28, all_len] at *; omega) | exact map_nat _ (by rw [all_len]; omega)))) ?_ ?_
    ·(try dsimp only); omega
    ·(try dsimp only); omega
  ·(try simp only [zq27, all_len] at hc4)
   refine zE hG [] (.exit 2) (⟨[(6, [], .c (.d (.b false))), (7, [], .c (.d (.b true))), (10, [], .c (.ar 411 0)), (11, [], .c (.d (.i (i : Int))))], [(411, .arr 0 30 7 (valsD (allV x y a b c d e f)))]⟩) (by kernel_rfl) conj0 rfl ?_
   refine zD hG [] (i + 1) (by kernel_rfl) (conj1 (show inR ((i : Int) + 1) from (by intros; first | decide | (simp only [zq28, all_len] at *; omega) | exact map_nat _ (by rw [all_len]; omega)))) ?_ ?_
   ·(try dsimp only); omega
   ·(try dsimp only); omega
 ·(try simp only [zq27, all_len] at hc2)
  refine zE hG [] (.exit 0) (⟨[(6, [], .c (.d (.b false))), (7, [], .c (.d (.b true)))], []⟩) (by kernel_rfl) conj0 rfl ?_
  exact zr hG [] [] (by kernel_rfl) conj0
end Go.Proofs.YtmpgfchkkemngaaGreatDoor
